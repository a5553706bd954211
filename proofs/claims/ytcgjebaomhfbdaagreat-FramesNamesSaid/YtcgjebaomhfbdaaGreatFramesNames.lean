/- The law FramesNames returns true, and what came in reads as it did: for every world in which it is called. -/
import Derived.Test.YtcgjebaomhfbdaaGreatVmRun
import Derived.Test.YtcgjebaomhfbdaaGreatRows
import Derived.JoinedOf
namespace Go.Proofs.YtcgjebaomhfbdaaGreat.framesNames
open Go Go.RowKit Go.Proofs.YtcgjebaomhfbdaaGreat.Vm
theorem own : ownKnob Tryz.prog.godebug = none := by kernel_rfl
set_option maxRecDepth 100000 in
theorem lifted (os : Os) (started : os.Started) (H : Type) (enc : TypeId × Value → H) :
    ReturnsInHanded {} Tryz.checked os 4 .any (Rows.framesNamesSpec.pre6 enc Tryz.prog Tryz.f4 Rows.framesNamesRow.domain false) (Rows.framesNamesSpec.post enc Tryz.prog Tryz.f4 false true false false) :=
  law_row (C := Tryz.checked) (E := env) (k := 8) (rt := Tryz.f4.resultTypes.getD 0 0) #[] env_ok ext_ok fns.1 mixed own started (by kernel_rfl) Tryz.func4 (by kernel_rfl) (by kernel_rfl) (by kernel_rfl) (by kernel_rfl) (by kernel_rfl)
    (by kernel_rfl) (by kernel_rfl) (by kernel_rfl) (by kernel_rfl) rfl (fun ds h => by
      cases ds with
      | nil => rfl
      | cons d ds => exact absurd h (by simp [Tryz.params4])) (by
      rw [show Tryz.f4.params = #[] from by kernel_rfl]
      exact law)
theorem over : Rows.framesNamesRow.holds Tryz.pinned (OpenSpec.ofChange Rows.framesNamesSpec) :=
  OpenClaim.holds_of_wide 4 Tryz.f4 rfl rfl rfl rfl rfl rfl rfl ⟨rfl, rfl, rfl, rfl, rfl⟩ rfl rfl rfl rfl rfl (by kernel_rfl) Tryz.func4 (by kernel_rfl)
    (of_decide_eq_true (by kernel_rfl)) (by unfold Func.isWrapper; first | (rw [if_pos (by decide +kernel)]; kernel_rfl) | (rw [if_neg (by decide +kernel)]; exact ⟨rfl, rfl⟩))
    (fun os started H enc _ => lifted os started H enc)
theorem proved : Rows.FramesNamesSaid := over
#print axioms proved
end Go.Proofs.YtcgjebaomhfbdaaGreat.framesNames
namespace Go.Proofs.YtcgjebaomhfbdaaGreat
/-- The row, under a short name, for the claim. -/
theorem framesNames_holds : Rows.FramesNamesSaid := framesNames.proved
end Go.Proofs.YtcgjebaomhfbdaaGreat
