/- The law PushNames returns true, and what came in reads as it did: for every world in which it is called. -/
import Derived.Test.YtcgjebaomhfbdaaGreatVmRun
import Derived.Test.YtcgjebaomhfbdaaGreatRows
import Derived.JoinedOf
namespace Go.Proofs.YtcgjebaomhfbdaaGreat.pushNames
open Go Go.RowKit Go.Proofs.YtcgjebaomhfbdaaGreat.Vm
theorem own : ownKnob Tryz.prog.godebug = none := by kernel_rfl
set_option maxRecDepth 100000 in
theorem lifted (os : Os) (started : os.Started) (H : Type) (enc : TypeId × Value → H) :
    ReturnsInHanded {} Tryz.checked os 6 .any (Rows.pushNamesSpec.pre6 enc Tryz.prog Tryz.f6 Rows.pushNamesRow.domain false) (Rows.pushNamesSpec.post enc Tryz.prog Tryz.f6 false true false false) :=
  law_row (C := Tryz.checked) (E := env) (k := 8) (rt := Tryz.f6.resultTypes.getD 0 0) #[] env_ok ext_ok fns.1 mixed own started (by kernel_rfl) Tryz.func6 (by kernel_rfl) (by kernel_rfl) (by kernel_rfl) (by kernel_rfl) (by kernel_rfl)
    (by kernel_rfl) (by kernel_rfl) (by kernel_rfl) (by kernel_rfl) rfl (fun ds h => by
      cases ds with
      | nil => rfl
      | cons d ds => exact absurd h (by simp [Tryz.params6])) (by
      rw [show Tryz.f6.params = #[] from by kernel_rfl]
      exact law)
theorem over : Rows.pushNamesRow.holds Tryz.pinned (OpenSpec.ofChange Rows.pushNamesSpec) :=
  OpenClaim.holds_of_wide 6 Tryz.f6 rfl rfl rfl rfl rfl rfl rfl ⟨rfl, rfl, rfl, rfl, rfl⟩ rfl rfl rfl rfl rfl (by kernel_rfl) Tryz.func6 (by kernel_rfl)
    (of_decide_eq_true (by kernel_rfl)) (by unfold Func.isWrapper; first | (rw [if_pos (by decide +kernel)]; kernel_rfl) | (rw [if_neg (by decide +kernel)]; exact ⟨rfl, rfl⟩))
    (fun os started H enc _ => lifted os started H enc)
theorem proved : Rows.PushNamesSaid := over
#print axioms proved
end Go.Proofs.YtcgjebaomhfbdaaGreat.pushNames
namespace Go.Proofs.YtcgjebaomhfbdaaGreat
/-- The row, under a short name, for the claim. -/
theorem pushNames_holds : Rows.PushNamesSaid := pushNames.proved
end Go.Proofs.YtcgjebaomhfbdaaGreat
