/- The law UnrollNames returns true, and what came in reads as it did: for every world in which it is called. -/
import Derived.Test.YtbmhmfcjjhjkgaaVmRun
import Derived.Test.YtbmhmfcjjhjkgaaRows
import Derived.JoinedOf
namespace Go.Proofs.Ytbmhmfcjjhjkgaa.unrollNames
open Go Go.RowKit Go.Proofs.Ytbmhmfcjjhjkgaa.Vm
theorem own : ownKnob Try.prog.godebug = none := by kernel_rfl
set_option maxRecDepth 100000 in
theorem lifted (os : Os) (started : os.Started) (H : Type) (enc : TypeId × Value → H) :
    ReturnsInHanded {} Try.checked os 8 .any (Rows.unrollNamesSpec.pre6 enc Try.prog Try.f8 Rows.unrollNamesRow.domain false) (Rows.unrollNamesSpec.post enc Try.prog Try.f8 false true false false) :=
  law_row (C := Try.checked) (E := env) (k := 8) (rt := Try.f8.resultTypes.getD 0 0) #[] env_ok ext_ok fns.1 mixed own started (by kernel_rfl) Try.func8 (by kernel_rfl) (by kernel_rfl) (by kernel_rfl) (by kernel_rfl) (by kernel_rfl)
    (by kernel_rfl) (by kernel_rfl) (by kernel_rfl) (by kernel_rfl) rfl (fun ds h => by
      cases ds with
      | nil => rfl
      | cons d ds => exact absurd h (by simp [Try.params8])) (by
      rw [show Try.f8.params = #[] from by kernel_rfl]
      exact law)
theorem over : Rows.unrollNamesRow.holds Try.pinned (OpenSpec.ofChange Rows.unrollNamesSpec) :=
  OpenClaim.holds_of_wide 8 Try.f8 rfl rfl rfl rfl rfl rfl rfl ⟨rfl, rfl, rfl, rfl, rfl⟩ rfl rfl rfl rfl rfl (by kernel_rfl) Try.func8 (by kernel_rfl)
    (of_decide_eq_true (by kernel_rfl)) (by unfold Func.isWrapper; first | (rw [if_pos (by decide +kernel)]; kernel_rfl) | (rw [if_neg (by decide +kernel)]; exact ⟨rfl, rfl⟩))
    (fun os started H enc _ => lifted os started H enc)
theorem proved : Rows.UnrollNamesSaid := over
#print axioms proved
end Go.Proofs.Ytbmhmfcjjhjkgaa.unrollNames
namespace Go.Proofs.Ytbmhmfcjjhjkgaa
/-- The row, under a short name, for the claim. -/
theorem unrollNames_holds : Rows.UnrollNamesSaid := unrollNames.proved
end Go.Proofs.Ytbmhmfcjjhjkgaa
