/- The law QueueNames returns true, and what came in reads as it did: for every world in which it is called. -/
import Derived.Test.YtkhgnkfdpabflaaVmD1QueueNames
import Derived.Test.YtkhgnkfdpabflaaVmN13
import Derived.Test.YtkhgnkfdpabflaaRows
import Derived.JoinedOf
set_option maxRecDepth 100000
set_option linter.unusedVariables false
namespace Go.Proofs.Ytkhgnkfdpabflaa.Vm
open Go
theorem law : Law Try.prog env 8 k_law38_QueueNames [] := by
  intro xs h
  have e0 := argsT_nil h
  subst e0
  have e : argVs Try.prog [] [] = [] := by
    simp only [argVs]
  rw [e]
  exact ansL_true (s_law38_QueueNames_ok (plain_QueueNames ))
end Go.Proofs.Ytkhgnkfdpabflaa.Vm
namespace Go.Proofs.Ytkhgnkfdpabflaa.queueNames
open Go Go.RowKit Go.Proofs.Ytkhgnkfdpabflaa.Vm
theorem own : ownKnob Try.prog.godebug = none := by kernel_rfl
set_option maxRecDepth 100000
set_option linter.unusedVariables false in
theorem lifted (os : Os) (started : os.Started) (H : Type) (enc : TypeId × Value → H) :
    ReturnsInHanded {} Try.checked os 8 .any (Rows.queueNamesSpec.pre6 enc Try.prog Try.f8 Rows.queueNamesRow.domain false) (Rows.queueNamesSpec.post enc Try.prog Try.f8 false true false false) :=
  law_row (C := Try.checked) (E := env) (k := 8) (rt := Try.f8.resultTypes.getD 0 0) #[] env_ok ext_ok fns.1 mixed own started (by kernel_rfl) Try.func8 (by kernel_rfl) (by kernel_rfl) (by kernel_rfl) (by kernel_rfl) (by kernel_rfl)
    (by kernel_rfl) (by kernel_rfl) (by kernel_rfl) (by kernel_rfl) rfl (fun ds h => by
      have h2 : ds.length = 0 := h.trans (by kernel_rfl)
      match ds, h2 with
      | [], _ => rfl) (by
      rw [show Try.f8.params = #[] from by kernel_rfl]
      exact law)
theorem over : Rows.queueNamesRow.holds Try.pinned (OpenSpec.ofChange Rows.queueNamesSpec) :=
  OpenClaim.holds_of_wide 8 Try.f8 rfl rfl rfl rfl rfl rfl rfl ⟨rfl, rfl, rfl, rfl, rfl⟩ rfl rfl rfl rfl rfl (by kernel_rfl) Try.func8 (by kernel_rfl)
    (of_decide_eq_true (by kernel_rfl)) (by unfold Func.isWrapper; first | (rw [if_pos (by decide +kernel)]; kernel_rfl) | (rw [if_neg (by decide +kernel)]; exact ⟨rfl, rfl⟩))
    (fun os started H enc _ => lifted os started H enc)
theorem proved : Rows.QueueNamesSaid := over
#print axioms proved
end Go.Proofs.Ytkhgnkfdpabflaa.queueNames
namespace Go.Proofs.Ytkhgnkfdpabflaa
theorem queueNames_holds : Rows.QueueNamesSaid := queueNames.proved
end Go.Proofs.Ytkhgnkfdpabflaa
