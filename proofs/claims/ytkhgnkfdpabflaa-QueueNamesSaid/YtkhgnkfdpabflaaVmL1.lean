/- Out of a law's arguments, typed data; and the law, out of what its body answers. -/
import Derived.Test.YtkhgnkfdpabflaaVmP4
import Derived.Test.YtkhgnkfdpabflaaVmW0
namespace Go.Proofs.Ytkhgnkfdpabflaa.Vm
open Go
set_option linter.unusedVariables false
set_option linter.unusedSimpArgs false
def All2 {α β : Type} (R : α → β → Prop) : List α → List β → Prop
  | [], [] => True
  | a :: as, b :: bs => R a b ∧ All2 R as bs
  | _, _ => False
theorem All2.of {α β : Type} {R : α → β → Prop} : ∀ {as : List α} {bs : List β}, bs.length = as.length → (∀ (i : Nat) a b, as[i]? = some a → bs[i]? = some b → R a b) → All2 R as bs
  | [], [], _, _ => trivial
  | a :: as, b :: bs, hl, h => ⟨h 0 a b rfl rfl, All2.of (by simpa using hl) fun i a b ha hb => h (i + 1) a b (by simpa using ha) (by simpa using hb)⟩
  | [], _ :: _, hl, _ => by simp at hl
  | _ :: _, [], hl, _ => by simp at hl
theorem argsT_nil {P : Program} {k : Nat} : ∀ {xs : List (List T)}, ArgsT P k [] xs → xs = []
  | [], _ => rfl
  | _ :: _, h => h.elim
section
variable {P : Program} {k : Nat} {t : TypeId}
end
theorem ansL_true {E : Env} {f : Nat} {xs : List V} (h : AnsL E f xs (.d true (.bool true))) : ∃ p σ, Ev E (.fn f xs []) (.fn (.d p (.bool true)) σ) := by
  obtain ⟨r, σ, hr, rfl⟩ := h
  exact ⟨true, σ, hr⟩
end Go.Proofs.Ytkhgnkfdpabflaa.Vm
