/- Of and Free: the program's and the reference's clauses are the same. -/
import Derived.Test.YtkhgnkfdpabflabVmU5
import Derived.Test.YtkhgnkfdpabflabVmY13
namespace Go.Proofs.Ytkhgnkfdpabflab.Vm
open Go
set_option linter.unusedVariables false
set_option linter.unusedSimpArgs false
theorem foldl_snoc {α β : Type} (g : α → β) : ∀ (l : List α) (b : List β), l.foldl (fun b x => b ++ [g x]) b = b ++ l.map g
  | [], b => by simp
  | x :: l, b => by rw [List.foldl_cons, foldl_snoc g l]; simp
theorem Lp_map {α β R : Type} {l : List α} (g : α → β) {f : List β × Int → Option ((List β × Int) ⊕ R)} (out : List β → R) (hl : l.length < 9223372036854775807)
    (hs : ∀ (i : Nat) (x : α) (b : List β), l[i]? = some x → b.length = i → f (b, i) = some (.inl (b ++ [g x], IntKind.wrap .i64 ((i : Int) + 1)))) (he : ∀ b, f (b, l.length) = some (.inr (out b))) : Lp f ([], 0) = some (out (l.map g)) := by
  have := (Lp_fold (l := l) (fun b x => b ++ [g x]) (fun i b => b.length = i) (fun b i => (b, i)) (f := f) out hl (fun i x b hx hP => ⟨hs i x b hx hP, by simp [hP]⟩) (fun b _ => he b) [] rfl).1
  rw [this, foldl_snoc]; rfl
section
variable {c : S_Circuit}
end
end Go.Proofs.Ytkhgnkfdpabflab.Vm
