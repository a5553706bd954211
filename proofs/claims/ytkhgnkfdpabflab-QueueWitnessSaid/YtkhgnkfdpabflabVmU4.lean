/- Frames: the program's and the reference's clauses of frames are one. -/
import Derived.Test.YtkhgnkfdpabflabVmU3
namespace Go.Proofs.Ytkhgnkfdpabflab.Vm
open Go
set_option linter.unusedVariables false
set_option linter.unusedSimpArgs false
def LitRow (v : Int) (row : List Int) (n : Nat) : Prop := (∀ x ∈ row, 0 ≤ x ∧ x ≤ 2 * v + 1) ∧ row.length = n
theorem LitRow.ok {v : Int} {row : List Int} {n : Nat} (h : LitRow v row n) (hv : v ≤ 1000000) : RowOk row := fun x hx => by have := h.1 x hx; omega
theorem LitRow.snoc {v v' : Int} {row : List Int} {n : Nat} (h : LitRow v row n) {x : Int} (hv : v ≤ v') (hx : 0 ≤ x ∧ x ≤ 2 * v' + 1) : LitRow v' (row ++ [x]) (n + 1) := by
  refine ⟨fun y hy => ?_, by simp [h.2]⟩
  rcases List.mem_append.1 hy with hy | hy
  · have := h.1 y hy; omega
  · rw [List.mem_singleton.1 hy]; exact hx
theorem big_ge : (1000000 : Nat) ≤ big := by decide
theorem notI_le {x v : Int} (h0 : 0 ≤ x) (h1 : x ≤ 2 * v + 1) : 0 ≤ notI x ∧ notI x ≤ 2 * v + 1 := by unfold notI; split <;> omega
theorem two (P : Int → Prop) {a b : Int} (h1 : P a) (h2 : P b) : ∀ x ∈ [a, b], P x := by
  intro x hx
  simp only [List.mem_cons, List.not_mem_nil, or_false] at hx
  rcases hx with rfl | rfl <;> assumption
end Go.Proofs.Ytkhgnkfdpabflab.Vm
