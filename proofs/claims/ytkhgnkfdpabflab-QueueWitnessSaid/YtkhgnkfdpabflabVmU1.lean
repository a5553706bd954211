/- What the small functions answer: literals, lists of literals. -/
import Derived.Test.YtkhgnkfdpabflabVmU1a
import Derived.Test.YtkhgnkfdpabflabVmL0
namespace Go.Proofs.Ytkhgnkfdpabflab.Vm
open Go
set_option linter.unusedVariables false
set_option linter.unusedSimpArgs false
def notI (x : Int) : Int := if x % 2 = 0 then x + 1 else x - 1
theorem bv_of {x : Int} (h0 : 0 ≤ x) (h1 : x < 4611686018427387904) : (BitVec.ofInt 64 x).toNat = x.toNat := by
  rw [BitVec.toNat_ofInt]
  have e : ((2 ^ 64 : Nat) : Int) = 18446744073709551616 := rfl
  have : x % ((2 ^ 64 : Nat) : Int) = x := Int.emod_eq_of_lt h0 (by rw [e]; omega)
  rw [this]
theorem wrap_nat {n : Nat} (h : n < 9223372036854775807) : IntKind.wrap .i64 (n : Int) = n := wr (by omega) (by omega)
theorem and_one {x : Int} (h0 : 0 ≤ x) (h1 : x < 4611686018427387904) : andI .i64 x 1 = x % 2 := by
  have e : (BitVec.ofInt IntKind.i64.bits x &&& BitVec.ofInt IntKind.i64.bits 1).toNat = x.toNat % 2 := by
    show (BitVec.ofInt 64 x &&& BitVec.ofInt 64 1).toNat = _
    rw [BitVec.toNat_and, bv_of h0 h1, bv_of (by decide) (by decide)]
    exact Nat.and_one_is_mod _
  unfold andI
  rw [e, wrap_nat (by omega)]
  omega
def litx (row : List Int) (l : Int) : Int := if l % 2 = 1 then notI (row.getD (l / 2).toNat 0) else row.getD (l / 2).toNat 0
def RowOk (row : List Int) : Prop := ∀ x ∈ row, 0 ≤ x ∧ x < 4611686018427387904
theorem UpW.up : ∀ {l : List Int}, UpW l → l.Nodup → Up l
  | [], _, _ => trivial
  | [_], _, _ => trivial
  | x :: y :: l, h, hn => by
    have hn' := List.nodup_cons.1 hn
    refine ⟨?_, UpW.up h.2 hn'.2⟩
    have : x ≠ y := fun e => hn'.1 (by rw [e]; simp)
    have := h.1
    omega
theorem Up.w : ∀ {l : List Int}, Up l → UpW l
  | [], _ => trivial
  | [_], _ => trivial
  | x :: y :: l, h => ⟨by have := h.1; omega, Up.w h.2⟩
theorem Up.nodup : ∀ {l : List Int}, Up l → l.Nodup
  | [], _ => List.nodup_nil
  | x :: l, h => List.nodup_cons.2 ⟨fun hx => by have := Up.lt h x hx; omega, Up.nodup h.tail⟩
end Go.Proofs.Ytkhgnkfdpabflab.Vm
