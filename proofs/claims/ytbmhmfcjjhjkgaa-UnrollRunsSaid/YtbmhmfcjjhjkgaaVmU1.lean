/- What the small functions answer: literals, lists of literals. -/
import Derived.Test.YtbmhmfcjjhjkgaaVmH5
import Derived.Test.YtbmhmfcjjhjkgaaVmL0
namespace Go.Proofs.Ytbmhmfcjjhjkgaa.Vm
open Go
set_option linter.unusedVariables false
set_option linter.unusedSimpArgs false
theorem Lp_find {α R : Type} {l : List α} (p : Nat → α → Bool) {f : Int → Option (Int ⊕ R)} {r0 : R} (r1 : Int → R) (hl : l.length < 9223372036854775807)
    (hs : ∀ (i : Nat) (x : α), l[i]? = some x → f i = some (if p i x then .inr (r1 i) else .inl (IntKind.wrap .i64 ((i : Int) + 1)))) (he : f l.length = some (.inr r0)) :
    ∃ r, Lp f 0 = some r ∧ ((∀ i x, l[i]? = some x → p i x = false) ∧ r = r0 ∨ ∃ (i : Nat) (x : α), l[i]? = some x ∧ p i x = true ∧ r = r1 i) := by
  have key : ∀ (m : Nat) (i : Nat), i + m = l.length → (∀ j x, j < i → l[j]? = some x → p j x = false) → ∃ r, Lp f i = some r ∧ ((∀ i x, l[i]? = some x → p i x = false) ∧ r = r0 ∨ ∃ (i : Nat) (x : α), l[i]? = some x ∧ p i x = true ∧ r = r1 i) := by
    intro m
    induction m with
    | zero =>
      intro i hi hb
      have : i = l.length := by omega
      subst this
      refine ⟨r0, Lp_out he, .inl ⟨fun j x hx => hb j x ?_ hx, rfl⟩⟩
      rw [List.getElem?_eq_some_iff] at hx
      exact hx.1
    | succ m ih =>
      intro i hi hb
      obtain ⟨x, hx⟩ : ∃ x, l[i]? = some x := ⟨l[i], List.getElem?_eq_getElem (by omega)⟩
      have h := hs i x hx
      rw [wr1 (by omega)] at h
      cases hp : p i x with
      | true => rw [hp] at h; exact ⟨r1 i, Lp_out h, .inr ⟨i, x, hx, hp, rfl⟩⟩
      | false =>
        rw [hp] at h
        obtain ⟨r, h1, h2⟩ := ih (i + 1) (by omega) (fun j y hj hy => by
          by_cases e : j = i
          · subst e; rw [hx] at hy; cases hy; exact hp
          · exact hb j y (by omega) hy)
        exact ⟨r, by rw [Lp_step h]; exact h1, h2⟩
  exact key l.length 0 (by omega) (fun j _ hj => by omega)
theorem lt_len {α : Type} {l : List α} {i : Nat} {x : α} (h : l[i]? = some x) : i < l.length := by rw [List.getElem?_eq_some_iff] at h; exact h.1
theorem dec_lt {i n : Nat} (h : i < n) : decide ((i : Int) < (n : Int)) = true := by simp; omega
theorem dec_ge (n : Nat) : decide ((n : Int) < (n : Int)) = false := by simp
def notI (x : Int) : Int := if x % 2 = 0 then x + 1 else x - 1
theorem notI_nat (n : Nat) : ((n ^^^ 1 : Nat) : Int) = notI n := by
  unfold notI
  have h1 : (n ^^^ 1) / 2 = n / 2 := by
    have := Nat.xor_div_two (a := n) (b := 1)
    simpa using this
  have h2 := Nat.xor_mod_two_eq_one (a := n) (b := 1)
  have h3 : (1 : Nat) % 2 = 1 := rfl
  have h4 : (n ^^^ 1) % 2 = (n + 1) % 2 := by
    by_cases h : n % 2 = 1
    · have : ¬ (n ^^^ 1) % 2 = 1 := fun e => (h2.1 e) ⟨fun _ => h3, fun _ => h⟩
      omega
    · have : (n ^^^ 1) % 2 = 1 := h2.2 fun e => h (e.2 h3)
      omega
  split <;> omega
theorem bv_of {x : Int} (h0 : 0 ≤ x) (h1 : x < 4611686018427387904) : (BitVec.ofInt 64 x).toNat = x.toNat := by
  rw [BitVec.toNat_ofInt]
  have e : ((2 ^ 64 : Nat) : Int) = 18446744073709551616 := rfl
  have : x % ((2 ^ 64 : Nat) : Int) = x := Int.emod_eq_of_lt h0 (by rw [e]; omega)
  rw [this]
theorem wrap_nat {n : Nat} (h : n < 9223372036854775807) : IntKind.wrap .i64 (n : Int) = n := wr (by omega) (by omega)
theorem xor_one {x : Int} (h0 : 0 ≤ x) (h1 : x < 4611686018427387904) : xorI .i64 x 1 = notI x := by
  have e : (BitVec.ofInt IntKind.i64.bits x ^^^ BitVec.ofInt IntKind.i64.bits 1).toNat = x.toNat ^^^ 1 := by
    show (BitVec.ofInt 64 x ^^^ BitVec.ofInt 64 1).toNat = _
    rw [BitVec.toNat_xor, bv_of h0 h1, bv_of (by decide) (by decide)]; rfl
  unfold xorI
  rw [e]
  have hx : ((x.toNat : Nat) : Int) = x := by omega
  have h2 := notI_nat x.toNat
  rw [hx] at h2
  rw [h2]
  unfold notI
  split <;> exact wr (by omega) (by omega)
theorem xor_zero {x : Int} (h0 : 0 ≤ x) (h1 : x < 4611686018427387904) : xorI .i64 x 0 = x := by
  have e : (BitVec.ofInt IntKind.i64.bits x ^^^ BitVec.ofInt IntKind.i64.bits 0).toNat = x.toNat := by
    show (BitVec.ofInt 64 x ^^^ BitVec.ofInt 64 0).toNat = _
    rw [BitVec.toNat_xor, bv_of h0 h1, bv_of (by decide) (by decide)]; simp
  unfold xorI
  rw [e]
  have hx : ((x.toNat : Nat) : Int) = x := by omega
  rw [hx]
  exact wr (by omega) (by omega)
theorem and_one {x : Int} (h0 : 0 ≤ x) (h1 : x < 4611686018427387904) : andI .i64 x 1 = x % 2 := by
  have e : (BitVec.ofInt IntKind.i64.bits x &&& BitVec.ofInt IntKind.i64.bits 1).toNat = x.toNat % 2 := by
    show (BitVec.ofInt 64 x &&& BitVec.ofInt 64 1).toNat = _
    rw [BitVec.toNat_and, bv_of h0 h1, bv_of (by decide) (by decide)]
    exact Nat.and_one_is_mod _
  unfold andI
  rw [e, wrap_nat (by omega)]
  omega
theorem Not_eq {x : Int} (h0 : 0 ≤ x) (h1 : x < 4611686018427387904) : s_ref13_Not x = some (notI x) := by
  unfold s_ref13_Not notI
  rw [tmod2 h0]
  by_cases h : x % 2 = 0
  · simp only [h, BEq.rfl, if_true]; rw [wr (by omega) (by omega)]
  · have : (x % 2 == 0) = false := by simpa using h
    simp only [this, h, if_false, Bool.false_eq_true]; rw [wr (by omega) (by omega)]
theorem Not22_eq {x : Int} (h0 : 0 ≤ x) (h1 : x < 4611686018427387904) : s_ref22_Not x = some (notI x) := by
  unfold s_ref22_Not
  rw [Not_eq h0 h1]; rfl
def litx (row : List Int) (l : Int) : Int := if l % 2 = 1 then notI (row.getD (l / 2).toNat 0) else row.getD (l / 2).toNat 0
theorem idx_half {row : List Int} {l : Int} (h0 : 0 ≤ l) (h1 : l < 4611686018427387904) (hr : (l / 2).toNat < row.length) : idx row (IntKind.wrap .i64 (Int.tdiv l 2)) = some (row.getD (l / 2).toNat 0) := by
  rw [tdiv2 h0, wr (by omega) (by omega)]
  exact idx_of (by omega) (getD_some hr)
def RowOk (row : List Int) : Prop := ∀ x ∈ row, 0 ≤ x ∧ x < 4611686018427387904
theorem getD_ok {row : List Int} (h : RowOk row) (j : Nat) : 0 ≤ row.getD j 0 ∧ row.getD j 0 < 4611686018427387904 := by
  by_cases hj : j < row.length
  · exact h _ (List.mem_of_getElem? (getD_some hj))
  · simp [List.getD, List.getElem?_eq_none (show row.length ≤ j by omega)]
theorem unroll_lit_eq {row : List Int} {l : Int} (h0 : 0 ≤ l) (h1 : l < 4611686018427387904) (hr : (l / 2).toNat < row.length) (hrow : RowOk row) : s_unroll_lit row l = some (litx row l) := by
  unfold s_unroll_lit
  rw [idx_half h0 h1 hr, and_one h0 h1]
  obtain ⟨a, b⟩ := getD_ok hrow (l / 2).toNat
  show some _ = _
  unfold litx
  by_cases h : l % 2 = 1
  · rw [h, if_pos rfl, xor_one a b]
  · have h' : l % 2 = 0 := by omega
    rw [h', if_neg (by decide), xor_zero a b]
theorem ref_lit_eq {row : List Int} {l : Int} (h0 : 0 ≤ l) (h1 : l < 4611686018427387904) (hr : (l / 2).toNat < row.length) (hrow : RowOk row) : s_ref22_Lit row l = some (litx row l) := by
  unfold s_ref22_Lit litx
  rw [tmod2 h0, idx_half h0 h1 hr]
  obtain ⟨a, b⟩ := getD_ok hrow (l / 2).toNat
  by_cases h : l % 2 = 1
  · simp only [h, BEq.rfl, if_true]
    show (s_ref22_Not _).bind _ = _
    rw [Not22_eq a b]; rfl
  · have : (l % 2 == 1) = false := by simpa using h
    simp only [this, h, if_false, Bool.false_eq_true]; rfl
def alw (l : List Int) : Bool := l.any fun x => decide (notI x ∈ l)
theorem UpW.up : ∀ {l : List Int}, UpW l → l.Nodup → Up l
  | [], _, _ => trivial
  | [_], _, _ => trivial
  | x :: y :: l, h, hn => by
    have hn' := List.nodup_cons.1 hn
    refine ⟨?_, UpW.up h.2 hn'.2⟩
    have : x ≠ y := fun e => hn'.1 (by rw [e]; simp)
    have := h.1
    omega
theorem Up.w : ∀ {l : List Int}, Up l → UpW l
  | [], _ => trivial
  | [_], _ => trivial
  | x :: y :: l, h => ⟨by have := h.1; omega, Up.w h.2⟩
theorem Up.nodup : ∀ {l : List Int}, Up l → l.Nodup
  | [], _ => List.nodup_nil
  | x :: l, h => List.nodup_cons.2 ⟨fun hx => by have := Up.lt h x hx; omega, Up.nodup h.tail⟩
end Go.Proofs.Ytbmhmfcjjhjkgaa.Vm
