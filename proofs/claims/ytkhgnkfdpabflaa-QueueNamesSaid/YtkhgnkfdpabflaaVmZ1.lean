/- Chains of obligations: what both sides answer. -/
import Derived.Test.YtkhgnkfdpabflaaVmU2
namespace Go.Proofs.Ytkhgnkfdpabflaa.Vm
open Go
set_option linter.unusedVariables false
set_option linter.unusedSimpArgs false
def OkC (v : Int) (r : List Int) : Prop := ∀ (i : Nat) (x : Int), r[i]? = some x → 2 ≤ x ∧ x / 2 ≤ v ∧ ∀ y, r[i - 1]? = some y → 0 < i → y < x ∧ x / 2 ≠ y / 2
def kn (v x : Int) : Bool := if decide (x ≥ 2) = true then decide (IntKind.wrap .i64 (Int.tdiv x 2) ≤ v) else false
def badC (v : Int) (r : List Int) (i : Nat) (x : Int) : Bool := !kn v x || (decide ((i : Int) > 0) && (decide (x ≤ r.getD (i - 1) 0) || (IntKind.wrap .i64 (Int.tdiv x 2) == IntKind.wrap .i64 (Int.tdiv (r.getD (i - 1) 0) 2))))
theorem getD_at {r : List Int} {i : Nat} {x : Int} (h : r[i]? = some x) : r.getD i 0 = x := by rw [List.getD_eq_getElem?_getD, h]; rfl
section
variable {v : Int} {r : List Int}
theorem kn_iff {x : Int} (hx : I64 x) : kn v x = true ↔ 2 ≤ x ∧ x / 2 ≤ v := by
  unfold kn
  obtain ⟨h1, h2⟩ := hx
  by_cases h : 2 ≤ x
  · have : decide (x ≥ 2) = true := by simpa using h
    rw [if_pos this, tdiv2 (by omega), wr (by omega) (by omega)]
    simp [h]
  · have : ¬ decide (x ≥ 2) = true := by simpa using h
    rw [if_neg this]
    simp [h]
theorem badC_iff (h0 : 0 ≤ v) (h1 : v ≤ 4000) (hr : ∀ x ∈ r, I64 x) : (∀ i x, r[i]? = some x → badC v r i x = false) ↔ OkC v r := by
  constructor
  · intro h i x hx
    have hk : ∀ i x, r[i]? = some x → 2 ≤ x ∧ x / 2 ≤ v := fun i x hx => by
      have := h i x hx
      unfold badC at this
      simp only [Bool.or_eq_false_iff, Bool.not_eq_false'] at this
      exact (kn_iff (hr x (List.mem_of_getElem? hx))).1 this.1
    have h2 := hk i x hx
    refine ⟨h2.1, h2.2, fun y hy hi => ?_⟩
    have hy2 := hk _ y hy
    have := h i x hx
    unfold badC at this
    simp only [Bool.or_eq_false_iff, Bool.not_eq_false'] at this
    have h3 := this.2
    rw [getD_at hy] at h3
    have : decide ((i : Int) > 0) = true := by simp; omega
    rw [this, Bool.true_and, Bool.or_eq_false_iff, tdiv2 (by omega), tdiv2 (by omega), wr (by omega) (by omega), wr (by omega) (by omega)] at h3
    obtain ⟨h4, h5⟩ := h3
    simp at h4 h5
    exact ⟨h4, h5⟩
  · intro h i x hx
    obtain ⟨q1, q2, q3⟩ := h i x hx
    unfold badC
    rw [(kn_iff (hr x (List.mem_of_getElem? hx))).2 ⟨q1, q2⟩]
    simp only [Bool.not_true, Bool.false_or]
    by_cases hi : 0 < i
    · obtain ⟨y, hy⟩ : ∃ y, r[i - 1]? = some y := ⟨r[i - 1]'(by have := lt_len hx; omega), List.getElem?_eq_getElem _⟩
      obtain ⟨q4, q5⟩ := q3 y hy hi
      obtain ⟨p1, p2, _⟩ := h _ y hy
      rw [getD_at hy, tdiv2 (by omega), tdiv2 (by omega), wr (by omega) (by omega), wr (by omega) (by omega)]
      have e1 : decide (x ≤ y) = false := by simp; omega
      have e2 : (x / 2 == y / 2) = false := by simp; exact q5
      rw [e1, e2]; simp
    · have : decide ((i : Int) > 0) = false := by simp; omega
      rw [this]; rfl
end
theorem idx_prev {r : List Int} {i : Nat} {x : Int} (hx : r[i]? = some x) (hi : 0 < i) (hl : r.length ≤ 9223372036854775807) : idx r (IntKind.wrap .i64 ((i : Int) - 1)) = some (r.getD (i - 1) 0) := by
  have := lt_len hx
  have e : IntKind.wrap .i64 ((i : Int) - 1) = ((i - 1 : Nat) : Int) := by rw [wr (by omega) (by omega)]; omega
  rw [e, idx_nat', List.getElem?_eq_getElem (by omega), List.getD_eq_getElem?_getD, List.getElem?_eq_getElem (by omega)]
  rfl
open Classical in
noncomputable def okL (v : Int) (r : List Int) : Bool := decide (OkC v r)
open Classical in
theorem okL_t {v : Int} {r : List Int} (h : OkC v r) : okL v r = true := by unfold okL; exact decide_eq_true h
open Classical in
theorem okL_f {v : Int} {r : List Int} (h : ¬ OkC v r) : okL v r = false := by unfold okL; exact decide_eq_false h
theorem clause_Check_eq {v : Int} {r : List Int} (h0 : 0 ≤ v) (h1 : v ≤ 4000) (hl : r.length ≤ 9223372036854775807) (hr : ∀ x ∈ r, I64 x) : s_clause_Check v r = some (if okL v r then 0 else 8) := by
  unfold s_clause_Check
  have e1 : ¬ decide (v < 0) = true := by simp; omega
  have e2 : decide (v > 4000) = false := by simp; omega
  simp only [e1, if_false, e2, Option.bind_some, Bool.false_eq_true]
  obtain ⟨q, hq, h⟩ := Lp_findL (l := r) (badC v r) (f := b_clause_Check_L0 v r) (r0 := .inl ()) (fun _ => .inr ()) hl (fun i x hx => by
    unfold b_clause_Check_L0 s_clause_known badC
    rw [dec_lt (lt_len hx), idx_nat', hx]
    simp only [if_true, Option.bind_some]
    unfold kn
    by_cases c1 : decide (x ≥ 2) = true
    · simp only [c1, if_true, Option.bind_some]
      by_cases c2 : decide (IntKind.wrap .i64 (Int.tdiv x 2) ≤ v) = true
      · simp only [c2, if_true, Bool.not_true, Bool.false_or]
        by_cases c3 : 0 < i
        · have e3 : decide ((i : Int) > 0) = true := by simp; omega
          simp only [e3, if_true, Bool.true_and, idx_prev hx c3 hl, Option.bind_some]
          by_cases c4 : decide (x ≤ r.getD (i - 1) 0) = true
          · simp only [c4, if_true, Option.bind_some, Bool.true_or]
          · simp only [c4, if_false, Option.bind_some, Bool.false_eq_true, Bool.false_or, Bool.eq_false_iff.2 c4]
            split <;> rfl
        · have e3 : decide ((i : Int) > 0) = false := by simp; omega
          simp only [e3, Bool.false_eq_true, if_false, Bool.false_and, Option.bind_some]
      · have c2 := Bool.eq_false_iff.2 c2
        simp only [c2, Bool.false_eq_true, if_false, Bool.not_false, Bool.true_or, Option.bind_some, if_true]
    · have c1 := Bool.eq_false_iff.2 c1
      simp only [c1, Bool.false_eq_true, if_false, Bool.not_false, Bool.true_or, Option.bind_some, if_true]) (by unfold b_clause_Check_L0; rw [dec_ge]; rfl)
  rw [hq]
  rcases h with ⟨h, rfl⟩ | ⟨i, x, hx, hb, rfl⟩
  · rw [okL_t ((badC_iff h0 h1 hr).1 h)]; rfl
  · rw [okL_f (fun h => by rw [(badC_iff h0 h1 hr).2 h i x hx] at hb; cases hb)]; rfl
end Go.Proofs.Ytkhgnkfdpabflaa.Vm
