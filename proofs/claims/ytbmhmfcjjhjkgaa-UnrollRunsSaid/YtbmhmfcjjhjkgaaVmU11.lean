/- The checks of clauses and rows; models; the values by names. -/
import Derived.Test.YtbmhmfcjjhjkgaaVmU10
namespace Go.Proofs.Ytbmhmfcjjhjkgaa.Vm
open Go
set_option linter.unusedVariables false
set_option linter.unusedSimpArgs false
section
variable {x : S_Cnf} {n : Nat}
theorem CnfOk.first (h : CnfOk x n) {i : Nat} {r : List Int} (hr : x.Lits[i]? = some r) : ∃ r0, x.Lits[0]? = some r0 ∧ r0.length = n := by
  have hi := lt_len hr
  exact ⟨x.Lits[0], List.getElem?_eq_getElem (by omega), (h.row _ (List.getElem_mem _)).1⟩
theorem idx0 {α : Type} {l : List α} {a : α} (h : l[0]? = some a) : idx l 0 = some a := by
  have := idx_nat' l 0
  rw [h] at this; exact this
theorem lits_L1 (h : CnfOk x n) {i : Nat} {r : List Int} (hr : x.Lits[i]? = some r) : Lp (b_ref22_Check_L1 x (i : Int)) 0 = some (.inl ()) := by
  obtain ⟨h1, h2, h3⟩ := h.row r (List.mem_of_getElem? hr)
  have v0 := h.v0
  have v1 := h.v1
  have n1 := h.n1
  refine Lp_all (l := r) (by omega) (fun j y hy => ?_) ?_
  · have hj := lt_len hy
    have hb := h3 y (List.mem_of_getElem? hy)
    unfold b_ref22_Check_L1
    rw [idx_nat', hr]
    simp only [Option.bind_some, dec_lt hj, if_true]
    rw [idx_nat', hy]
    have w1 : IntKind.wrap .i64 (2 * x.Vars) = 2 * x.Vars := wr (by omega) (by omega)
    have w2 : IntKind.wrap .i64 (2 * x.Vars + 1) = 2 * x.Vars + 1 := wr (by omega) (by omega)
    have e1 : decide (y < -1) = false := decide_eq_false (by omega)
    have e2 : decide (y > 2 * x.Vars + 1) = false := decide_eq_false (by omega)
    simp only [Option.bind_some, w1, w2, e1, e2, Bool.false_eq_true, if_false]
  · unfold b_ref22_Check_L1
    rw [idx_nat', hr]
    simp only [Option.bind_some, dec_ge, Bool.false_eq_true, if_false]
theorem ref22_ok (h : CnfOk x n) : s_ref22_Check x = some 0 := by
  have v0 := h.v0
  have v1 := h.v1
  have n0 := h.n0
  have n1 := h.n1
  have hl := h.len
  have hrs := h.rows
  unfold s_ref22_Check s_ref13_Vars
  have e0 : decide ((x.Clauses.length : Int) > 20000) = false := decide_eq_false (by omega)
  have d1 : decide (x.Vars ≥ 0) = true := decide_eq_true (by omega)
  have d2 : decide (x.Vars ≤ 4000) = true := decide_eq_true (by omega)
  simp only [e0, d1, d2, Bool.false_eq_true, if_false, if_true, Option.bind_some, Wrong_eq v0 v1 hl h.cl, bne_self_eq_false]
  rw [Lp_all (l := x.Lits) (f := b_ref22_Check_L0 x) (r0 := .inl ()) (by omega) (fun i r hr => by
    have hi := lt_len hr
    obtain ⟨h1, ⟨t, h2⟩, h3⟩ := h.row r (List.mem_of_getElem? hr)
    obtain ⟨r0, q1, q2⟩ := h.first hr
    unfold b_ref22_Check_L0
    simp only [dec_lt hi, if_true]
    rw [idx_nat', hr]
    have a1 : ((r.length : Int) == 0) = false := by rw [h1]; simp; omega
    have a2 : ((r.length : Int) != (r0.length : Int)) = false := by simp [h1, q2]
    have a3 : idx r 0 = some 0 := idx0 (by rw [h2]; rfl)
    simp only [Option.bind_some, a1, Bool.false_eq_true, if_false, idx0 q1, a2, a3, bne_self_eq_false, lits_L1 h hr]) (by unfold b_ref22_Check_L0; simp only [dec_ge]; rfl)]
  rfl
theorem lits_tL1 (h : CnfOk x n) {i : Nat} {r : List Int} (hr : x.Lits[i]? = some r) : Lp (b_tseitin_Check_L1 x (i : Int) r) 0 = some (.inl ()) := by
  obtain ⟨h1, h2, h3⟩ := h.row r (List.mem_of_getElem? hr)
  have v0 := h.v0
  have v1 := h.v1
  have n1 := h.n1
  refine Lp_all (l := r) (by omega) (fun j y hy => ?_) ?_
  · have hj := lt_len hy
    have hb := h3 y (List.mem_of_getElem? hy)
    unfold b_tseitin_Check_L1
    simp only [dec_lt hj, if_true]
    rw [idx_nat', hy]
    have w1 : IntKind.wrap .i64 (2 * x.Vars) = 2 * x.Vars := wr (by omega) (by omega)
    have w2 : IntKind.wrap .i64 (2 * x.Vars + 1) = 2 * x.Vars + 1 := wr (by omega) (by omega)
    have e1 : decide (y < -1) = false := decide_eq_false (by omega)
    have e2 : decide (y > 2 * x.Vars + 1) = false := decide_eq_false (by omega)
    simp only [Option.bind_some, w1, w2, e1, e2, Bool.false_eq_true, if_false]
  · unfold b_tseitin_Check_L1
    simp only [dec_ge, Bool.false_eq_true, if_false]
theorem tseitin_ok (h : CnfOk x n) : s_tseitin_Check x = some 0 := by
  have v0 := h.v0
  have v1 := h.v1
  have n0 := h.n0
  have n1 := h.n1
  have hl := h.len
  have hrs := h.rows
  unfold s_tseitin_Check
  have e0 : decide ((x.Clauses.length : Int) > 20000) = false := decide_eq_false (by omega)
  have d1 : decide (x.Vars < 0) = false := decide_eq_false (by omega)
  have d2 : decide (x.Vars > 4000) = false := decide_eq_false (by omega)
  simp only [e0, d1, d2, Bool.false_eq_true, if_false, if_true, Option.bind_some]
  rw [Lp_all (l := x.Lits) (f := b_tseitin_Check_L0 x) (r0 := .inl ()) (by omega) (fun i r hr => by
    have hi := lt_len hr
    obtain ⟨h1, ⟨t, h2⟩, h3⟩ := h.row r (List.mem_of_getElem? hr)
    obtain ⟨r0, q1, q2⟩ := h.first hr
    unfold b_tseitin_Check_L0
    simp only [dec_lt hi, if_true]
    rw [idx_nat', hr]
    have a1 : ((r.length : Int) == 0) = false := by rw [h1]; simp; omega
    have a2 : ((r.length : Int) != (r0.length : Int)) = false := by simp [h1, q2]
    have a3 : idx r 0 = some 0 := idx0 (by rw [h2]; rfl)
    simp only [Option.bind_some, a1, Bool.false_eq_true, if_false, idx0 q1, a2, a3, bne_self_eq_false, lits_tL1 h hr]) (by unfold b_tseitin_Check_L0; simp only [dec_ge]; rfl)]
  simp only [Option.bind_some]
  rw [Lp_all (l := x.Clauses) (f := b_tseitin_Check_L2 x) (r0 := .inl ()) (by omega) (fun i r hr => by
    have hi := lt_len hr
    obtain ⟨hc, h3⟩ := h.cl r (List.mem_of_getElem? hr)
    unfold b_tseitin_Check_L2
    simp only [dec_lt hi, if_true]
    rw [idx_nat', hr]
    simp only [Option.bind_some, clCheck_eq v0 v1 hc h3, bne_self_eq_false, Bool.false_eq_true, if_false]) (by unfold b_tseitin_Check_L2; simp only [dec_ge]; rfl)]
  rfl
theorem solveCheck_ok (h : CnfOk x n) : s_solve_check x.Vars x.Clauses = some 0 := by
  have v0 := h.v0
  have v1 := h.v1
  have hl := h.len
  unfold s_solve_check
  have e0 : decide ((x.Clauses.length : Int) > 20000) = false := decide_eq_false (by omega)
  simp only [e0, Bool.false_eq_true, if_false]
  rw [Lp_all (l := x.Clauses) (f := b_solve_check_L0 x.Vars x.Clauses) (r0 := .inl ()) (by omega) (fun i r hr => by
    have hi := lt_len hr
    obtain ⟨hc, h3⟩ := h.cl r (List.mem_of_getElem? hr)
    unfold b_solve_check_L0
    simp only [dec_lt hi, if_true]
    rw [idx_nat', hr]
    simp only [Option.bind_some, clCheck_eq v0 v1 hc h3, bne_self_eq_false, Bool.false_eq_true, if_false]) (by unfold b_solve_check_L0; simp only [dec_ge]; rfl)]
  rfl
theorem idx_lit {m : List Bool} {y : Int} (h2 : 2 ≤ y) (h : y ≤ 2 * (m.length : Int) + 1) (hm : m.length ≤ 4000) : idx m (IntKind.wrap .i64 ((IntKind.wrap .i64 (Int.tdiv y 2)) - 1)) = some (m.getD (y / 2 - 1).toNat false) := by
  have q1 : IntKind.wrap .i64 (Int.tdiv y 2) = y / 2 := quo2 (by omega) (by omega)
  rw [q1, wr (by omega) (by omega)]
  exact idx_b (by omega) (by omega)
theorem tr_ge {m : List Bool} {y : Int} (h2 : 2 ≤ y) : tr m y = (m.getD (y / 2 - 1).toNat false == (y % 2 == 0)) := by unfold tr; rw [if_neg (by omega)]
theorem clTrue_ok {m r : _} {v : Int} (hv : v = ((m : List Bool).length : Int)) (hm : m.length ≤ 4000) (hc : ClOk v r) (h3 : r.length ≤ 3) (hs : ∃ y ∈ r, tr m y = true) : s_clause_True r m = some (true, 0) := by
  unfold s_clause_True
  rw [← hv, clCheck_eq (by omega) (by omega) hc h3]
  simp only [Option.bind_some, bne_self_eq_false, Bool.false_eq_true, if_false]
  obtain ⟨q, h1, h2⟩ := Lp_find (l := r) (fun _ y => tr m y) (f := b_clause_True_L0 r m) (r0 := Sum.inl ()) (fun _ => Sum.inr ()) (by omega) (fun i y hy => by
    have hi := lt_len hy
    have hb := hc.2.1 y (List.mem_of_getElem? hy)
    unfold b_clause_True_L0
    simp only [dec_lt hi, if_true]
    rw [idx_nat', hy]
    simp only [Option.bind_some, idx_lit hb.1 (by omega) hm]
    rw [tr_ge hb.1, tmod2 (by omega)]
    cases m.getD (y / 2 - 1).toNat false <;> cases (y % 2 == 0) <;> rfl) (by unfold b_clause_True_L0; simp only [dec_ge]; rfl)
  rw [h1]
  rcases h2 with ⟨hno, _⟩ | ⟨i, y, _, _, rfl⟩
  · obtain ⟨y, hy, ht⟩ := hs
    obtain ⟨i, hi⟩ := List.getElem?_of_mem hy
    rw [hno i y hi] at ht; cases ht
  · rfl
theorem model_ok (h : CnfOk x n) {m : List Bool} (hm : (m.length : Int) = x.Vars) (hs : sat m x.Clauses) : s_solve_Model x.Vars x.Clauses m = some (true, 0) := by
  have v0 := h.v0
  have v1 := h.v1
  have hl := h.len
  unfold s_solve_Model
  have d1 : decide (x.Vars < 0) = false := decide_eq_false (by omega)
  have d2 : decide (x.Vars > 4000) = false := decide_eq_false (by omega)
  have d3 : ((m.length : Int) != x.Vars) = false := by simp [hm]
  simp only [d1, d2, d3, Bool.false_eq_true, if_false, Option.bind_some, solveCheck_ok h, bne_self_eq_false]
  rw [Lp_all (l := x.Clauses) (f := b_solve_Model_L0 x.Clauses m) (r0 := .inl ()) (by omega) (fun i r hr => by
    have hi := lt_len hr
    obtain ⟨hc, h3⟩ := h.cl r (List.mem_of_getElem? hr)
    obtain ⟨y, hy, _, _, ht⟩ := hs r (List.mem_of_getElem? hr)
    unfold b_solve_Model_L0
    simp only [dec_lt hi, if_true]
    rw [idx_nat', hr]
    simp only [Option.bind_some, clTrue_ok hm.symm (by omega) hc h3 ⟨y, hy, ht⟩, bne_self_eq_false, Bool.false_eq_true, if_false, Bool.not_true]) (by unfold b_solve_Model_L0; simp only [dec_ge]; rfl)]
  rfl
theorem value_eq {m : List Bool} {y : Int} (h : y ≤ 2 * (m.length : Int) + 1) (hm : m.length ≤ 4000) : s_unroll_value y m = some (tr m y) := by
  unfold s_unroll_value
  by_cases h2 : y < 2
  · simp only [h2, decide_true, if_true]; unfold tr; rw [if_pos h2]
  · simp only [h2, decide_false, Bool.false_eq_true, if_false]
    rw [idx_lit (by omega) h hm, tr_ge (by omega), tmod2 (by omega)]
    cases m.getD (y / 2 - 1).toNat false <;> cases (y % 2 == 0) <;> rfl
theorem True22_eq {m : List Bool} {y : Int} (h : y ≤ 2 * (m.length : Int) + 1) (hm : m.length ≤ 4000) : s_ref22_True y m = some (tr m y) := by
  unfold s_ref22_True s_ref13_Truth
  by_cases h2 : y < 2
  · simp only [h2, decide_true, if_true]; unfold tr; rw [if_pos h2]
  · simp only [h2, decide_false, Bool.false_eq_true, if_false]
    rw [idx_lit (by omega) h hm, tr_ge (by omega), tmod2 (by omega)]
    by_cases hy : y % 2 = 1
    · have e1 : (y % 2 == 1) = true := by simpa using hy
      have e2 : (y % 2 == 0) = false := by simp [hy]
      simp only [e1, e2, if_true, Option.bind_some]
      cases m.getD (y / 2 - 1).toNat false <;> rfl
    · have e1 : (y % 2 == 1) = false := by simpa using hy
      have e2 : (y % 2 == 0) = true := by simp; omega
      simp only [e1, e2, Bool.false_eq_true, if_false, Option.bind_some]
      cases m.getD (y / 2 - 1).toNat false <;> rfl
end
end Go.Proofs.Ytbmhmfcjjhjkgaa.Vm
