/- UnrollFree: a run is a model, and comes back. -/
import Derived.Test.YtbmhmfcjjhjkgaaVmU13
import Derived.Test.YtbmhmfcjjhjkgaaVmU7c
import Derived.Test.YtbmhmfcjjhjkgaaVmD1UnrollFree
namespace Go.Proofs.Ytbmhmfcjjhjkgaa.Vm
open Go
set_option linter.unusedVariables false
set_option linter.unusedSimpArgs false
theorem RC_of' {c : S_Circuit} (h : R_S_Circuit c) : RC c := by
  obtain ⟨h1, ⟨_, h2⟩, ⟨_, h3⟩, ⟨_, h4⟩, _, h5⟩ := h
  exact ⟨h1, fun l hl => h2 l hl, fun a ha => h3 a ha, fun x hx => h4 x hx, fun x hx => h5 x hx⟩
theorem fit_lsok (c : S_Circuit) (st : List Bool) (hst : st.length = c.Latches.length) : LsOk [] (resets c true) st := by
  refine ⟨by simp [resets, hst], fun k hk => .inl ?_⟩
  have hk2 : k < c.Latches.length := by simpa [resets] using hk
  simp [resets, List.getD_eq_getElem?_getD, hk2]
theorem free_states {c : S_Circuit} (hr : RC c) (hf : Few c) (hc : chk c = 0) (hfit : Fit c) {iss0 : List (List Bool)} (hlen : iss0.length ≤ 8) (r : Bool) : ∀ (iss : List (List Bool)) (i : Nat) (acc : List (List Bool)) (st : List Bool), iss0.drop i = iss → st.length = c.Latches.length → acc.length = i → i + iss.length = iss0.length →
    Lp (b_law23_UnrollFree_L0 c iss0 r) (acc, st, (i : Int)) = some (.inr r) ∨ ((∀ is ∈ iss, (is.length : Int) = c.Inputs) ∧ Lp (b_law23_UnrollFree_L0 c iss0 r) (acc, st, (i : Int)) = some (.inl (acc ++ statesF c st iss)))
  | [], i, acc, st, hd, hst, ha, hl => by
    right
    refine ⟨fun is h => (by cases h), Lp_out ?_⟩
    unfold b_law23_UnrollFree_L0
    have : i = iss0.length := by simpa using hl
    rw [this]
    simp only [dec_ge, Bool.false_eq_true, if_false, statesF, List.append_nil]
  | is :: iss, i, acc, st, hd, hst, ha, hl => by
    obtain ⟨h1, h2⟩ := drop_cons hd
    have hi := lt_len h1
    have hbig := big_ge
    by_cases hx : (is.length : Int) = c.Inputs
    · have e1 : ((is.length : Int) != c.Inputs) = false := by simp [hx]
      have hstep : b_law23_UnrollFree_L0 c iss0 r (acc, st, (i : Int)) = some (.inl (acc ++ [st], nextS c (allF c st is), ((i + 1 : Nat) : Int))) := by
        unfold b_law23_UnrollFree_L0
        simp only [dec_lt hi, if_true]
        rw [idx_nat', h1]
        simp only [Option.bind_some, e1, Bool.false_eq_true, if_false]
        rw [if_pos (by omega), Next_eq hr hf hc hfit hst hx]
        simp only [Option.bind_some, bne_self_eq_false, Bool.false_eq_true, if_false]
        rw [wr1 (by omega)]
      rw [Lp_step hstep]
      rcases free_states hr hf hc hfit hlen r iss (i + 1) (acc ++ [st]) (nextS c (allF c st is)) h2 (by simp [nextS]) (by simp [ha]) (by simp only [List.length_cons] at hl; omega) with h | ⟨q1, q2⟩
      · exact .inl h
      · refine .inr ⟨fun js hj => ?_, by rw [q2]; simp [statesF]⟩
        rcases List.mem_cons.1 hj with rfl | hj
        · exact hx
        · exact q1 js hj
    · left
      refine Lp_out ?_
      have e1 : ((is.length : Int) != c.Inputs) = true := by simpa using hx
      unfold b_law23_UnrollFree_L0
      simp only [dec_lt hi, if_true]
      rw [idx_nat', h1]
      simp only [Option.bind_some, e1, if_true]
theorem free {c : S_Circuit} (hr : RC c) (st : List Bool) (iss : List (List Bool)) : s_law23_UnrollFree c st iss = some true := by
  obtain ⟨b, hg, hb⟩ := great_cases hr
  unfold s_law23_UnrollFree
  rw [alive_eq, hg]
  simp only [Option.bind_some]
  cases b with
  | true => simp only [if_true, Option.bind_some]
  | false =>
    obtain ⟨few, fit⟩ := hb rfl
    simp only [Bool.false_eq_true, if_false, ref_Check_eq hr few, Option.bind_some]
    by_cases hc : chk c = 0
    · have hf := fit hc
      have e0 : (chk c != 0) = false := by simpa using hc
      simp only [e0, Bool.false_eq_true, if_false]
      by_cases h1 : st.length = c.Latches.length
      · have e1 : ((st.length : Int) != (c.Latches.length : Int)) = false := by simp [h1]
        simp only [e1, Bool.false_eq_true, if_false]
        by_cases h2 : (iss.length : Int) < 1
        · simp only [h2, decide_true, if_true, Option.bind_some]
        by_cases h3 : (iss.length : Int) > 8
        · simp only [h2, h3, decide_true, decide_false, Bool.false_eq_true, if_false, if_true, Option.bind_some]
        simp only [h2, h3, decide_false, Bool.false_eq_true, if_false, Bool.not_true, Option.bind_some]
        rcases free_states hr few hc hf (by omega) true iss 0 [] st rfl h1 rfl (by simp) with h | ⟨his, h⟩
        · rw [show ((0 : Nat) : Int) = 0 from rfl] at h
          rw [h]; rfl
        · rw [show ((0 : Nat) : Int) = 0 from rfl, List.nil_append] at h
          rw [h]
          simp only [Option.bind_some, Free_val hr few hf hc (n := iss.length) (by omega) (by omega)]
          have hok := cnf_good hf true (N := iss.length) (by omega)
          have hq := iterF_Q hf iss.length 0 _ (by omega) (Q0 hf true)
          rw [Nat.zero_add] at hq
          have hlits : (cnfF c true iss.length).Lits.length = iss.length := hq.lits
          have e4 : (((cnfF c true iss.length).Lits.length : Int) != (iss.length : Int)) = false := by simp [hlits]
          simp only [bne_self_eq_false, Bool.false_eq_true, if_false, ref22_ok hok, Option.bind_some, e4]
          obtain ⟨m, rows, r1, r2, r3, r4⟩ := iter_rows hf iss 0 st (0, [], [], resets c true) [] (by omega) (Q0 hf true) rfl (fit_lsok c st h1) h1 his (fun r hr => by cases hr)
          rw [List.nil_append] at r1
          have hrows : (cnfF c true iss.length).Lits = rows := r1
          have hvars : (m.length : Int) = (cnfF c true iss.length).Vars := r3.symm
          have hsat : sat m (cnfF c true iss.length).Clauses := r4
          rw [← hrows] at r2
          rw [named_eq hr few hc hf hok r2 h1 his hvars hlits.symm]
          simp only [Option.bind_some, if_true, model_ok hok hvars hsat, trace_eq hr few hc hf hok r2 h1 his hvars (by omega)]
          obtain ⟨is, iss', rfl⟩ : ∃ is iss', iss = is :: iss' := by
            cases iss with
            | nil => simp at h2
            | cons a b => exact ⟨a, b, rfl⟩
          have i0 : idx (statesF c st (is :: iss')) 0 = some st := idx0 rfl
          rw [i0]
          have hlen := hf.len
          simp only [BEq.rfl, if_true, Option.bind_some]
          rw [Same06_self ⟨st, is :: iss'⟩ (by show st.length < _; omega) (by show (is :: iss').length < _; omega) (fun j hj => by have := his j hj; omega)]
          rfl
      · have e1 : ((st.length : Int) != (c.Latches.length : Int)) = true := by simp; omega
        simp only [e1, if_true, Option.bind_some]
    · have e0 : (chk c != 0) = true := by simpa using hc
      simp only [e0, if_true, Option.bind_some]
theorem plain_UnrollFree (c : S_Circuit) (st : List Bool) (iss : List (List Bool)) (h : R_S_Circuit c) (_ : st.length ≤ maxLen ∧ ∀ y ∈ st, True) (_ : iss.length ≤ maxLen ∧ ∀ y ∈ iss, y.length ≤ maxLen ∧ ∀ z ∈ y, True) : s_law23_UnrollFree c st iss = some true := free (RC_of' h) st iss
end Go.Proofs.Ytbmhmfcjjhjkgaa.Vm
