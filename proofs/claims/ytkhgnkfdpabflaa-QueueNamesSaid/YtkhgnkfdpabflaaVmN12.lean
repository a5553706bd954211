/- What queue.Right and queue.Trace answer. -/
import Derived.Test.YtkhgnkfdpabflaaVmN10
namespace Go.Proofs.Ytkhgnkfdpabflaa.Vm
open Go
set_option linter.unusedVariables false
set_option linter.unusedSimpArgs false
section
variable {c : S_Circuit} {l : List S_Obligation}
theorem qRight_many (hc : RC c) (hf : Few c) (hk : chk c = 0) (hl : 1000 < l.length) : s_queue_Right c l = some 4 := by
  unfold s_queue_Right
  rw [gates_Check_eq hc hf, hk]
  simp only [Option.bind_some, bne_self_eq_false, Bool.false_eq_true, if_false]
  rw [if_pos (by simp; omega)]
theorem qRight_wrong (hc : RC c) (hf : Few c) (hk : chk c ≠ 0) : s_queue_Right c l = some (chk c) := by
  unfold s_queue_Right
  rw [gates_Check_eq hc hf]
  simp only [Option.bind_some]
  rw [if_pos (by simpa using hk)]
theorem qRight_find (hc : RC c) (hf : Few c) (h60 : c.Latches.length ≤ 60) (hl : l.length ≤ 1000) (hr : RO l) (hk : chk c = 0) :
    (∀ i o, l[i]? = some o → badO c i o = false) ∧ s_queue_Right c l = some 0 ∨ (∃ i o, l[i]? = some o ∧ badO c i o = true) ∧ s_queue_Right c l = some 8 := by
  unfold s_queue_Right
  rw [gates_Check_eq hc hf, hk]
  simp only [Option.bind_some, bne_self_eq_false, Bool.false_eq_true, if_false]
  rw [if_neg (by simp; omega)]
  have ho : ∀ (i : Nat) o, l[i]? = some o → s_clause_Check (c.Latches.length : Int) o.Cube = some (if okL c.Latches.length o.Cube then 0 else 8) := fun i o ho => by
    obtain ⟨r1, r2, _⟩ := hr o (List.mem_of_getElem? ho)
    exact clause_Check_eq (by omega) (by omega) r1 r2
  obtain ⟨q, hq, h⟩ := Lp_find (l := l) (badO c) (f := b_queue_Right_L0 c l) (r0 := .inl ()) (fun _ => .inr ()) (by omega) (fun i o hx => by
    unfold b_queue_Right_L0 badO
    rw [dec_lt (lt_len hx), idx_nat', hx]
    simp only [if_true, Option.bind_some, ho i o hx]
    cases okL (c.Latches.length : Int) o.Cube with
    | false => rfl
    | true =>
      simp only [if_true, show ((0 : Int) != 0) = false from rfl, Bool.false_eq_true, if_false, Bool.not_true, Bool.false_or]
      cases ((o.Inputs.length : Int) != c.Inputs) with
      | true => rfl
      | false =>
        simp only [Bool.false_eq_true, if_false, Bool.false_or]
        cases decide (o.Next < -1) with
        | true => rfl
        | false =>
          simp only [Bool.false_eq_true, if_false, Bool.false_or, Option.bind_some]
          split <;> rfl) (by unfold b_queue_Right_L0; rw [dec_ge]; rfl)
  rw [hq]
  rcases h with ⟨h, rfl⟩ | ⟨i, o, hx, hb, rfl⟩
  · exact .inl ⟨h, rfl⟩
  · exact .inr ⟨⟨i, o, hx, hb⟩, rfl⟩
theorem qRight_ok (hc : RC c) (hf : Few c) (h60 : c.Latches.length ≤ 60) (hl : l.length ≤ 1000) (hr : RO l) (hk : chk c = 0) (h : ∀ i o, l[i]? = some o → badO c i o = false) : s_queue_Right c l = some 0 := by
  rcases qRight_find hc hf h60 hl hr hk with h' | ⟨⟨i, o, hx, hb⟩, _⟩
  · exact h'.2
  · rw [h i o hx] at hb; cases hb
theorem qRight_bad (hc : RC c) (hf : Few c) (h60 : c.Latches.length ≤ 60) (hl : l.length ≤ 1000) (hr : RO l) (hk : chk c = 0) {i : Nat} {o : S_Obligation} (hx : l[i]? = some o) (hb : badO c i o = true) : s_queue_Right c l = some 8 := by
  rcases qRight_find hc hf h60 hl hr hk with h' | h'
  · rw [h'.1 i o hx] at hb; cases hb
  · exact h'.2
theorem qChain_err {e n : Int} (hr : s_queue_Right c l = some e) (he : e ≠ 0) : s_queue_Chain c l n = some ([], e) := by
  unfold s_queue_Chain
  rw [hr]
  simp only [Option.bind_some]
  rw [if_pos (by simpa using he)]
theorem qChain_arg {n : Int} (hr : s_queue_Right c l = some 0) (hn : n < 0 ∨ n ≥ l.length) : s_queue_Chain c l n = some ([], 2) := by
  unfold s_queue_Chain
  rw [hr]
  simp only [Option.bind_some, bne_self_eq_false, Bool.false_eq_true, if_false]
  rcases hn with h | h
  · simp [h]
  · by_cases h2 : n < 0 <;> simp [h, h2]
theorem qTrace_err {e n : Int} {ks : List Int} {st is : List Bool} (hr : s_queue_Chain c l n = some (ks, e)) (he : e ≠ 0) : s_queue_Trace c l n st is = some (S_Trace.mk [] [], e) := by
  unfold s_queue_Trace
  rw [hr]
  simp only [Option.bind_some]
  rw [if_pos (by simpa using he)]
theorem qTrace_arg {n : Int} {ks : List Int} {st is : List Bool} (hr : s_queue_Chain c l n = some (ks, 0)) (h : st.length ≠ c.Latches.length ∨ (is.length : Int) ≠ c.Inputs) : s_queue_Trace c l n st is = some (S_Trace.mk [] [], 2) := by
  unfold s_queue_Trace
  rw [hr]
  simp only [Option.bind_some, bne_self_eq_false, Bool.false_eq_true, if_false]
  by_cases h1 : st.length = c.Latches.length
  · have h2 : (is.length : Int) ≠ c.Inputs := by rcases h with h | h; exact absurd h1 h; exact h
    simp [h1, h2]
  · have e : ((st.length : Int) != (c.Latches.length : Int)) = true := by simp; omega
    simp [e]
theorem qTrace_many {n : Int} {ks : List Int} {st is : List Bool} (hr : s_queue_Chain c l n = some (ks, 0)) (h1 : st.length = c.Latches.length) (h2 : (is.length : Int) = c.Inputs) (hk : 100 ≤ ks.length) : s_queue_Trace c l n st is = some (S_Trace.mk [] [], 4) := by
  unfold s_queue_Trace
  rw [hr]
  have e : decide ((ks.length : Int) ≥ 100) = true := by simp; omega
  simp [h1, h2, e]
  intro hlt; omega
theorem chain_mem (hO : OkO c l) {n : Int} (hl : n < l.length) : ∀ k ∈ chain l n, ∃ o, idx l k = some o ∧ (o.Inputs.length : Int) = c.Inputs := fun k hk => by
  obtain ⟨h1, h2⟩ := (chain_facts hO (n.toNat + 1) n (by omega) hl).2.1 k hk
  have ho : l[k.toNat]? = some l[k.toNat] := List.getElem?_eq_getElem (by omega)
  exact ⟨_, idx_of h1 ho, (hO _ _ ho).1⟩
theorem qTrace_ok (hO : OkO c l) (hr : s_queue_Right c l = some 0) (hl : l.length ≤ 1010) {n : Int} {st is : List Bool} (h0 : 0 ≤ n) (hn : n < l.length) (h1 : st.length = c.Latches.length) (h2 : (is.length : Int) = c.Inputs)
    (hk : (chain l n).length < 100) (hs : st.length ≤ 100000) (hi : is.length ≤ 100000) : s_queue_Trace c l n st is = some (S_Trace.mk st ([is] ++ (chain l n).map (inp l)), 0) := by
  unfold s_queue_Trace
  rw [qChain_eq hr hO hl h0 hn]
  have e : decide ((chain l n).length ≥ (100 : Int)) = false := by simp; omega
  have e1 : ((st.length : Int) != (c.Latches.length : Int)) = false := by simp [h1]
  have e2 : ((is.length : Int) != c.Inputs) = false := by simp [h2]
  simp only [Option.bind_some, bne_self_eq_false, Bool.false_eq_true, if_false, e1, e2, e]
  rw [if_pos (by unfold big; omega), if_pos (by unfold big; omega), chn_eq hO h0 hn]
  simp only [Option.bind_some]
  rw [selM_eq (chain_mem hO hn)]
  simp only [Option.bind_some]
  rw [if_pos (by unfold big; simp; omega), if_pos (fun o ho => by
    obtain ⟨i, hx⟩ := List.getElem?_of_mem ho
    have := (hO i o hx).1
    unfold big; omega)]
end
end Go.Proofs.Ytkhgnkfdpabflaa.Vm
