/- QueueChains, of typed arguments. -/
import Derived.Test.YtkhgnkfdpabflaaVmZ2
import Derived.Test.YtkhgnkfdpabflaaVmY13
import Derived.Test.YtkhgnkfdpabflaaVmY06
import Derived.Test.YtkhgnkfdpabflaaVmD1QueueChains
namespace Go.Proofs.Ytkhgnkfdpabflaa.Vm
open Go
set_option linter.unusedVariables false
set_option linter.unusedSimpArgs false
theorem RC_of {c : S_Circuit} (h : R_S_Circuit c) : RC c := by
  obtain ⟨h1, ⟨_, h2⟩, ⟨_, h3⟩, ⟨_, h4⟩, _, h5⟩ := h
  exact ⟨h1, fun l hl => h2 l hl, fun a ha => h3 a ha, fun x hx => h4 x hx, fun x hx => h5 x hx⟩
theorem RO_of {l : List S_Obligation} (h : ∀ o ∈ l, R_S_Obligation o) : RO l := fun o ho => by
  obtain ⟨⟨h1, h2⟩, ⟨h3, _⟩, h4⟩ := h o ho
  exact ⟨Nat.le_trans h1 (by decide), fun x hx => h2 x hx, h4⟩
section
variable {c : S_Circuit} {l : List S_Obligation}
theorem great02 : ∃ b, s_ref02_Great c = some b ∧ (b = false → c.Latches.length ≤ 60 ∧ Few c) := by
  unfold s_ref02_Great
  by_cases h1 : decide ((c.Latches.length : Int) > 60) = true
  · simp only [h1, if_true, Option.bind_some]; exact ⟨true, rfl, fun h => by cases h⟩
  · by_cases h2 : decide ((c.Ands.length : Int) > 120) = true
    · simp only [h1, h2, if_true, if_false, Option.bind_some]; exact ⟨true, rfl, fun h => by cases h⟩
    · by_cases h3 : decide ((c.Bads.length : Int) > 110) = true
      · simp only [h1, h2, h3, if_true, if_false, Option.bind_some]; exact ⟨true, rfl, fun h => by cases h⟩
      · by_cases h4 : decide ((c.Constraints.length : Int) > 110) = true
        · simp only [h1, h2, h3, h4, if_true, if_false, Option.bind_some]; exact ⟨true, rfl, fun h => by cases h⟩
        · simp only [h1, h2, h3, h4, if_false, Option.bind_some]
          have g1 : c.Latches.length ≤ 60 := by simp at h1; omega
          have g2 : c.Ands.length ≤ 120 := by simp at h2; omega
          have g3 : c.Bads.length ≤ 110 := by simp at h3; omega
          have g4 : c.Constraints.length ≤ 110 := by simp at h4; omega
          have hw : c.Latches.length ≤ 60 ∧ Few c := ⟨g1, by omega, by omega, by omega, by omega⟩
          by_cases h5 : decide (c.Inputs > 40) = true
          · simp only [h5, if_true, Option.bind_some]; exact ⟨_, rfl, fun _ => hw⟩
          · simp only [h5, if_false, Option.bind_some]; exact ⟨_, rfl, fun _ => hw⟩
theorem great36 (hc : RC c) : ∃ b, s_ref36_Great c = some b ∧ (b = false → c.Latches.length ≤ 60 ∧ Few c) := by
  unfold s_ref36_Great
  obtain ⟨b, hb, hw⟩ := great02 (c := c)
  rw [hb]
  simp only [Option.bind_some]
  cases b with
  | true => simp only [if_true]; exact ⟨true, rfl, fun h => by cases h⟩
  | false =>
    have hw := hw rfl
    simp only [Bool.false_eq_true, if_false, ref_Check_eq hc hw.2, Option.bind_some]
    by_cases h0 : (chk c == 0) = true
    · have hk : chk c = 0 := by simpa using h0
      have hi : 0 ≤ c.Inputs ∧ c.Inputs ≤ 1000 := by
        unfold chk at hk
        by_cases a : c.Inputs < 0
        · rw [if_pos a] at hk; cases hk
        · rw [if_neg a] at hk
          by_cases b : c.Inputs > 1000 ∨ size c > 1000 ∨ c.Bads.length > 100 ∨ c.Constraints.length > 100
          · rw [if_pos b] at hk; cases hk
          · omega
      simp only [h0, if_true, Size_eq hi.1 hi.2 hw.2, Option.bind_some]
      split
      · exact ⟨_, rfl, fun _ => hw⟩
      · split
        · exact ⟨_, rfl, fun _ => hw⟩
        · exact ⟨_, rfl, fun _ => hw⟩
    · simp only [h0, if_false, Option.bind_some]; exact ⟨_, rfl, fun _ => hw⟩
theorem great38 (n : Nat) : ∃ b, s_ref38_Great (n : Int) = some b ∧ (b = false → n ≤ 1010) := by
  unfold s_ref38_Great
  by_cases h1 : decide ((n : Int) > 130) = true
  · by_cases h2 : decide ((n : Int) < 1000) = true
    · simp only [h1, h2, if_true, Option.bind_some]; exact ⟨true, rfl, fun h => by cases h⟩
    · simp only [h1, h2, if_true, if_false, Option.bind_some]; exact ⟨_, rfl, fun h => by simp at h; omega⟩
  · simp only [h1, if_false, Option.bind_some]; exact ⟨_, rfl, fun h => by simp at h; omega⟩
theorem inputs_of (hk : chk c = 0) : 0 ≤ c.Inputs ∧ c.Inputs ≤ 1000 := by
  unfold chk at hk
  by_cases a : c.Inputs < 0
  · rw [if_pos a] at hk; cases hk
  · rw [if_neg a] at hk
    by_cases b : c.Inputs > 1000 ∨ size c > 1000 ∨ c.Bads.length > 100 ∨ c.Constraints.length > 100
    · rw [if_pos b] at hk; cases hk
    · omega
theorem Chain_eq (hc : RC c) (hf : Few c) (h60 : c.Latches.length ≤ 60) (hl : l.length ≤ 1010) (hr : RO l) (n : Int) :
    ∃ ks e, s_queue_Chain c l n = some (ks, e) ∧ s_ref38_Chain c l n = some (ks, e) ∧ ks.length ≤ 1010 ∧ (e = 0 → OkO c l ∧ chk c = 0 ∧ Chained c l n ks) := by
  obtain ⟨e, h1, h2, h3⟩ := Right_eq hc hf h60 hl hr
  unfold s_queue_Chain s_ref38_Chain
  simp only [h1, h2, Option.bind_some]
  by_cases h0 : e = 0
  · subst h0
    obtain ⟨hO, hk⟩ := h3 rfl
    have e0 : ((0 : Int) != 0) = false := rfl
    simp only [e0, Bool.false_eq_true, if_false]
    by_cases a : decide (n < 0) = true
    · simp only [a, if_true, Option.bind_some]
      exact ⟨[], 2, rfl, rfl, by simp, fun h => by cases h⟩
    · simp only [a, if_false, Option.bind_some]
      by_cases b : decide (n ≥ (l.length : Int)) = true
      · simp only [b, if_true]
        exact ⟨[], 2, rfl, rfl, by simp, fun h => by cases h⟩
      · simp only [b, if_false]
        obtain ⟨ks, hks⟩ := chained hO hl (n := n) (by simp at a; omega) (by simp at b; omega)
        have hb : ks.length ≤ big := by have := hks.len; unfold big; omega
        simp only [hks.code, hks.ref, Option.bind_some, hb, if_true]
        exact ⟨ks, 0, rfl, rfl, hks.len, fun _ => ⟨hO, hk, hks⟩⟩
  · have e0 : (e != 0) = true := by simpa using h0
    simp only [e0, if_true]
    exact ⟨[], e, rfl, rfl, by simp, fun h => absurd h h0⟩
def Tame06 (t : S_Trace) : Prop := t.First.length < 1000000 ∧ t.Inputs.length < 1000000 ∧ ∀ is ∈ t.Inputs, is.length < 1000000
theorem Trace_eq (hc : RC c) (hf : Few c) (h60 : c.Latches.length ≤ 60) (hl : l.length ≤ 1010) (hr : RO l) (n : Int) (st is : List Bool) :
    ∃ t e, s_queue_Trace c l n st is = some (t, e) ∧ s_ref38_Trace c l n st is = some (t, e) ∧ Tame06 t := by
  have tn : Tame06 (S_Trace.mk ([] : List Bool) ([] : List (List Bool))) := ⟨by simp, by simp, fun x hx => by cases hx⟩
  obtain ⟨ks, e, h1, h2, _, h3⟩ := Chain_eq hc hf h60 hl hr n
  unfold s_queue_Trace s_ref38_Trace
  simp only [h1, h2, Option.bind_some]
  by_cases h0 : e = 0
  · subst h0
    obtain ⟨hO, hk, hks⟩ := h3 rfl
    obtain ⟨i0, i1⟩ := inputs_of hk
    have e0 : ((0 : Int) != 0) = false := rfl
    simp only [e0, Bool.false_eq_true, if_false]
    by_cases a : ((st.length : Int) != (c.Latches.length : Int)) = true
    · simp only [a, if_true, Option.bind_some]
      exact ⟨_, 2, rfl, rfl, tn⟩
    · simp only [a, if_false, Option.bind_some]
      by_cases b : ((is.length : Int) != c.Inputs) = true
      · simp only [b, if_true]
        exact ⟨_, 2, rfl, rfl, tn⟩
      · simp only [b, if_false]
        by_cases d : decide ((ks.length : Int) ≥ 100) = true
        · simp only [d, if_true]
          exact ⟨_, 4, rfl, rfl, tn⟩
        · simp only [d, if_false]
          have hst : st.length ≤ 1000 := by simp at a; omega
          have his : is.length ≤ 1000 := by simp at b; omega
          have hlen := hks.len
          have hb1 : st.length ≤ big := by unfold big; omega
          have hb2 : is.length ≤ big := by unfold big; omega
          have hb3 : ([is] : List (List Bool)).length + ks.length ≤ big := by unfold big; simp; omega
          have hb4 : ∀ o ∈ l, o.Inputs.length ≤ big := fun o ho => by
            obtain ⟨i, hi⟩ := List.getElem?_of_mem ho
            have := (hO i o hi).1
            unfold big; omega
          simp only [hb1, hb2, if_true, hks.code, Option.bind_some, selM_eq hks.mem, hb3]
          rw [if_pos hb4, Run_eq hks i0 i1 hst his]
          simp only [Option.bind_some]
          refine ⟨_, 0, rfl, rfl, by show st.length < 1000000; omega, by show ([is] ++ ks.map (inp l)).length < 1000000; simp; omega, fun x hx => ?_⟩
          have hx : x ∈ [is] ++ ks.map (inp l) := hx
          rcases List.mem_append.1 hx with hx | hx
          · rw [List.mem_singleton.1 hx]; omega
          · obtain ⟨k, hk, rfl⟩ := List.mem_map.1 hx
            obtain ⟨o, ho, hi⟩ := hks.mem k hk
            have : inp l k = o.Inputs := by unfold inp; rw [ho]
            rw [this]; omega
  · have e0 : (e != 0) = true := by simpa using h0
    simp only [e0, if_true]
    exact ⟨_, e, rfl, rfl, tn⟩
end
theorem plain_QueueChains (c : S_Circuit) (l : List S_Obligation) (n : Int) (st is : List Bool) (h : R_S_Circuit c) (h1 : l.length ≤ maxLen ∧ ∀ y ∈ l, R_S_Obligation y) (_ : RI n) (_ : st.length ≤ maxLen ∧ ∀ y ∈ st, True) (_ : is.length ≤ maxLen ∧ ∀ y ∈ is, True) :
    s_law38_QueueChains c l n st is = some true := by
  have hc := RC_of h
  have hr := RO_of h1.2
  unfold s_law38_QueueChains
  obtain ⟨b, hb, hw⟩ := great36 hc
  rw [hb]
  simp only [Option.bind_some]
  cases b with
  | true => simp only [if_true, Option.bind_some]
  | false =>
    obtain ⟨h60, hf⟩ := hw rfl
    simp only [Bool.false_eq_true, if_false]
    obtain ⟨b, hb, hw⟩ := great38 l.length
    rw [hb]
    simp only [Option.bind_some]
    cases b with
    | true => simp only [if_true]
    | false =>
      have hl := hw rfl
      simp only [Bool.false_eq_true, if_false]
      obtain ⟨ks, e, c1, c2, c3, _⟩ := Chain_eq hc hf h60 hl hr n
      obtain ⟨t, e', t1, t2, t3⟩ := Trace_eq hc hf h60 hl hr n st is
      obtain ⟨e'', r1, r2, _⟩ := Right_eq hc hf h60 hl hr
      simp only [c1, c2, t1, t2, r1, r2, Option.bind_some, BEq.rfl, if_true, Same_self ks (by omega), Same06_self t t3.1 t3.2.1 t3.2.2]
end Go.Proofs.Ytkhgnkfdpabflaa.Vm
