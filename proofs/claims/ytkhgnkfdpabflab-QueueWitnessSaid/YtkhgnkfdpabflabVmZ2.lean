/- Right, Chain and Trace: both sides. -/
import Derived.Test.YtkhgnkfdpabflabVmZ1
namespace Go.Proofs.Ytkhgnkfdpabflab.Vm
open Go
set_option linter.unusedVariables false
set_option linter.unusedSimpArgs false
def RO (l : List S_Obligation) : Prop := ∀ o ∈ l, o.Cube.length ≤ 9223372036854775807 ∧ (∀ x ∈ o.Cube, I64 x) ∧ I64 o.Next
noncomputable def badO (c : S_Circuit) (i : Nat) (o : S_Obligation) : Bool := !okL c.Latches.length o.Cube || (((o.Inputs.length : Int) != c.Inputs) || (decide (o.Next < -1) || decide (o.Next ≥ (i : Int))))
def OkO (c : S_Circuit) (l : List S_Obligation) : Prop := ∀ (i : Nat) o, l[i]? = some o → (o.Inputs.length : Int) = c.Inputs ∧ -1 ≤ o.Next ∧ o.Next < i
section
variable {c : S_Circuit} {l : List S_Obligation}
theorem badO_ok (h : ∀ i o, l[i]? = some o → badO c i o = false) : OkO c l := fun i o ho => by
  have := h i o ho
  unfold badO at this
  simp only [Bool.or_eq_false_iff] at this
  obtain ⟨_, h1, h2, h3⟩ := this
  simp at h1 h2 h3
  exact ⟨h1, by omega, h3⟩
theorem Right_eq (hc : RC c) (hf : Few c) (h60 : c.Latches.length ≤ 60) (hl : l.length ≤ 1010) (hr : RO l) :
    ∃ e, s_queue_Right c l = some e ∧ s_ref38_Right c l = some e ∧ (e = 0 → OkO c l ∧ chk c = 0) := by
  unfold s_queue_Right s_ref38_Right
  rw [gates_Check_eq hc hf, ref_Check_eq hc hf]
  simp only [Option.bind_some]
  by_cases h0 : chk c = 0
  · have e0 : (chk c != 0) = false := by simp [h0]
    simp only [e0, Bool.false_eq_true, if_false]
    by_cases h1 : decide ((l.length : Int) > 1000) = true
    · simp only [h1, if_true]
      exact ⟨4, rfl, rfl, fun h => by cases h⟩
    · simp only [h1, if_false]
      have ho : ∀ (i : Nat) o, l[i]? = some o → s_clause_Check (c.Latches.length : Int) o.Cube = some (if okL c.Latches.length o.Cube then 0 else 8) ∧ s_ref13_Valid (c.Latches.length : Int) o.Cube = some (okL c.Latches.length o.Cube) := fun i o ho => by
        obtain ⟨r1, r2, _⟩ := hr o (List.mem_of_getElem? ho)
        exact ⟨clause_Check_eq (by omega) (by omega) r1 r2, ref13_Valid_eq (by omega) (by omega) r1⟩
      obtain ⟨q, hq, h⟩ := Lp_find (l := l) (badO c) (f := b_queue_Right_L0 c l) (r0 := .inl ()) (fun _ => .inr ()) (by omega) (fun i o hx => by
        unfold b_queue_Right_L0 badO
        rw [dec_lt (lt_len hx), idx_nat', hx]
        simp only [if_true, Option.bind_some, (ho i o hx).1]
        cases okL (c.Latches.length : Int) o.Cube with
        | false => rfl
        | true =>
          simp only [if_true, show ((0 : Int) != 0) = false from rfl, Bool.false_eq_true, if_false, Bool.not_true, Bool.false_or]
          cases ((o.Inputs.length : Int) != c.Inputs) with
          | true => rfl
          | false =>
            simp only [Bool.false_eq_true, if_false, Bool.false_or]
            cases decide (o.Next < -1) with
            | true => rfl
            | false =>
              simp only [Bool.false_eq_true, if_false, Bool.false_or, Option.bind_some]
              split <;> rfl) (by unfold b_queue_Right_L0; rw [dec_ge]; rfl)
      obtain ⟨q', hq', h'⟩ := Lp_find (l := l) (badO c) (f := b_ref38_Right_L0 c l) (r0 := .inl ()) (fun _ => .inr ()) (by omega) (fun i o hx => by
        unfold b_ref38_Right_L0 badO
        rw [dec_lt (lt_len hx), idx_nat', hx]
        simp only [if_true, Option.bind_some, (ho i o hx).2]
        cases okL (c.Latches.length : Int) o.Cube with
        | false => rfl
        | true =>
          simp only [if_true, Bool.not_true, Bool.false_or]
          cases ((o.Inputs.length : Int) != c.Inputs) with
          | true => rfl
          | false =>
            simp only [Bool.false_eq_true, if_false, Bool.false_or]
            cases decide (o.Next < -1) with
            | true => rfl
            | false =>
              simp only [Bool.false_eq_true, if_false, Bool.false_or, Option.bind_some]
              split <;> rfl) (by unfold b_ref38_Right_L0; rw [dec_ge]; rfl)
      rw [hq, hq']
      rcases h with ⟨h, rfl⟩ | ⟨i, o, hx, hb, rfl⟩
      · rcases h' with ⟨_, rfl⟩ | ⟨i, o, hx, hb, rfl⟩
        · exact ⟨0, rfl, rfl, fun _ => ⟨badO_ok h, h0⟩⟩
        · rw [h i o hx] at hb; cases hb
      · rcases h' with ⟨h', rfl⟩ | ⟨_, _, _, _, rfl⟩
        · rw [h' i o hx] at hb; cases hb
        · exact ⟨8, rfl, rfl, fun h => by cases h⟩
  · have e0 : (chk c != 0) = true := by simp [h0]
    simp only [e0, if_true]
    exact ⟨chk c, rfl, rfl, fun h => absurd h h0⟩
def inp (l : List S_Obligation) (k : Int) : List Bool := match idx l k with | some o => o.Inputs | none => []
theorem selM_eq {ks : List Int} (h : ∀ k ∈ ks, ∃ o, idx l k = some o ∧ (o.Inputs.length : Int) = c.Inputs) : selM (fun o : S_Obligation => o.Inputs) l ks = some (ks.map (inp l)) := by
  unfold selM
  induction ks with
  | nil => rfl
  | cons k ks ih =>
    obtain ⟨o, ho, _⟩ := h k (by simp)
    have : inp l k = o.Inputs := by unfold inp; rw [ho]
    rw [List.mapM_cons, ih (fun k hk => h k (by simp [hk]))]
    simp [ho, this]
end
end Go.Proofs.Ytkhgnkfdpabflab.Vm
