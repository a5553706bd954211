/- Right, Chain and Trace: both sides. -/
import Derived.Test.YtkhgnkfdpabflaaVmZ1
namespace Go.Proofs.Ytkhgnkfdpabflaa.Vm
open Go
set_option linter.unusedVariables false
set_option linter.unusedSimpArgs false
def RO (l : List S_Obligation) : Prop := ∀ o ∈ l, o.Cube.length ≤ 9223372036854775807 ∧ (∀ x ∈ o.Cube, I64 x) ∧ I64 o.Next
noncomputable def badO (c : S_Circuit) (i : Nat) (o : S_Obligation) : Bool := !okL c.Latches.length o.Cube || (((o.Inputs.length : Int) != c.Inputs) || (decide (o.Next < -1) || decide (o.Next ≥ (i : Int))))
def OkO (c : S_Circuit) (l : List S_Obligation) : Prop := ∀ (i : Nat) o, l[i]? = some o → (o.Inputs.length : Int) = c.Inputs ∧ -1 ≤ o.Next ∧ o.Next < i
section
variable {c : S_Circuit} {l : List S_Obligation}
theorem badO_ok (h : ∀ i o, l[i]? = some o → badO c i o = false) : OkO c l := fun i o ho => by
  have := h i o ho
  unfold badO at this
  simp only [Bool.or_eq_false_iff] at this
  obtain ⟨_, h1, h2, h3⟩ := this
  simp at h1 h2 h3
  exact ⟨h1, by omega, h3⟩
theorem Right_eq (hc : RC c) (hf : Few c) (h60 : c.Latches.length ≤ 60) (hl : l.length ≤ 1010) (hr : RO l) :
    ∃ e, s_queue_Right c l = some e ∧ s_ref38_Right c l = some e ∧ (e = 0 → OkO c l ∧ chk c = 0) := by
  unfold s_queue_Right s_ref38_Right
  rw [gates_Check_eq hc hf, ref_Check_eq hc hf]
  simp only [Option.bind_some]
  by_cases h0 : chk c = 0
  · have e0 : (chk c != 0) = false := by simp [h0]
    simp only [e0, Bool.false_eq_true, if_false]
    by_cases h1 : decide ((l.length : Int) > 1000) = true
    · simp only [h1, if_true]
      exact ⟨4, rfl, rfl, fun h => by cases h⟩
    · simp only [h1, if_false]
      have ho : ∀ (i : Nat) o, l[i]? = some o → s_clause_Check (c.Latches.length : Int) o.Cube = some (if okL c.Latches.length o.Cube then 0 else 8) ∧ s_ref13_Valid (c.Latches.length : Int) o.Cube = some (okL c.Latches.length o.Cube) := fun i o ho => by
        obtain ⟨r1, r2, _⟩ := hr o (List.mem_of_getElem? ho)
        exact ⟨clause_Check_eq (by omega) (by omega) r1 r2, ref13_Valid_eq (by omega) (by omega) r1⟩
      obtain ⟨q, hq, h⟩ := Lp_find (l := l) (badO c) (f := b_queue_Right_L0 c l) (r0 := .inl ()) (fun _ => .inr ()) (by omega) (fun i o hx => by
        unfold b_queue_Right_L0 badO
        rw [dec_lt (lt_len hx), idx_nat', hx]
        simp only [if_true, Option.bind_some, (ho i o hx).1]
        cases okL (c.Latches.length : Int) o.Cube with
        | false => rfl
        | true =>
          simp only [if_true, show ((0 : Int) != 0) = false from rfl, Bool.false_eq_true, if_false, Bool.not_true, Bool.false_or]
          cases ((o.Inputs.length : Int) != c.Inputs) with
          | true => rfl
          | false =>
            simp only [Bool.false_eq_true, if_false, Bool.false_or]
            cases decide (o.Next < -1) with
            | true => rfl
            | false =>
              simp only [Bool.false_eq_true, if_false, Bool.false_or, Option.bind_some]
              split <;> rfl) (by unfold b_queue_Right_L0; rw [dec_ge]; rfl)
      obtain ⟨q', hq', h'⟩ := Lp_find (l := l) (badO c) (f := b_ref38_Right_L0 c l) (r0 := .inl ()) (fun _ => .inr ()) (by omega) (fun i o hx => by
        unfold b_ref38_Right_L0 badO
        rw [dec_lt (lt_len hx), idx_nat', hx]
        simp only [if_true, Option.bind_some, (ho i o hx).2]
        cases okL (c.Latches.length : Int) o.Cube with
        | false => rfl
        | true =>
          simp only [if_true, Bool.not_true, Bool.false_or]
          cases ((o.Inputs.length : Int) != c.Inputs) with
          | true => rfl
          | false =>
            simp only [Bool.false_eq_true, if_false, Bool.false_or]
            cases decide (o.Next < -1) with
            | true => rfl
            | false =>
              simp only [Bool.false_eq_true, if_false, Bool.false_or, Option.bind_some]
              split <;> rfl) (by unfold b_ref38_Right_L0; rw [dec_ge]; rfl)
      rw [hq, hq']
      rcases h with ⟨h, rfl⟩ | ⟨i, o, hx, hb, rfl⟩
      · rcases h' with ⟨_, rfl⟩ | ⟨i, o, hx, hb, rfl⟩
        · exact ⟨0, rfl, rfl, fun _ => ⟨badO_ok h, h0⟩⟩
        · rw [h i o hx] at hb; cases hb
      · rcases h' with ⟨h', rfl⟩ | ⟨_, _, _, _, rfl⟩
        · rw [h' i o hx] at hb; cases hb
        · exact ⟨8, rfl, rfl, fun h => by cases h⟩
  · have e0 : (chk c != 0) = true := by simp [h0]
    simp only [e0, if_true]
    exact ⟨chk c, rfl, rfl, fun h => absurd h h0⟩
def inp (l : List S_Obligation) (k : Int) : List Bool := match idx l k with | some o => o.Inputs | none => []
theorem chains (hO : OkO c l) (hl : l.length ≤ 1010) : ∀ (m : Nat) (n : Int), n < m → -1 ≤ n → n < l.length → ∃ ks : List Int, ks.length ≤ m ∧ (∀ k ∈ ks, ∃ o, idx l k = some o ∧ (o.Inputs.length : Int) = c.Inputs) ∧ (0 ≤ n → ks ≠ []) ∧
    (∀ acc : List Int, Lp (fun s : Int × List Int => if decide (s.1 ≥ 0) = true then (idx l s.1).bind fun o => some (.inl (o.Next, s.2 ++ [s.1])) else some (.inr s.2)) (n, acc) = some (acc ++ ks)) ∧
    (∀ acc : List Int, acc.length + m ≤ 100000 → Lp (b_ref38_Behind_L0 l) (acc, n) = some (acc ++ ks))
  | 0, n, h1, h2, h3 => by
    have : decide (n ≥ 0) = false := by simp; omega
    refine ⟨[], by simp, fun k hk => (by cases hk), fun h => (by omega), fun acc => Lp_out (by simp only [this, Bool.false_eq_true, if_false, List.append_nil]), fun acc _ => Lp_out (by unfold b_ref38_Behind_L0; simp only [this, Bool.false_eq_true, if_false, List.append_nil])⟩
  | m + 1, n, h1, h2, h3 => by
    by_cases hn : 0 ≤ n
    · have e : decide (n ≥ 0) = true := by simpa using hn
      have hlt : n.toNat < l.length := by omega
      have ho : l[n.toNat]? = some l[n.toNat] := List.getElem?_eq_getElem hlt
      have hi : idx l n = some l[n.toNat] := idx_of hn ho
      obtain ⟨q1, q2, q3⟩ := hO _ _ ho
      obtain ⟨ks, p1, p2, _, p3, p4⟩ := chains hO hl m (l[n.toNat]).Next (by omega) q2 (by omega)
      refine ⟨n :: ks, by simp; omega, fun k hk => ?_, fun _ => by simp, fun acc => ?_, fun acc hacc => ?_⟩
      · rcases List.mem_cons.1 hk with rfl | hk
        · exact ⟨_, hi, q1⟩
        · exact p2 k hk
      · rw [Lp_step (s' := ((l[n.toNat]).Next, acc ++ [n])) (by simp only [e, if_true, hi, Option.bind_some]), p3]
        simp
      · have hb : acc.length + 1 ≤ big := by unfold big; omega
        rw [Lp_step (s' := (acc ++ [n], (l[n.toNat]).Next)) (by unfold b_ref38_Behind_L0; simp only [e, if_true, hb, hi, Option.bind_some]), p4 _ (by simp; omega)]
        simp
    · have : decide (n ≥ 0) = false := by simp; omega
      refine ⟨[], by simp, fun k hk => (by cases hk), fun h => absurd h hn, fun acc => Lp_out (by simp only [this, Bool.false_eq_true, if_false, List.append_nil]), fun acc _ => Lp_out (by unfold b_ref38_Behind_L0; simp only [this, Bool.false_eq_true, if_false, List.append_nil])⟩
structure Chained (c : S_Circuit) (l : List S_Obligation) (n : Int) (ks : List Int) : Prop where
  len : ks.length ≤ 1010
  ne : ks ≠ []
  mem : ∀ k ∈ ks, ∃ o, idx l k = some o ∧ (o.Inputs.length : Int) = c.Inputs
  code : chn (fun o : S_Obligation => o.Next) l n = some ks
  ref : s_ref38_Behind l n = some ks
theorem chained (hO : OkO c l) (hl : l.length ≤ 1010) {n : Int} (h0 : 0 ≤ n) (h1 : n < l.length) : ∃ ks, Chained c l n ks := by
  obtain ⟨ks, p1, p2, p0, p3, p4⟩ := chains hO hl 1010 n (by omega) (by omega) h1
  refine ⟨ks, p1, p0 h0, p2, ?_, ?_⟩
  · have := p3 []
    unfold chn
    simpa using this
  · unfold s_ref38_Behind
    rw [p4 [] (by simp)]; rfl
theorem selM_eq {ks : List Int} (h : ∀ k ∈ ks, ∃ o, idx l k = some o ∧ (o.Inputs.length : Int) = c.Inputs) : selM (fun o : S_Obligation => o.Inputs) l ks = some (ks.map (inp l)) := by
  unfold selM
  induction ks with
  | nil => rfl
  | cons k ks ih =>
    obtain ⟨o, ho, _⟩ := h k (by simp)
    have : inp l k = o.Inputs := by unfold inp; rw [ho]
    rw [List.mapM_cons, ih (fun k hk => h k (by simp [hk]))]
    simp [ho, this]
theorem Run_eq {n : Int} {ks : List Int} (hk : Chained c l n ks) (hc : 0 ≤ c.Inputs) (hc1 : c.Inputs ≤ 1000) {st is : List Bool} (h1 : st.length ≤ 1000) (h2 : is.length ≤ 1000) : s_ref38_Run l n st is = some (S_Trace.mk st ([is] ++ ks.map (inp l))) := by
  unfold s_ref38_Run
  have b1 : ([] : List Bool).length + st.length ≤ big := by unfold big; simp; omega
  have b2 : ([] : List Bool).length + is.length ≤ big := by unfold big; simp; omega
  simp only [b1, b2, if_true, hk.ref, Option.bind_some]
  have hlen := hk.len
  have hr := Lp_run (l := ks) (fun (b : List (List Bool)) k => b ++ [inp l k]) (fun i b => b.length = i + 1) (fun i b => (b, (i : Int))) (f := b_ref38_Run_L0 l st ks) (fun i k b hx hb => by
    obtain ⟨o, ho, hi⟩ := hk.mem k (List.mem_of_getElem? hx)
    have e : inp l k = o.Inputs := by unfold inp; rw [ho]
    have hlt := lt_len hx
    have b3 : ([] : List Bool).length + o.Inputs.length ≤ big := by unfold big; simp; omega
    have b4 : b.length + 1 ≤ big := by unfold big; omega
    refine ⟨?_, by simp [hb]⟩
    unfold b_ref38_Run_L0
    simp only [dec_lt hlt, if_true, idx_nat', hx, Option.bind_some, ho, b3, b4, List.nil_append, e]
    rw [wr1 (by omega)]) [is] rfl
  have hf : ∀ (ks : List Int) (b : List (List Bool)), ks.foldl (fun (b : List (List Bool)) k => b ++ [inp l k]) b = b ++ ks.map (inp l) := by
    intro ks
    induction ks with
    | nil => intro b; simp
    | cons k ks ih => intro b; simp [ih]
  have h3 := hr.1
  rw [hf] at h3
  have h4 : Lp (b_ref38_Run_L0 l st ks) ([is] ++ ks.map (inp l), (ks.length : Int)) = some ([is] ++ ks.map (inp l)) := Lp_out (by unfold b_ref38_Run_L0; simp only [dec_ge, Bool.false_eq_true, if_false])
  simp only [List.nil_append]
  have h5 : Lp (b_ref38_Run_L0 l st ks) ([is], 0) = some ([is] ++ ks.map (inp l)) := h3.trans h4
  rw [h5]
  rfl
end
end Go.Proofs.Ytkhgnkfdpabflaa.Vm
