/- Runs: what traces.Check, traces.States and the reference's Check answer. -/
import Derived.Test.YtbmhmfcjjhjkgaaVmU13
import Derived.Test.YtbmhmfcjjhjkgaaVmU7c
namespace Go.Proofs.Ytbmhmfcjjhjkgaa.Vm
open Go
set_option linter.unusedVariables false
set_option linter.unusedSimpArgs false
def Start (c : S_Circuit) (st : List Bool) : Prop := ∀ (k : Nat) l b, c.Latches[k]? = some l → st[k]? = some b → l.Reset = 2 ∨ (l.Reset == 1) = b
theorem Start.lsok {c : S_Circuit} (hfit : Fit c) {st : List Bool} (h : Start c st) (hst : st.length = c.Latches.length) : LsOk [] (resets c false) st := by
  refine ⟨by simp [resets, hst], fun k hk => ?_⟩
  have hk2 : k < c.Latches.length := by simpa [resets] using hk
  have e1 : (resets c false).getD k 0 = if c.Latches[k].Reset = 2 then -1 else c.Latches[k].Reset := by
    simp [resets, List.getD_eq_getElem?_getD, hk2]
  have hk3 : k < st.length := by omega
  have e2 : st.getD k false = st[k] := by rw [List.getD_eq_getElem?_getD, List.getElem?_eq_getElem hk3]; rfl
  obtain ⟨_, r0, r2⟩ := hfit.valid.latches c.Latches[k] (List.getElem_mem hk2)
  rw [e1, e2]
  rcases h k _ _ (List.getElem?_eq_getElem hk2) (List.getElem?_eq_getElem hk3) with h | h
  · rw [if_pos h]; exact .inl (by omega)
  · by_cases e : c.Latches[k].Reset = 2
    · rw [if_pos e]; exact .inl (by omega)
    · rw [if_neg e]
      refine .inr ⟨by simp; omega, ?_⟩
      unfold tr
      rw [if_pos (by omega)]; exact h
section
variable {c : S_Circuit}
def offAt (c : S_Circuit) (i : Nat) (b : Bool) : Bool := match c.Latches[i]? with
  | some l => (b && l.Reset == 0) || (!b && l.Reset == 1)
  | none => false
theorem offAt_eq {i : Nat} {l : S_Latch} {b : Bool} (h : c.Latches[i]? = some l) : offAt c i b = ((b && l.Reset == 0) || (!b && l.Reset == 1)) := by unfold offAt; rw [h]
theorem Starts_eq (hfit : Fit c) {st : List Bool} (hst : st.length = c.Latches.length) : ∃ b, s_ref06_Starts c st = some b ∧ (b = true ↔ Start c st) := by
  obtain ⟨g1, g2, g3⟩ := hfit.len
  unfold s_ref06_Starts
  obtain ⟨r, h1, h2⟩ := Lp_find (l := st) (offAt c) (f := b_ref06_Starts_L0 c st) (r0 := Sum.inl ()) (fun _ => Sum.inr ()) (by omega) (fun i b hb => by
    have hi := lt_len hb
    obtain ⟨l, hl⟩ : ∃ l, c.Latches[i]? = some l := ⟨c.Latches[i]'(by omega), List.getElem?_eq_getElem (by omega)⟩
    unfold b_ref06_Starts_L0
    simp only [dec_lt hi, if_true, offAt_eq hl]
    rw [idx_nat', idx_nat', hb, hl]
    simp only [Option.bind_some]
    cases b with
    | true => by_cases hq : l.Reset = 0 <;> simp [hq]
    | false => by_cases hq : l.Reset = 1 <;> simp [hq]) (by unfold b_ref06_Starts_L0; simp only [dec_ge]; rfl)
  rw [h1]
  rcases h2 with ⟨h, rfl⟩ | ⟨i, b, hb, hp, rfl⟩
  · refine ⟨true, rfl, fun _ k l b hl hb => ?_, fun _ => rfl⟩
    have := h k b hb
    rw [offAt_eq hl] at this
    obtain ⟨_, r0, r2⟩ := hfit.valid.latches l (List.mem_of_getElem? hl)
    rcases (show l.Reset = 0 ∨ l.Reset = 1 ∨ l.Reset = 2 by omega) with e | e | e
    · rw [e] at this; cases b
      · right; rw [e]; rfl
      · cases this
    · rw [e] at this; cases b
      · cases this
      · right; rw [e]; rfl
    · exact .inl e
  · refine ⟨false, rfl, fun h => (by cases h), fun h => ?_⟩
    have hi := lt_len hb
    obtain ⟨l, hl⟩ : ∃ l, c.Latches[i]? = some l := ⟨c.Latches[i]'(by omega), List.getElem?_eq_getElem (by omega)⟩
    rw [offAt_eq hl] at hp
    obtain ⟨_, r0, r2⟩ := hfit.valid.latches l (List.mem_of_getElem? hl)
    have hk := h i l b hl hb
    rcases (show l.Reset = 0 ∨ l.Reset = 1 ∨ l.Reset = 2 by omega) with e | e | e
    · rw [e] at hp hk
      rcases hk with hk | hk
      · omega
      · rw [← hk] at hp; cases hp
    · rw [e] at hp hk
      rcases hk with hk | hk
      · omega
      · rw [← hk] at hp; cases hp
    · rw [e] at hp; cases b <;> cases hp
theorem starts_ok (hfit : Fit c) {st : List Bool} (hst : st.length = c.Latches.length) (h : Start c st) : s_traces_starts c st = some true := by
  obtain ⟨g1, g2, g3⟩ := hfit.len
  unfold s_traces_starts
  rw [Lp_all (l := c.Latches) (f := b_traces_starts_L0 c st) (r0 := .inl ()) (by omega) (fun i l hl => by
    have hi := lt_len hl
    obtain ⟨b, hb⟩ : ∃ b, st[i]? = some b := ⟨st[i]'(by omega), List.getElem?_eq_getElem (by omega)⟩
    unfold b_traces_starts_L0
    simp only [dec_lt hi, if_true]
    rw [idx_nat', hl]
    simp only [Option.bind_some]
    rcases h i l b hl hb with e | e
    · have : (l.Reset != 2) = false := by rw [e]; rfl
      simp only [this, Bool.false_eq_true, if_false, Option.bind_some]
    · rw [idx_nat', hb]
      cases hq : (l.Reset != 2) with
      | false => simp only [Bool.false_eq_true, if_false, Option.bind_some]
      | true =>
        have : ((b == (l.Reset == 1)) != true) = false := by rw [e]; cases b <;> rfl
        simp only [if_true, Option.bind_some, this, Bool.false_eq_true, if_false]) (by unfold b_traces_starts_L0; simp only [dec_ge]; rfl)]
  rfl
structure Run (c : S_Circuit) (t : S_Trace) : Prop where
  n1 : 1 ≤ t.Inputs.length
  n2 : t.Inputs.length ≤ 100
  st : t.First.length = c.Latches.length
  start : Start c t.First
  ins : ∀ is ∈ t.Inputs, (is.length : Int) = c.Inputs
theorem ref06_Check_eq (hr : RC c) (hf : Few c) (hc : chk c = 0) (hfit : Fit c) (t : S_Trace) : ∃ e, s_ref06_Check c t = some e ∧ (e = 0 → Run c t) := by
  unfold s_ref06_Check
  rw [ref_Check_eq hr hf, hc]
  simp only [Option.bind_some]
  rw [if_neg (by decide)]
  by_cases h1 : (t.Inputs.length : Int) > 100
  · rw [if_pos (by simpa using h1)]; exact ⟨4, rfl, fun h => by cases h⟩
  rw [if_neg (by simpa using h1)]
  by_cases h2 : t.Inputs.length = 0
  · have : ((t.Inputs.length : Int) == 0) = true := by simp [h2]
    simp only [this, if_true, Option.bind_some]
    exact ⟨8, rfl, fun h => by cases h⟩
  have e2 : ((t.Inputs.length : Int) == 0) = false := by simp; intro h; rw [h] at h2; simp at h2
  simp only [e2, Bool.false_eq_true, if_false]
  by_cases h3 : t.First.length = c.Latches.length
  · have e3 : ((t.First.length : Int) != (c.Latches.length : Int)) = false := by simp [h3]
    obtain ⟨b, q1, q2⟩ := Starts_eq hfit h3
    simp only [e3, Bool.false_eq_true, if_false, q1, Option.bind_some]
    cases b with
    | false => simp only [Bool.not_false, if_true]; exact ⟨8, rfl, fun h => by cases h⟩
    | true =>
      simp only [Bool.not_true, Bool.false_eq_true, if_false]
      obtain ⟨r, p1, p2⟩ := Lp_find (l := t.Inputs) (fun _ x => (x.length : Int) != c.Inputs) (f := b_ref06_Check_L0 c t) (r0 := Sum.inl ()) (fun _ => Sum.inr ()) (by omega) (fun i x hx => by
        have hi := lt_len hx
        unfold b_ref06_Check_L0
        simp only [dec_lt hi, if_true]
        rw [idx_nat', hx]
        simp only [Option.bind_some]
        cases ((x.length : Int) != c.Inputs) <;> rfl) (by unfold b_ref06_Check_L0; simp only [dec_ge]; rfl)
      rw [p1]
      rcases p2 with ⟨h, rfl⟩ | ⟨i, x, hx, hp, rfl⟩
      · refine ⟨0, rfl, fun _ => ⟨by omega, by omega, h3, q2.1 rfl, fun is his => ?_⟩⟩
        obtain ⟨i, hi⟩ := List.getElem?_of_mem his
        have := h i is hi
        simpa using this
      · exact ⟨8, rfl, fun h => by cases h⟩
  · have e3 : ((t.First.length : Int) != (c.Latches.length : Int)) = true := by simp; omega
    simp only [e3, if_true, Option.bind_some]
    exact ⟨8, rfl, fun h => by cases h⟩
theorem traces_Check_ok (hr : RC c) (hf : Few c) (hc : chk c = 0) (hfit : Fit c) {t : S_Trace} (h : Run c t) : s_traces_Check c t = some 0 := by
  obtain ⟨n1, n2, hst, hs, hin⟩ := h
  unfold s_traces_Check
  rw [gates_Check_eq hr hf, hc]
  simp only [Option.bind_some]
  have e1 : decide ((t.Inputs.length : Int) > 100) = false := decide_eq_false (by omega)
  have e2 : ((t.Inputs.length : Int) == 0) = false := by simp; intro h; rw [h] at n1; simp at n1
  have e3 : ((t.First.length : Int) != (c.Latches.length : Int)) = false := by simp [hst]
  rw [if_neg (by decide)]
  simp only [e1, e2, e3, Bool.false_eq_true, if_false, starts_ok hfit hst hs, Option.bind_some, if_true]
  rw [Lp_all (l := t.Inputs) (f := b_traces_Check_L0 c t) (r0 := .inl ()) (by omega) (fun i x hx => by
    have hi := lt_len hx
    have : ((x.length : Int) != c.Inputs) = false := by simp [hin x (List.mem_of_getElem? hx)]
    unfold b_traces_Check_L0
    simp only [dec_lt hi, if_true]
    rw [idx_nat', hx]
    simp only [Option.bind_some, this, Bool.false_eq_true, if_false]) (by unfold b_traces_Check_L0; simp only [dec_ge]; rfl)]
  simp only [Option.bind_some]
  rw [if_neg (by decide)]
theorem Contains_tot (l : List Bool) (b : Bool) (hl : l.length < 9223372036854775807) : ∃ r, s_slices_Contains_of_bool l b = some r := by
  unfold s_slices_Contains_of_bool s_slices_Index_of_bool
  obtain ⟨r, p1, p2⟩ := Lp_find (l := l) (fun _ x => (b == x) != false) (f := b_slices_Index_of_bool_L0 l b) (r0 := Sum.inl ()) (fun i => Sum.inr i) hl (fun i x hx => by
    have hi := lt_len hx
    unfold b_slices_Index_of_bool_L0
    simp only [dec_lt hi, if_true]
    rw [idx_nat', hx]
    simp only [Option.bind_some]
    cases ((b == x) != false) <;> rfl) (by unfold b_slices_Index_of_bool_L0; simp only [dec_ge]; rfl)
  rw [p1]
  rcases r with r | r
  · exact ⟨_, rfl⟩
  · exact ⟨_, rfl⟩
theorem Props_tot (hr : RC c) (hf : Few c) (hc : chk c = 0) (hfit : Fit c) {st is : List Bool} (hst : st.length = c.Latches.length) (his : (is.length : Int) = c.Inputs) : ∃ b l, s_values_Props c st is = some (b, l, 0) := by
  have g1 := hfit.i0
  have g2 := hfit.size
  obtain ⟨g3, g4, g5⟩ := hfit.len
  obtain ⟨f1, f2, f3, f4⟩ := hf
  have hf : Few c := ⟨f1, f2, f3, f4⟩
  have hsz : size c = is.length + st.length + c.Ands.length := by unfold size; omega
  have hbig := big_ge
  unfold s_values_Props
  rw [All_eq hr hf hc hfit hst his]
  simp only [Option.bind_some]
  rw [if_neg (by decide)]
  have A : Lp (b_values_Props_L0 c (allF c st is, 0)) ([], 0) = some (c.Bads.map (gval (allF c st is))) := Lp_map (l := c.Bads) (gval (allF c st is)) (fun b => b) (by omega) (fun i x b hx hP => by
    have hi := lt_len hx
    obtain ⟨a1, a2⟩ := hfit.valid.bads x (List.mem_of_getElem? hx)
    unfold b_values_Props_L0
    simp only [dec_lt hi, if_true]
    rw [idx_nat', hx]
    simp only [Option.bind_some]
    rw [values_of_eq a1 (by omega) (by rw [allF_length]; omega)]
    simp only [Option.bind_some]
    rw [if_pos (by omega)]) (fun b => by unfold b_values_Props_L0; simp only [dec_ge]; rfl)
  have B : Lp (b_values_Props_L1 c (allF c st is, 0)) ([], 0) = some (c.Constraints.map (gval (allF c st is))) := Lp_map (l := c.Constraints) (gval (allF c st is)) (fun b => b) (by omega) (fun i x b hx hP => by
    have hi := lt_len hx
    obtain ⟨a1, a2⟩ := hfit.valid.cons x (List.mem_of_getElem? hx)
    unfold b_values_Props_L1
    simp only [dec_lt hi, if_true]
    rw [idx_nat', hx]
    simp only [Option.bind_some]
    rw [values_of_eq a1 (by omega) (by rw [allF_length]; omega)]
    simp only [Option.bind_some]
    rw [if_pos (by omega)]) (fun b => by unfold b_values_Props_L1; simp only [dec_ge]; rfl)
  obtain ⟨r, hcon⟩ := Contains_tot (c.Constraints.map (gval (allF c st is))) false (by simp; omega)
  rw [A]
  simp only [Option.bind_some]
  rw [B]
  simp only [Option.bind_some, hcon]
  exact ⟨_, _, rfl⟩
theorem States_loop (hr : RC c) (hf : Few c) (hc : chk c = 0) (hfit : Fit c) {t : S_Trace} (hn : t.Inputs.length ≤ 100) : ∀ (iss : List (List Bool)) (i : Nat) (acc : List (List Bool)) (st : List Bool), t.Inputs.drop i = iss → st.length = c.Latches.length → acc.length = i → i + iss.length = t.Inputs.length → (∀ is ∈ iss, (is.length : Int) = c.Inputs) →
    Lp (b_traces_States_L0 c t) (acc, (i : Int), st) = some (.inl (acc ++ statesF c st iss))
  | [], i, acc, st, hd, hst, ha, hl, his => by
    refine Lp_out ?_
    unfold b_traces_States_L0
    have : i = t.Inputs.length := by simpa using hl
    rw [this]
    simp only [dec_ge, Bool.false_eq_true, if_false, statesF, List.append_nil]
  | is :: iss, i, acc, st, hd, hst, ha, hl, his => by
    obtain ⟨h1, h2⟩ := drop_cons hd
    have hi := lt_len h1
    have hbig := big_ge
    have hx := his is (by simp)
    obtain ⟨b, l, hp⟩ := Props_tot hr hf hc hfit hst hx
    have hstep : b_traces_States_L0 c t (acc, (i : Int), st) = some (.inl (acc ++ [st], ((i + 1 : Nat) : Int), nextS c (allF c st is))) := by
      unfold b_traces_States_L0
      simp only [dec_lt hi, if_true]
      rw [idx_nat', h1]
      simp only [Option.bind_some, hp, bne_self_eq_false, Bool.false_eq_true, if_false]
      rw [if_pos (by omega), Next_eq hr hf hc hfit hst hx]
      simp only [Option.bind_some, bne_self_eq_false, Bool.false_eq_true, if_false]
      rw [wr1 (by omega)]
    rw [Lp_step hstep, States_loop hr hf hc hfit hn iss (i + 1) (acc ++ [st]) (nextS c (allF c st is)) h2 (by simp [nextS]) (by simp [ha]) (by simp only [List.length_cons] at hl; omega) (fun j hj => his j (by simp [hj]))]
    simp [statesF]
theorem States_eq (hr : RC c) (hf : Few c) (hc : chk c = 0) (hfit : Fit c) {t : S_Trace} (h : Run c t) : s_traces_States c t = some (statesF c t.First t.Inputs, 0) := by
  have hck := traces_Check_ok hr hf hc hfit h
  obtain ⟨n1, n2, hst, hs, hin⟩ := h
  obtain ⟨g3, g4, g5⟩ := hfit.len
  have hbig := big_ge
  unfold s_traces_States
  have hmk : mkn (t.First.length : Int) = some t.First.length := by unfold mkn; rw [if_pos ⟨by omega, by omega⟩, Int.toNat_natCast]
  have hcp : cpl 0 t.First.length t.First (List.replicate t.First.length false) = t.First := by
    rw [cpl_eq (Nat.le_refl _) (by simp)]; simp
  have e0 : decide ((0 : Int) < (t.Inputs.length : Int)) = true := decide_eq_true (by omega)
  obtain ⟨is, iss, he⟩ : ∃ is iss, t.Inputs = is :: iss := by
    cases hx : t.Inputs with
    | nil => rw [hx] at n1; simp at n1
    | cons a b => exact ⟨a, b, rfl⟩
  have hi0 := hin is (by rw [he]; simp)
  obtain ⟨b, l, hp⟩ := Props_tot hr hf hc hfit hst hi0
  have i0 : idx t.Inputs 0 = some is := by rw [he]; exact idx0 rfl
  rw [hck]
  simp only [Option.bind_some, bne_self_eq_false, Bool.false_eq_true, if_false, hmk, e0, if_true, i0, hcp, hp]
  rw [if_pos (by simp; omega), Next_eq hr hf hc hfit hst hi0]
  simp only [Option.bind_some, bne_self_eq_false, Bool.false_eq_true, if_false, List.nil_append]
  have w1 : IntKind.wrap .i64 ((0 : Int) + 1) = ((1 : Nat) : Int) := rfl
  rw [w1, States_loop hr hf hc hfit n2 iss 1 [t.First] (nextS c (allF c t.First is)) (by rw [he]; rfl) (by simp [nextS]) rfl (by rw [he]; simp; omega) (fun j hj => hin j (by rw [he]; simp [hj]))]
  simp only [Option.bind_some]
  rw [he]
  rfl
end
end Go.Proofs.Ytbmhmfcjjhjkgaa.Vm
