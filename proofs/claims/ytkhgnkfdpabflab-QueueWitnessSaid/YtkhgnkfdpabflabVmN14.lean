/- Frames by the reference, properties, and the states of a run. -/
import Derived.Test.YtkhgnkfdpabflabVmN12
import Derived.Test.YtkhgnkfdpabflabVmU9
namespace Go.Proofs.Ytkhgnkfdpabflab.Vm
open Go
set_option linter.unusedVariables false
set_option linter.unusedSimpArgs false
section
variable {c : S_Circuit}
theorem chk_valid (hk : chk c = 0) : Valid c := by
  unfold chk at hk
  split at hk
  · cases hk
  · split at hk
    · cases hk
    · split at hk
      · assumption
      · cases hk
theorem fit36 (hc : RC c) (hb : s_ref36_Great c = some false) (hk : chk c = 0) : Fit c := by
  have hi := inputs_of hk
  refine ⟨chk_valid hk, hi.1, ?_⟩
  unfold s_ref36_Great at hb
  obtain ⟨b, h1, h2⟩ := great02 (c := c)
  rw [h1] at hb
  simp only [Option.bind_some] at hb
  cases b with
  | true => simp at hb
  | false =>
    obtain ⟨h60, hf⟩ := h2 rfl
    simp only [Bool.false_eq_true, if_false] at hb
    rw [ref_Check_eq hc hf, hk] at hb
    simp only [Option.bind_some, beq_self_eq_true, if_true] at hb
    rw [Size_eq hi.1 hi.2 hf] at hb
    simp only [Option.bind_some] at hb
    by_cases hs : size c > 40
    · simp [hs] at hb
    · omega
theorem Value_eq {all : List Bool} {l : Int} (h0 : 0 ≤ l) (h1 : l < 4611686018427387904) (hl : (l / 2).toNat < all.length) : s_ref04_Value all l = some (gval all l) := by
  unfold s_ref04_Value gval
  rw [tdiv2 h0, tmod2 h0, wr (by omega) (by omega), idx_b (by omega) hl]
  simp only [Option.bind_some]
  cases all.getD (l / 2).toNat false <;> cases (l % 2 == 1) <;> rfl
theorem Frame_eq (hf : Fit c) {st is : List Bool} (hst : st.length = c.Latches.length) (his : (is.length : Int) = c.Inputs) : s_ref04_Frame c st is = some (allF c st is) := by
  have g1 := hf.i0
  have g2 := hf.size
  obtain ⟨g3, g4, g5⟩ := hf.len
  have hsz : size c = is.length + st.length + c.Ands.length := by unfold size; omega
  unfold s_ref04_Frame
  rw [if_pos (by unfold big; simp; omega), if_pos (by unfold big; simp; omega)]
  have main := Lp_fold (l := c.Ands) gateV (fun i b => b.length = 1 + is.length + st.length + i) (fun b i => (b, i)) (f := b_ref04_Frame_L0 c) (fun b => b) (by omega) (fun i x b hx hP => by
    have hi := lt_len hx
    obtain ⟨a1, a2, a3⟩ := hf.valid.ands i x hx
    refine ⟨?_, by simp [gateV]; omega⟩
    unfold b_ref04_Frame_L0
    simp only [dec_lt hi, if_true]
    rw [idx_nat', hx]
    simp only [Option.bind_some]
    rw [Value_eq (by omega) (by omega) (by omega), Value_eq (by omega) (by omega) (by omega)]
    simp only [Option.bind_some]
    have hb : b.length + 1 ≤ big := by unfold big; omega
    unfold gateV
    cases gval b x.A <;> simp [hb]) (fun b _ => by
    unfold b_ref04_Frame_L0
    simp only [dec_ge]; rfl) ([false] ++ is ++ st) (by simp; omega)
  rw [main.1]
  rfl
theorem After_eq (hf : Fit c) {st is : List Bool} (hst : st.length = c.Latches.length) (his : (is.length : Int) = c.Inputs) : s_ref04_After c st is = some (nextS c (allF c st is)) := by
  have g1 := hf.i0
  have g2 := hf.size
  obtain ⟨g3, g4, g5⟩ := hf.len
  have hsz : size c = is.length + st.length + c.Ands.length := by unfold size; omega
  unfold s_ref04_After
  rw [Frame_eq hf hst his]
  simp only [Option.bind_some]
  rw [Lp_map (l := c.Latches) (fun l => gval (allF c st is) l.Next) (f := b_ref04_After_L0 c (allF c st is)) (fun b => b) (by omega) (fun i x b hx hb => by
    have hi := lt_len hx
    obtain ⟨⟨a1, a2⟩, _⟩ := hf.valid.latches x (List.mem_of_getElem? hx)
    unfold b_ref04_After_L0
    simp only [dec_lt hi, if_true]
    rw [idx_nat', hx]
    simp only [Option.bind_some]
    rw [Value_eq a1 (by omega) (by rw [allF_length]; omega)]
    simp only [Option.bind_some]
    rw [if_pos (by unfold big; omega)]) (fun b => by
    unfold b_ref04_After_L0
    simp only [dec_ge]; rfl)]
  rfl
theorem nextS_length (all : List Bool) : (nextS c all).length = c.Latches.length := by simp [nextS]
def consB (c : S_Circuit) (st is : List Bool) : Bool := c.Constraints.all (gval (allF c st is))
def badB (c : S_Circuit) (st is : List Bool) : Bool := c.Bads.any (gval (allF c st is))
theorem Holds_eq (hk : chk c = 0) (hn : Few c) (hf : Fit c) {st is : List Bool} (hst : st.length = c.Latches.length) (his : (is.length : Int) = c.Inputs) : s_ref04_Holds c st is = some (consB c st is) := by
  have g1 := hf.i0
  have g2 := hf.size
  obtain ⟨f1, f2, f3, f4⟩ := hn
  have hsz : size c = is.length + st.length + c.Ands.length := by unfold size; omega
  unfold s_ref04_Holds consB
  rw [Frame_eq hf hst his]
  simp only [Option.bind_some]
  obtain ⟨r, h1, h2⟩ := Lp_any (l := c.Constraints) (fun x => !gval (allF c st is) x) (f := b_ref04_Holds_L0 c (allF c st is)) (r0 := .inl ()) (fun _ => .inr ()) (by omega) (fun i x hx => by
    obtain ⟨a1, a2⟩ := hf.valid.cons x (List.mem_of_getElem? hx)
    unfold b_ref04_Holds_L0
    rw [if_pos (dec_lt (lt_len hx)), idx_nat', hx]
    simp only [Option.bind_some]
    rw [Value_eq a1 (by omega) (by rw [allF_length]; omega)]
    simp only [Option.bind_some]
    cases gval (allF c st is) x <;> rfl) (by
    unfold b_ref04_Holds_L0
    rw [dec_ge]; rfl)
  rw [h1]
  rcases h2 with ⟨ha, rfl⟩ | ⟨ha, _, rfl⟩
  · have : c.Constraints.all (gval (allF c st is)) = true := by
      rw [List.all_eq_true]
      intro x hx
      have := List.any_eq_false.1 ha x hx
      simpa using this
    rw [this]; rfl
  · have : c.Constraints.all (gval (allF c st is)) = false := by
      obtain ⟨x, hx, hv⟩ := List.any_eq_true.1 ha
      rw [List.all_eq_false]
      exact ⟨x, hx, by simpa using hv⟩
    rw [this]; rfl
theorem Bad_eq (hn : Few c) (hf : Fit c) {st is : List Bool} (hst : st.length = c.Latches.length) (his : (is.length : Int) = c.Inputs) : ∃ r, s_ref04_Bad c st is = some r ∧ (0 ≤ r → badB c st is = true) := by
  have g1 := hf.i0
  have g2 := hf.size
  obtain ⟨f1, f2, f3, f4⟩ := hn
  have hsz : size c = is.length + st.length + c.Ands.length := by unfold size; omega
  unfold s_ref04_Bad badB
  rw [Frame_eq hf hst his]
  simp only [Option.bind_some]
  obtain ⟨r, h1, h2⟩ := Lp_any (l := c.Bads) (fun x => gval (allF c st is) x) (f := b_ref04_Bad_L0 c (allF c st is)) (r0 := .inl ()) (fun i => .inr i) (by omega) (fun i x hx => by
    obtain ⟨a1, a2⟩ := hf.valid.bads x (List.mem_of_getElem? hx)
    unfold b_ref04_Bad_L0
    rw [if_pos (dec_lt (lt_len hx)), idx_nat', hx]
    simp only [Option.bind_some]
    rw [Value_eq a1 (by omega) (by rw [allF_length]; omega)]
    simp only [Option.bind_some]
    cases gval (allF c st is) x <;> rfl) (by
    unfold b_ref04_Bad_L0
    rw [dec_ge]; rfl)
  rw [h1]
  rcases h2 with ⟨ha, rfl⟩ | ⟨ha, i, rfl⟩
  · exact ⟨-1, rfl, fun h => by omega⟩
  · exact ⟨i, rfl, fun _ => ha⟩
theorem Index_eq (l : List Bool) (b : Bool) (hl : l.length < 9223372036854775807) : ∃ r, s_slices_Index_of_bool l b = some r ∧ (0 ≤ r ↔ b ∈ l) := by
  unfold s_slices_Index_of_bool
  obtain ⟨r, p1, p2⟩ := Lp_find (l := l) (fun _ x => (b == x) != false) (f := b_slices_Index_of_bool_L0 l b) (r0 := Sum.inl ()) (fun i => Sum.inr i) hl (fun i x hx => by
    unfold b_slices_Index_of_bool_L0
    rw [if_pos (dec_lt (lt_len hx)), idx_nat', hx]
    simp only [Option.bind_some]
    cases ((b == x) != false) <;> rfl) (by
    unfold b_slices_Index_of_bool_L0
    rw [dec_ge]; rfl)
  rw [p1]
  rcases p2 with ⟨h, rfl⟩ | ⟨i, x, hx, hp, rfl⟩
  · refine ⟨-1, rfl, fun h => by omega, fun hb => ?_⟩
    obtain ⟨i, hi⟩ := List.getElem?_of_mem hb
    have := h i b hi
    simp at this
  · refine ⟨i, rfl, fun _ => ?_, fun _ => by omega⟩
    have : b = x := by cases b <;> cases x <;> simp_all
    rw [this]; exact List.mem_of_getElem? hx
theorem Contains_eq (l : List Bool) (b : Bool) (hl : l.length < 9223372036854775807) : ∃ r, s_slices_Contains_of_bool l b = some r ∧ (r = true ↔ b ∈ l) := by
  unfold s_slices_Contains_of_bool
  obtain ⟨r, h1, h2⟩ := Index_eq l b hl
  rw [h1]
  exact ⟨decide (r ≥ 0), rfl, by rw [← h2]; simp⟩
theorem Props_eq (hr : RC c) (hf : Few c) (hc : chk c = 0) (hfit : Fit c) {st is : List Bool} (hst : st.length = c.Latches.length) (his : (is.length : Int) = c.Inputs) : s_values_Props c st is = some (consB c st is, c.Bads.map (gval (allF c st is)), 0) := by
  have g1 := hfit.i0
  have g2 := hfit.size
  obtain ⟨g3, g4, g5⟩ := hfit.len
  obtain ⟨f1, f2, f3, f4⟩ := hf
  have hf : Few c := ⟨f1, f2, f3, f4⟩
  have hsz : size c = is.length + st.length + c.Ands.length := by unfold size; omega
  have hbig : (4294967296 : Nat) = big := rfl
  unfold s_values_Props
  rw [All_eq hr hf hc hfit hst his]
  simp only [Option.bind_some]
  rw [if_neg (by decide)]
  have A : Lp (b_values_Props_L0 c (allF c st is, 0)) ([], 0) = some (c.Bads.map (gval (allF c st is))) := Lp_map (l := c.Bads) (gval (allF c st is)) (fun b => b) (by omega) (fun i x b hx hP => by
    have hi := lt_len hx
    obtain ⟨a1, a2⟩ := hfit.valid.bads x (List.mem_of_getElem? hx)
    unfold b_values_Props_L0
    simp only [dec_lt hi, if_true]
    rw [idx_nat', hx]
    simp only [Option.bind_some]
    rw [values_of_eq a1 (by omega) (by rw [allF_length]; omega)]
    simp only [Option.bind_some]
    rw [if_pos (by omega)]) (fun b => by unfold b_values_Props_L0; simp only [dec_ge]; rfl)
  have B : Lp (b_values_Props_L1 c (allF c st is, 0)) ([], 0) = some (c.Constraints.map (gval (allF c st is))) := Lp_map (l := c.Constraints) (gval (allF c st is)) (fun b => b) (by omega) (fun i x b hx hP => by
    have hi := lt_len hx
    obtain ⟨a1, a2⟩ := hfit.valid.cons x (List.mem_of_getElem? hx)
    unfold b_values_Props_L1
    simp only [dec_lt hi, if_true]
    rw [idx_nat', hx]
    simp only [Option.bind_some]
    rw [values_of_eq a1 (by omega) (by rw [allF_length]; omega)]
    simp only [Option.bind_some]
    rw [if_pos (by omega)]) (fun b => by unfold b_values_Props_L1; simp only [dec_ge]; rfl)
  obtain ⟨r, hcon, hr2⟩ := Contains_eq (c.Constraints.map (gval (allF c st is))) false (by simp; omega)
  rw [A]
  simp only [Option.bind_some]
  rw [B]
  simp only [Option.bind_some, hcon]
  have : (!r) = consB c st is := by
    unfold consB
    cases r with
    | true =>
      obtain ⟨x, hx, hv⟩ := List.mem_map.1 (hr2.1 rfl)
      have : c.Constraints.all (gval (allF c st is)) = false := by rw [List.all_eq_false]; exact ⟨x, hx, by simp [hv]⟩
      rw [this]; rfl
    | false =>
      have : c.Constraints.all (gval (allF c st is)) = true := by
        rw [List.all_eq_true]
        intro x hx
        cases hv : gval (allF c st is) x with
        | true => rfl
        | false => exact absurd (hr2.2 (List.mem_map.2 ⟨x, hx, hv⟩)) (by simp)
      rw [this]; rfl
  rw [this]
theorem starts_tot (hfit : Fit c) {st : List Bool} (hst : st.length = c.Latches.length) : ∃ b, s_traces_starts c st = some b := by
  obtain ⟨g1, g2, g3⟩ := hfit.len
  unfold s_traces_starts
  obtain ⟨r, h1, h2⟩ := Lp_find (l := c.Latches) (fun i l => if (l.Reset != 2) = true then ((st.getD i false == (l.Reset == 1)) != true) else false) (f := b_traces_starts_L0 c st) (r0 := .inl ()) (fun _ => .inr ()) (by omega) (fun i l hl => by
    have hi := lt_len hl
    have hx : idx st (i : Int) = some (st.getD i false) := by rw [idx_nat', List.getElem?_eq_getElem (by omega), List.getD_eq_getElem?_getD, List.getElem?_eq_getElem (by omega)]; rfl
    unfold b_traces_starts_L0
    rw [if_pos (dec_lt hi), idx_nat', hl]
    simp only [Option.bind_some, hx]
    cases (l.Reset != 2) with
    | false => rfl
    | true => cases ((st.getD i false == (l.Reset == 1)) != true) <;> rfl) (by
    unfold b_traces_starts_L0
    rw [dec_ge]; rfl)
  rw [h1]
  rcases r with r | r
  · exact ⟨true, rfl⟩
  · exact ⟨false, rfl⟩
def stS (c : S_Circuit) (st : List Bool) (iss : List (List Bool)) : Nat → List Bool
  | 0 => st
  | j + 1 => nextS c (allF c (stS c st iss j) (iss.getD j []))
theorem stS_length {st : List Bool} {iss : List (List Bool)} (hst : st.length = c.Latches.length) : ∀ j, (stS c st iss j).length = c.Latches.length
  | 0 => hst
  | j + 1 => nextS_length _
theorem getD_of {iss : List (List Bool)} {j : Nat} {x : List Bool} (h : iss[j]? = some x) : iss.getD j [] = x := by rw [List.getD_eq_getElem?_getD, h]; rfl
theorem All06_eq (hf : Fit c) {st : List Bool} {iss : List (List Bool)} (hst : st.length = c.Latches.length) (hs : ∀ x ∈ iss, (x.length : Int) = c.Inputs) (h0 : 0 < iss.length) (hm : iss.length ≤ 1000) :
    s_ref06_All c (S_Trace.mk st iss) = some ((List.range iss.length).map (stS c st iss)) := by
  obtain ⟨g3, g4, g5⟩ := hf.len
  unfold s_ref06_All
  simp only [List.nil_append, List.length_nil, Nat.zero_add]
  rw [if_pos (by unfold big; omega)]
  have h := Lp_to (f := b_ref06_All_L0 c (S_Trace.mk st iss)) (fun j => ((List.range (j + 1)).map (stS c st iss), (j : Int))) (iss.length - 1) (r := (List.range iss.length).map (stS c st iss)) (fun j hj => by
    have hx : iss[j]? = some iss[j] := List.getElem?_eq_getElem (by omega)
    have hi := hs _ (List.mem_of_getElem? hx)
    unfold b_ref06_All_L0
    simp only
    rw [wr1 (by omega), if_pos (by simp; omega), idx_nat', idx_nat', hx]
    have e : ((List.range (j + 1)).map (stS c st iss))[j]? = some (stS c st iss j) := by rw [List.getElem?_map, List.getElem?_range (by omega)]; rfl
    rw [e]
    simp only [Option.bind_some]
    rw [After_eq hf (stS_length hst j) hi]
    simp only [Option.bind_some]
    rw [if_pos (by simp; unfold big; omega), List.range_succ (n := j + 1), List.map_append]
    have e2 : stS c st iss (j + 1) = nextS c (allF c (stS c st iss j) iss[j]) := by
      show nextS c (allF c (stS c st iss j) (iss.getD j [])) = _
      rw [getD_of hx]
    simp [e2]) (by
    unfold b_ref06_All_L0
    simp only
    rw [wr1 (by omega), if_neg (by simp; omega), show iss.length - 1 + 1 = iss.length by omega])
  have e0 : (List.range (0 + 1)).map (stS c st iss) = [st] := rfl
  simp only [e0] at h
  rw [show (((0 : Nat) : Int)) = 0 from rfl] at h
  rw [h]
  rfl
theorem In_tot {cube : List Int} {st : List Bool} (hst : st.length = c.Latches.length) (hc60 : c.Latches.length ≤ 60) (hl : cube.length ≤ 9223372036854775807) (h : OkC c.Latches.length cube) : ∃ b, s_ref37_In cube st = some b := by
  unfold s_ref37_In
  obtain ⟨r, h1, h2⟩ := Lp_findL (l := cube) (fun i x => (st.getD (x / 2 - 1).toNat false == (Int.tmod x 2 == 0)) != true) (f := b_ref37_In_L0 cube st) (r0 := .inl ()) (fun _ => .inr ()) hl (fun i x hx => by
    obtain ⟨a1, a2, _⟩ := h i x hx
    unfold b_ref37_In_L0
    rw [if_pos (dec_lt (lt_len hx)), idx_nat', hx]
    simp only [Option.bind_some]
    rw [tdiv2 (by omega), wr (n := x / 2) (by omega) (by omega), wr (by omega) (by omega), idx_b (by omega) (by omega)]
    simp only [Option.bind_some]
    cases ((st.getD (x / 2 - 1).toNat false == (Int.tmod x 2 == 0)) != true) <;> rfl) (by
    unfold b_ref37_In_L0
    rw [dec_ge]; rfl)
  rw [h1]
  rcases r with r | r
  · exact ⟨true, rfl⟩
  · exact ⟨false, rfl⟩
end
end Go.Proofs.Ytkhgnkfdpabflab.Vm
