/- What unroll.Trace answers to the values of a run. -/
import Derived.Test.YtbmhmfcjjhjkgaaVmU12
namespace Go.Proofs.Ytbmhmfcjjhjkgaa.Vm
open Go
set_option linter.unusedVariables false
set_option linter.unusedSimpArgs false
theorem gatesV_pre : ∀ (gs : List S_And) (b : List Bool), ∃ t, gs.foldl gateV b = b ++ t
  | [], b => ⟨[], by simp⟩
  | g :: gs, b => by
    obtain ⟨t, h⟩ := gatesV_pre gs (gateV b g)
    rw [List.foldl_cons, h]
    exact ⟨[gval b g.A && gval b g.B] ++ t, by simp [gateV]⟩
section
variable {c : S_Circuit}
theorem allF_in (st is : List Bool) {k : Nat} {b : Bool} (h : is[k]? = some b) : (allF c st is).getD (k + 1) false = b := by
  obtain ⟨t, ht⟩ := gatesV_pre c.Ands ([false] ++ is ++ st)
  have hk := lt_len h
  unfold allF
  rw [ht, List.getD_eq_getElem?_getD, List.getElem?_append_left (by simp; omega), List.getElem?_append_left (by simp; omega), List.getElem?_append_right (by simp)]
  simp [h]
theorem allF_st (st is : List Bool) {k : Nat} {b : Bool} (h : st[k]? = some b) : (allF c st is).getD (1 + is.length + k) false = b := by
  obtain ⟨t, ht⟩ := gatesV_pre c.Ands ([false] ++ is ++ st)
  have hk := lt_len h
  unfold allF
  rw [ht, List.getD_eq_getElem?_getD, List.getElem?_append_left (by simp; omega), List.getElem?_append_right (by simp; omega)]
  have : 1 + is.length + k - ([false] ++ is).length = k := by simp; omega
  rw [this, h]; rfl
theorem Rows2.at {m m2 : List Bool} {rows : List (List Int)} {alls : List (List Bool)} (h : Rows2 m rows alls m2) : (∃ t, m2 = m ++ t) ∧ rows.length = alls.length ∧ ∀ (i : Nat) row all, rows[i]? = some row → alls[i]? = some all → row.length = all.length ∧ ∀ j, j < row.length → tr m2 (row.getD j 0) = all.getD j false ∧ 0 ≤ row.getD j 0 ∧ row.getD j 0 ≤ 2 * (m2.length : Int) + 1 := by
  induction h with
  | nil => exact ⟨⟨[], by simp⟩, rfl, fun i row all h => by simp at h⟩
  | @cons m m1 m2 row all rows alls h1 h2 ih =>
    obtain ⟨⟨t, ht⟩, hl, ih⟩ := ih
    obtain ⟨t1, ht1⟩ := h1.pre
    refine ⟨⟨t1 ++ t, by rw [ht, ht1]; simp⟩, by simp [hl], fun i r a hr ha => ?_⟩
    cases i with
    | zero =>
      cases hr; cases ha
      refine ⟨h1.len, fun j hj => ?_⟩
      obtain ⟨q1, q2, q3⟩ := h1.at hj
      refine ⟨by rw [ht, tr_app q3]; exact q1, q2, by rw [ht, List.length_append]; omega⟩
    | succ i => exact ih i r a (by simpa using hr) (by simpa using ha)
theorem allsF_get : ∀ (iss : List (List Bool)) (st : List Bool) (i : Nat) (is : List Bool), iss[i]? = some is → ∃ s, (allsF c st iss)[i]? = some (allF c s is) ∧ (i = 0 → s = st)
  | [], st, i, is, h => by simp at h
  | js :: iss, st, 0, is, h => by cases h; exact ⟨st, rfl, fun _ => rfl⟩
  | js :: iss, st, i + 1, is, h => by
    obtain ⟨s, h1, h2⟩ := allsF_get iss (nextS c (allF c st js)) i is (by simpa using h)
    exact ⟨s, by simpa [allsF] using h1, fun e => by omega⟩
theorem allsF_length : ∀ (iss : List (List Bool)) (st : List Bool), (allsF c st iss).length = iss.length
  | [], st => rfl
  | js :: iss, st => by simp [allsF, allsF_length iss]
theorem getD_idx {r : List Int} {j : Nat} (h : j < r.length) : idx r (j : Int) = some (r.getD j 0) := by
  rw [idx_nat', List.getD_eq_getElem?_getD, List.getElem?_eq_getElem h]; rfl
theorem trace_eq (hr : RC c) (hf : Few c) (hc : chk c = 0) (hfit : Fit c) {x : S_Cnf} (hx : CnfOk x (1 + (size c).toNat)) {iss : List (List Bool)} {st m : List Bool} (h : Rows2 [] x.Lits (allsF c st iss) m) (hst : st.length = c.Latches.length) (his : ∀ is ∈ iss, (is.length : Int) = c.Inputs) (hV : (m.length : Int) = x.Vars) (h1 : 1 ≤ iss.length) :
    s_unroll_Trace c x m = some (⟨st, iss⟩, 0) := by
  have v1 := hx.v1
  have hrows := hx.rows
  have hbig := big_ge
  have hsz := hfit.size
  have hi0 := hfit.i0
  obtain ⟨g3, g4, g5⟩ := hfit.len
  obtain ⟨_, hl, hat⟩ := h.at
  rw [allsF_length] at hl
  have hs0 : 0 ≤ size c := by unfold size; omega
  have hsze : size c = c.Inputs + c.Latches.length + c.Ands.length := rfl
  have hm : m.length ≤ 4000 := by omega
  have hn : ∀ (i : Nat) row, x.Lits[i]? = some row → (row.length : Int) = 1 + size c := fun i row hi => by
    have := (hx.row row (List.mem_of_getElem? hi)).1
    omega
  have w1 : IntKind.wrap .i64 (1 + c.Inputs) = 1 + c.Inputs := wr (by omega) (by omega)
  have w2 : IntKind.wrap .i64 (1 + c.Inputs + (c.Latches.length : Int)) = 1 + c.Inputs + c.Latches.length := wr (by omega) (by omega)
  obtain ⟨row0, hrow0⟩ : ∃ row0, x.Lits[0]? = some row0 := ⟨x.Lits[0], List.getElem?_eq_getElem (by omega)⟩
  obtain ⟨is0, his0⟩ : ∃ is0, iss[0]? = some is0 := ⟨iss[0], List.getElem?_eq_getElem (by omega)⟩
  have L1 : ∀ (i : Nat) row, x.Lits[i]? = some row → Lp (b_unroll_Trace_L1 c x m (size c, 0) (i : Int) row) 1 = some (.inl ()) := fun i row hi => by
    have hlen := hn i row hi
    have hb := (hx.row row (List.mem_of_getElem? hi)).2.2
    refine Lp_to (fun k => ((k + 1 : Nat) : Int)) (c.Inputs.toNat + c.Latches.length) (fun k hk => ?_) ?_
    · unfold b_unroll_Trace_L1
      have e1 : decide (((k + 1 : Nat) : Int) < 1 + c.Inputs + c.Latches.length) = true := decide_eq_true (by omega)
      have hk2 : k + 1 < row.length := by omega
      have hy : row[k + 1]? = some (row.getD (k + 1) 0) := by rw [List.getD_eq_getElem?_getD, List.getElem?_eq_getElem hk2]; rfl
      have e2 : decide (row.getD (k + 1) 0 < 0) = false := decide_eq_false (by have := hb _ (List.mem_of_getElem? hy); omega)
      simp only [w1, w2, e1, if_true, getD_idx hk2, Option.bind_some, e2, Bool.false_eq_true, if_false]
      rw [wr1 (by omega)]
    · unfold b_unroll_Trace_L1
      have e1 : decide (((c.Inputs.toNat + c.Latches.length + 1 : Nat) : Int) < 1 + c.Inputs + c.Latches.length) = false := decide_eq_false (by omega)
      simp only [w1, w2, e1, Bool.false_eq_true, if_false]
  have L2 : Lp (b_unroll_Trace_L2 c x m) ([], 0) = some st := by
    obtain ⟨s, q1, q2⟩ := allsF_get (c := c) iss st 0 is0 his0
    rw [q2 rfl] at q1
    obtain ⟨a1, a2⟩ := hat 0 row0 _ hrow0 q1
    have hlen := hn 0 row0 hrow0
    have hii := his is0 (List.mem_of_getElem? his0)
    have main := Lp_fold (l := st) (fun b v => b ++ [v]) (fun i b => b.length = i) (fun b i => (b, i)) (f := b_unroll_Trace_L2 c x m) (fun b => b) (by omega) (fun i v b hv hP => by
      have hi := lt_len hv
      refine ⟨?_, by simp [hP]⟩
      unfold b_unroll_Trace_L2
      rw [← hst]
      simp only [dec_lt hi, if_true]
      rw [idx0 hrow0]
      have w3 : IntKind.wrap .i64 (1 + c.Inputs + (i : Int)) = ((1 + is0.length + i : Nat) : Int) := by rw [wr (by omega) (by omega)]; omega
      have hj : 1 + is0.length + i < row0.length := by omega
      obtain ⟨t1, t2, t3⟩ := a2 _ hj
      simp only [Option.bind_some, w1, w3, getD_idx hj, value_eq t3 hm, t1, allF_st st is0 hv]
      rw [if_pos (by omega)]) (fun b hP => by
      unfold b_unroll_Trace_L2
      rw [← hst]
      simp only [dec_ge, Bool.false_eq_true, if_false]) [] rfl
    rw [main.1]
    have := foldl_snoc (fun v : Bool => v) st []
    simpa using this
  have L4 : ∀ (i : Nat) row is s3, x.Lits[i]? = some row → iss[i]? = some is → Lp (b_unroll_Trace_L4 c x m st s3 row) ([], 1) = some is := fun i row is s3 hi hs => by
    obtain ⟨s, q1, _⟩ := allsF_get (c := c) iss st i is hs
    obtain ⟨a1, a2⟩ := hat i row _ hi q1
    have hlen := hn i row hi
    have hii := his is (List.mem_of_getElem? hs)
    have := Lp_to (f := b_unroll_Trace_L4 c x m st s3 row) (fun k => (is.take k, ((k + 1 : Nat) : Int))) is.length (r := is) (fun k hk => by
      unfold b_unroll_Trace_L4
      have e1 : decide (((k + 1 : Nat) : Int) < 1 + c.Inputs) = true := decide_eq_true (by omega)
      have hj : k + 1 < row.length := by omega
      obtain ⟨t1, t2, t3⟩ := a2 _ hj
      have hb : is[k]? = some is[k] := List.getElem?_eq_getElem hk
      simp only [w1, e1, if_true, getD_idx hj, Option.bind_some, value_eq t3 hm, t1, allF_in s is hb]
      rw [if_pos (by rw [List.length_take]; omega), List.take_succ_eq_append_getElem hk, wr1 (by omega)]) (by
      unfold b_unroll_Trace_L4
      have e1 : decide (((is.length + 1 : Nat) : Int) < 1 + c.Inputs) = false := decide_eq_false (by omega)
      simp only [w1, e1, Bool.false_eq_true, if_false, List.take_length])
    exact this
  have L3 : Lp (b_unroll_Trace_L3 c x m st) ([], 0) = some iss := by
    have main := Lp_fold (l := iss) (fun b v => b ++ [v]) (fun i b => b.length = i) (fun b i => (b, i)) (f := b_unroll_Trace_L3 c x m st) (fun b => b) (by omega) (fun i v b hv hP => by
      have hi := lt_len hv
      refine ⟨?_, by simp [hP]⟩
      obtain ⟨row, hrow⟩ : ∃ row, x.Lits[i]? = some row := ⟨x.Lits[i]'(by omega), List.getElem?_eq_getElem (by omega)⟩
      unfold b_unroll_Trace_L3
      rw [hl]
      simp only [dec_lt hi, if_true]
      rw [idx_nat', hrow]
      simp only [Option.bind_some, L4 i row v _ hrow hv]
      rw [if_pos (by omega)]) (fun b hP => by
      unfold b_unroll_Trace_L3
      rw [hl]
      simp only [dec_ge, Bool.false_eq_true, if_false]) [] rfl
    rw [main.1]
    have := foldl_snoc (fun v : List Bool => v) iss []
    simpa using this
  unfold s_unroll_Trace
  have e0 : ((x.Lits.length : Int) == 0) = false := by simp; intro h; rw [h] at hl; simp at hl; omega
  have e1 : ((m.length : Int) != x.Vars) = false := by simp [hV]
  rw [Vars_eq hr hf hc hfit]
  simp only [Option.bind_some, bne_self_eq_false, Bool.false_eq_true, if_false, tseitin_ok hx, e0]
  rw [Lp_all (l := x.Lits) (f := b_unroll_Trace_L0 c x m (size c, 0)) (r0 := .inl ()) (by omega) (fun i row hi => by
    have hi2 := lt_len hi
    have hlen := hn i row hi
    unfold b_unroll_Trace_L0
    simp only [dec_lt hi2, if_true]
    rw [idx_nat', hi]
    have w3 : IntKind.wrap .i64 (size c + 1) = (row.length : Int) := by rw [wr (by omega) (by omega)]; omega
    simp only [Option.bind_some, w3, bne_self_eq_false, Bool.false_eq_true, if_false, L1 i row hi]) (by unfold b_unroll_Trace_L0; simp only [dec_ge]; rfl)]
  simp only [Option.bind_some, e1, Bool.false_eq_true, if_false, L2, L3]
end
theorem Same04_self (l : List Bool) (hl : l.length < 9223372036854775807) : s_ref04_Same l l = some true := by
  unfold s_ref04_Same
  simp only [bne_self_eq_false, Bool.false_eq_true, if_false]
  rw [Lp_all (l := l) (f := b_ref04_Same_L0 l l) (r0 := .inl ()) hl (fun i x hx => by
    have hi := lt_len hx
    unfold b_ref04_Same_L0
    simp only [dec_lt hi, if_true]
    rw [idx_nat', hx]
    have : ((x == x) != true) = false := by cases x <;> rfl
    simp only [Option.bind_some, this, Bool.false_eq_true, if_false]) (by unfold b_ref04_Same_L0; simp only [dec_ge]; rfl)]
  rfl
theorem Same06_self (t : S_Trace) (h1 : t.First.length < 1000000) (h2 : t.Inputs.length < 1000000) (h3 : ∀ is ∈ t.Inputs, is.length < 1000000) : s_ref06_Same t t = some true := by
  unfold s_ref06_Same s_ref06_SameAll
  rw [Same04_self _ (by omega)]
  simp only [Option.bind_some, if_true, bne_self_eq_false, Bool.false_eq_true, if_false]
  rw [Lp_all (l := t.Inputs) (f := b_ref06_SameAll_L0 t.Inputs t.Inputs) (r0 := .inl ()) (by omega) (fun i x hx => by
    have hi := lt_len hx
    unfold b_ref06_SameAll_L0
    simp only [dec_lt hi, if_true]
    rw [idx_nat', hx]
    have := h3 x (List.mem_of_getElem? hx)
    simp only [Option.bind_some, Same04_self x (by omega), if_true]) (by unfold b_ref06_SameAll_L0; simp only [dec_ge]; rfl)]
  rfl
end Go.Proofs.Ytbmhmfcjjhjkgaa.Vm
