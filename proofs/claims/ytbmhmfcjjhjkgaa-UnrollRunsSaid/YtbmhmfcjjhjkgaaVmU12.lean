/- The values by names: what law23.named answers. -/
import Derived.Test.YtbmhmfcjjhjkgaaVmU11
namespace Go.Proofs.Ytbmhmfcjjhjkgaa.Vm
open Go
set_option linter.unusedVariables false
set_option linter.unusedSimpArgs false
def rep (V : Nat) (m : List Bool) : List Bool := m ++ List.replicate (V - m.length) false
def kn (V : Nat) (m : List Bool) : List Bool := List.replicate m.length true ++ List.replicate (V - m.length) false
theorem rep_len {V : Nat} {m : List Bool} (h : m.length ≤ V) : (rep V m).length = V := by unfold rep; simp; omega
theorem kn_len {V : Nat} {m : List Bool} (h : m.length ≤ V) : (kn V m).length = V := by unfold kn; simp; omega
theorem kn_old {V : Nat} {m : List Bool} {j : Nat} (h : j < m.length) : (kn V m).getD j false = true := by
  unfold kn
  rw [List.getD_eq_getElem?_getD, List.getElem?_append_left (by simpa using h)]
  simp [h]
theorem kn_new {V : Nat} {m : List Bool} : (kn V m).getD m.length false = false := by
  unfold kn
  rw [List.getD_eq_getElem?_getD, List.getElem?_append_right (by simp)]
  rw [List.length_replicate, Nat.sub_self]
  cases V - m.length <;> rfl
theorem kn_set {V : Nat} {m : List Bool} {b : Bool} (h : m.length < V) : (kn V m).set m.length true = kn V (m ++ [b]) := by
  unfold kn
  have e : V - m.length = (V - (m.length + 1)) + 1 := by omega
  rw [e, List.replicate_succ, List.set_append_right _ _ (by simp)]
  simp [List.replicate_succ']
theorem rep_set {V : Nat} {m : List Bool} {b : Bool} (h : m.length < V) : (rep V m).set m.length b = rep V (m ++ [b]) := by
  unfold rep
  have e : V - m.length = (V - (m.length + 1)) + 1 := by omega
  rw [e, List.replicate_succ, List.set_append_right _ _ (Nat.le_refl _)]
  simp
theorem fold_at {ps : List (Int × Bool)} {m : List Bool} {j : Nat} {p : Int × Bool} (hp : ps[j]? = some p) : ∃ t, ps.foldl gm m = gm ((ps.take j).foldl gm m) p ++ t := by
  have hj := lt_len hp
  have e : ps.foldl gm m = (ps.drop (j + 1)).foldl gm (gm ((ps.take j).foldl gm m) p) := by
    have : ps = ps.take j ++ (p :: ps.drop (j + 1)) := by
      have hx : ps[j] = p := by rw [List.getElem?_eq_getElem hj] at hp; exact Option.some.inj hp
      rw [← hx, ← List.drop_eq_getElem_cons hj, List.take_append_drop]
    conv => lhs; rw [this]
    rw [List.foldl_append, List.foldl_cons]
  obtain ⟨t, ht⟩ := gm_pre (ps.drop (j + 1)) (gm ((ps.take j).foldl gm m) p)
  exact ⟨t, by rw [e, ht]⟩
section
variable {c : S_Circuit} {x : S_Cnf} {p2 p3 : List (List Bool)}
theorem named_L1 {s0 : (List Bool) × (List Bool) × Int} {i : Nat} {row : List Int} {all m m1 : List Bool} {e : Int} {V : Nat} (hs0 : s0.2.2 = (i : Int)) (hr : x.Lits[i]? = some row) (h : Row2 m row all m1) (hV : m1.length ≤ V) (hV4 : V ≤ 4000) (hlen : row.length ≤ 1000) :
    Lp (b_law23_named_L1 c x p2 p3 s0 (all, e)) (rep V m, kn V m, 0) = some (.inl (rep V m1, kn V m1)) := by
  obtain ⟨ps, h1, h2, h3, h4⟩ := h.ex
  have hpl : ps.length ≤ 1000 := by rw [← h1] at hlen; simpa using hlen
  have main := Lp_fold (l := ps) gm (fun j b => b = (ps.take j).foldl gm m) (fun b j => (rep V b, kn V b, j)) (f := b_law23_named_L1 c x p2 p3 s0 (all, e)) (fun b => .inl (rep V b, kn V b)) (by omega) (fun j p b hp hP => by
    have hj := lt_len hp
    have ok := h3 j p hp
    obtain ⟨t, ht⟩ := fold_at (m := m) hp
    rw [← hP] at ok ht
    rw [h4] at ht
    have hb1 : (gm b p).length ≤ V := by have := congrArg List.length ht; simp at this; omega
    obtain ⟨k1, k2, k3⟩ := okp_step ok
    refine ⟨?_, by
      rw [List.take_succ_eq_append_getElem hj, List.foldl_append, ← hP]
      have hx : ps[j] = p := by rw [List.getElem?_eq_getElem hj] at hp; exact Option.some.inj hp
      rw [hx]; rfl⟩
    have hrow : idx row (j : Int) = some p.1 := by rw [idx_nat', ← h1, List.getElem?_map, hp]; rfl
    have hall : idx all (j : Int) = some p.2 := by rw [idx_nat', ← h2, List.getElem?_map, hp]; rfl
    have hal : (all.length : Int) = (ps.length : Int) := by rw [← h2]; simp
    have ht22 : s_ref22_True p.1 (rep V (gm b p)) = some p.2 := by
      rw [True22_eq (by rw [rep_len hb1]; omega) (by rw [rep_len hb1]; omega)]
      unfold rep
      rw [tr_app k3, k1]
    have hneg : decide (p.1 < 0) = false := decide_eq_false (by omega)
    have hbne : ((p.2 == p.2) != true) = false := by cases p.2 <;> rfl
    unfold b_law23_named_L1
    simp only [hal, dec_lt hj, if_true, hs0]
    rw [idx_nat', hr]
    simp only [Option.bind_some, hrow, hall]
    rcases ok with hf | ⟨o1, o2, o3⟩
    · have hg : gm b p = b ++ [p.2] := by unfold gm; rw [if_pos hf]
      have hbl : b.length < V := by rw [hg] at hb1; simp at hb1; omega
      have hq : (p.1 / 2 - 1).toNat = b.length := by omega
      have hw : IntKind.wrap .i64 ((IntKind.wrap .i64 (Int.tdiv p.1 2)) - 1) = (b.length : Int) := by
        rw [quo2 (by omega) (by omega), wr (by omega) (by omega)]; omega
      have g2 : decide (p.1 ≥ 2) = true := decide_eq_true (by omega)
      have i1 : idx (kn V b) (b.length : Int) = some false := by
        rw [idx_b (by omega) (by rw [kn_len (by omega)]; omega), Int.toNat_natCast, kn_new]
      obtain ⟨z, i2⟩ : ∃ z, idx (rep V b) (b.length : Int) = some z := ⟨_, idx_b (by omega) (by rw [rep_len (by omega)]; omega)⟩
      have hev : ((p.2 == (Int.tmod p.1 2 == 0)) != false) = p.2 := by
        rw [tmod2 (by omega)]
        have : (p.1 % 2 == 0) = true := by simp; omega
        rw [this]
        cases p.2 <;> rfl
      rw [hg] at ht22
      simp only [g2, if_true, hw, i1, i2, Option.bind_some, Bool.not_false, Int.toNat_natCast, hev, rep_set hbl, kn_set (b := p.2) hbl, hneg, Bool.false_eq_true, if_false, ht22, hbne, hg]
    · have hg : gm b p = b := by unfold gm; rw [if_neg (by omega)]
      rw [hg] at hb1 ht22
      have hx7 : (if decide (p.1 ≥ 2) = true then (idx (kn V b) (IntKind.wrap .i64 ((IntKind.wrap .i64 (Int.tdiv p.1 2)) - 1))).bind fun x8 => some (!x8) else some false) = some false := by
        by_cases h2' : 2 ≤ p.1
        · rw [if_pos (by simpa using h2'), idx_lit h2' (by rw [kn_len (by omega)]; omega) (by rw [kn_len (by omega)]; omega), kn_old (by omega)]
          rfl
        · rw [if_neg (by simpa using h2')]
      simp only [hx7, Option.bind_some, Bool.false_eq_true, if_false, hneg, ht22, hbne, hg]) (fun b hP => by
    unfold b_law23_named_L1
    have hal : (all.length : Int) = (ps.length : Int) := by rw [← h2]; simp
    simp only [hal, dec_ge, Bool.false_eq_true, if_false]) m rfl
  rw [main.1, h4]
theorem drop_cons {α : Type} {l t : List α} {i : Nat} {a : α} (h : l.drop i = a :: t) : l[i]? = some a ∧ l.drop (i + 1) = t := by
  have hi : i < l.length := by
    by_cases hi : i < l.length
    · exact hi
    · rw [List.drop_of_length_le (by omega)] at h; cases h
  rw [List.drop_eq_getElem_cons hi] at h
  cases h
  exact ⟨List.getElem?_eq_getElem hi, rfl⟩
theorem Rows2.mono {m m2 : List Bool} {rows : List (List Int)} {alls : List (List Bool)} (h : Rows2 m rows alls m2) : m.length ≤ m2.length := by
  induction h with
  | nil => exact Nat.le_refl _
  | cons h1 h2 ih => obtain ⟨t, ht⟩ := h1.pre; rw [ht] at ih; simp at ih; omega
theorem named_L0 (hr : RC c) (hf : Few c) (hc : chk c = 0) (hfit : Fit c) {V : Nat} (hV4 : V ≤ 4000) (hl : x.Lits.length ≤ 100) : ∀ (iss : List (List Bool)) (st : List Bool) (i : Nat) (m m2 : List Bool) (rows : List (List Int)), Rows2 m rows (allsF c st iss) m2 →
    x.Lits.drop i = rows → p2.drop i = statesF c st iss → p3.drop i = iss → st.length = c.Latches.length → (∀ is ∈ iss, (is.length : Int) = c.Inputs) → m2.length ≤ V → i + iss.length = x.Lits.length →
    Lp (b_law23_named_L0 c x p2 p3) (rep V m, kn V m, (i : Int)) = some (.inl (rep V m2))
  | [], st, i, m, m2, rows, h, d1, d2, d3, hst, his, hV, hil => by
    cases h
    refine Lp_out ?_
    unfold b_law23_named_L0
    have hil : i = x.Lits.length := by simpa using hil
    rw [hil]
    simp only [dec_ge, Bool.false_eq_true, if_false]
  | is :: iss, st, i, m, m2, rows, h, d1, d2, d3, hst, his, hV, hil => by
    cases h with
    | @cons _ m1 _ row all rows' alls' h1 h2 =>
      obtain ⟨a1, b1⟩ := drop_cons d1
      obtain ⟨a2, b2⟩ := drop_cons (a := st) d2
      obtain ⟨a3, b3⟩ := drop_cons d3
      have hi := lt_len a1
      have hm1 := h2.mono
      have hal := allF_length (c := c) st is
      obtain ⟨g3, g4, g5⟩ := hfit.len
      have hii := his is (by simp)
      have hi0 := hfit.i0
      have hrl := h1.len
      rw [Lp_step (s' := (rep V m1, kn V m1, ((i + 1 : Nat) : Int))) ?_]
      · exact named_L0 hr hf hc hfit hV4 hl iss _ (i + 1) m1 m2 rows' h2 b1 b2 b3 (by simp [nextS]) (fun j hj => his j (by simp [hj])) hV (by simp at hil; omega)
      · unfold b_law23_named_L0
        simp only [dec_lt hi, if_true]
        rw [idx_nat', a2]
        simp only [Option.bind_some]
        rw [idx_nat', a3]
        simp only [Option.bind_some, All_eq hr hf hc hfit hst hii, bne_self_eq_false, Bool.false_eq_true, if_false]
        rw [idx_nat', a1]
        have hne : (((allF c st is).length : Int) != (row.length : Int)) = false := by rw [hrl]; simp
        simp only [Option.bind_some, hne, Bool.false_eq_true, if_false, named_L1 (c := c) (x := x) (p2 := p2) (p3 := p3) (s0 := (rep V m, kn V m, (i : Int))) (i := i) (e := 0) rfl a1 h1 (by omega) hV4 (by omega)]
        rw [wr1 (by omega)]
theorem named_eq (hr : RC c) (hf : Few c) (hc : chk c = 0) (hfit : Fit c) {n : Nat} (hx : CnfOk x n) {iss : List (List Bool)} {st m2 : List Bool} (h : Rows2 [] x.Lits (allsF c st iss) m2) (hst : st.length = c.Latches.length) (his : ∀ is ∈ iss, (is.length : Int) = c.Inputs) (hV : (m2.length : Int) = x.Vars) (hil : iss.length = x.Lits.length) :
    s_law23_named c x (statesF c st iss) iss = some (m2, true) := by
  have v1 := hx.v1
  have hbig := big_ge
  unfold s_law23_named
  have hmk : mkn x.Vars = some m2.length := by unfold mkn; rw [if_pos ⟨by omega, by omega⟩, ← hV, Int.toNat_natCast]
  have e1 : rep m2.length [] = List.replicate m2.length false := by simp [rep]
  have e2 : kn m2.length [] = List.replicate m2.length false := by simp [kn]
  have e3 : rep m2.length m2 = m2 := by simp [rep]
  have := named_L0 (p2 := statesF c st iss) (p3 := iss) hr hf hc hfit (V := m2.length) (by omega) hx.rows iss st 0 [] m2 x.Lits h rfl rfl rfl hst his (Nat.le_refl _) (by omega)
  rw [e1, e2, e3] at this
  rw [hmk]
  simp only [Option.bind_some]
  rw [show ((0 : Nat) : Int) = 0 from rfl] at this
  rw [this]
  rfl
end
end Go.Proofs.Ytbmhmfcjjhjkgaa.Vm
