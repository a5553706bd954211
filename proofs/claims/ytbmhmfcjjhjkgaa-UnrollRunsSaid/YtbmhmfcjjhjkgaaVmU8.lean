/- Models of frames: what the values of a run say of the clauses. -/
import Derived.Test.YtbmhmfcjjhjkgaaVmU6
namespace Go.Proofs.Ytbmhmfcjjhjkgaa.Vm
open Go
set_option linter.unusedVariables false
set_option linter.unusedSimpArgs false
def tr (m : List Bool) (x : Int) : Bool := if x < 2 then x == 1 else (m.getD (x / 2 - 1).toNat false == (x % 2 == 0))
theorem tr_app {m t : List Bool} {x : Int} (h1 : x ≤ 2 * (m.length : Int) + 1) : tr (m ++ t) x = tr m x := by
  unfold tr
  by_cases h : x < 2
  · rw [if_pos h, if_pos h]
  · rw [if_neg h, if_neg h, List.getD_eq_getElem?_getD, List.getD_eq_getElem?_getD, List.getElem?_append_left (by omega)]
theorem tr_new {m : List Bool} {b : Bool} : tr (m ++ [b]) (2 * ((m.length : Int) + 1)) = b := by
  unfold tr
  rw [if_neg (by omega)]
  have e : (2 * ((m.length : Int) + 1) / 2 - 1).toNat = m.length := by omega
  have e2 : (2 * ((m.length : Int) + 1)) % 2 = 0 := by omega
  rw [e, e2]
  simp
theorem tr_not {m : List Bool} {x : Int} (h : 0 ≤ x) : tr m (notI x) = !tr m x := by
  unfold tr notI
  by_cases h2 : x < 2
  · rcases (show x = 0 ∨ x = 1 by omega) with rfl | rfl <;> rfl
  · by_cases hx : x % 2 = 0
    · rw [if_pos hx, if_neg (by omega), if_neg h2]
      have e : (x + 1) / 2 = x / 2 := by omega
      have e2 : (x + 1) % 2 = 1 := by omega
      rw [e, e2, hx]
      cases m.getD (x / 2 - 1).toNat false <;> rfl
    · rw [if_neg hx, if_neg (by omega), if_neg h2]
      have e : (x - 1) / 2 = x / 2 := by omega
      have e2 : (x - 1) % 2 = 0 := by omega
      have e3 : x % 2 = 1 := by omega
      rw [e, e2, e3]
      cases m.getD (x / 2 - 1).toNat false <;> rfl
def gm (m : List Bool) (p : Int × Bool) : List Bool := if p.1 = 2 * ((m.length : Int) + 1) then m ++ [p.2] else m
def okp (m : List Bool) (p : Int × Bool) : Prop := p.1 = 2 * ((m.length : Int) + 1) ∨ (0 ≤ p.1 ∧ p.1 ≤ 2 * (m.length : Int) + 1 ∧ tr m p.1 = p.2)
def FitP (m : List Bool) (ps : List (Int × Bool)) : Prop := ∀ j p, ps[j]? = some p → okp ((ps.take j).foldl gm m) p
theorem gm_pre : ∀ (ps : List (Int × Bool)) (m : List Bool), ∃ t, ps.foldl gm m = m ++ t
  | [], m => ⟨[], by simp⟩
  | p :: ps, m => by
    obtain ⟨t, h⟩ := gm_pre ps (gm m p)
    rw [List.foldl_cons, h]
    unfold gm
    split
    · exact ⟨[p.2] ++ t, by simp⟩
    · exact ⟨t, rfl⟩
theorem FitP.nil {m : List Bool} : FitP m [] := fun j p h => by simp at h
theorem FitP.snoc {m : List Bool} {ps : List (Int × Bool)} {p : Int × Bool} (h : FitP m ps) (hp : okp (ps.foldl gm m) p) : FitP m (ps ++ [p]) := by
  intro j q hq
  by_cases hj : j < ps.length
  · rw [List.getElem?_append_left hj] at hq
    rw [List.take_append_of_le_length (by omega)]
    exact h j q hq
  · have : j = ps.length := by
      have := lt_len hq
      simp at this; omega
    subst this
    have e : q = p := by simpa using hq.symm
    rw [e, List.take_left]
    exact hp
theorem okp_step {m : List Bool} {p : Int × Bool} (h : okp m p) : tr (gm m p) p.1 = p.2 ∧ 0 ≤ p.1 ∧ p.1 ≤ 2 * ((gm m p).length : Int) + 1 := by
  unfold gm
  rcases h with h | ⟨h0, h1, h2⟩
  · rw [if_pos h, h]
    exact ⟨tr_new, by omega, by simp; omega⟩
  · rw [if_neg (by omega)]
    exact ⟨h2, h0, h1⟩
theorem FitP.tr {m : List Bool} {ps : List (Int × Bool)} (h : FitP m ps) {j : Nat} {p : Int × Bool} (hp : ps[j]? = some p) : tr (ps.foldl gm m) p.1 = p.2 ∧ 0 ≤ p.1 ∧ p.1 ≤ 2 * ((ps.foldl gm m).length : Int) + 1 := by
  obtain ⟨h1, h2, h3⟩ := okp_step (h j p hp)
  have hj := lt_len hp
  have e : ps.foldl gm m = (ps.drop (j + 1)).foldl gm (gm ((ps.take j).foldl gm m) p) := by
    have : ps = ps.take j ++ (p :: ps.drop (j + 1)) := by
      have hx : ps[j] = p := by rw [List.getElem?_eq_getElem hj] at hp; exact Option.some.inj hp
      rw [← hx, ← List.drop_eq_getElem_cons hj, List.take_append_drop]
    conv => lhs; rw [this]
    rw [List.foldl_append, List.foldl_cons]
  obtain ⟨t, ht⟩ := gm_pre (ps.drop (j + 1)) (gm ((ps.take j).foldl gm m) p)
  rw [e, ht]
  refine ⟨by rw [tr_app h3]; exact h1, h2, ?_⟩
  rw [List.length_append]; omega
def sat (m : List Bool) (cls : List (List Int)) : Prop := ∀ r ∈ cls, ∃ x ∈ r, 2 ≤ x ∧ x ≤ 2 * (m.length : Int) + 1 ∧ tr m x = true
theorem sat_app {m t : List Bool} {cls : List (List Int)} (h : sat m cls) : sat (m ++ t) cls := fun r hr => by
  obtain ⟨x, hx, h1, h2, h3⟩ := h r hr
  exact ⟨x, hx, h1, by rw [List.length_append]; omega, by rw [tr_app h2]; exact h3⟩
theorem addF_sat {m : List Bool} {cls : List (List Int)} {l : List Int} (h : sat m cls) (hl : ∀ x ∈ l, 0 ≤ x ∧ x ≤ 2 * (m.length : Int) + 1) (ht : ∃ x ∈ l, tr m x = true) : sat m (addF cls l) := by
  unfold addF
  split
  · exact h
  · rename_i h1
    split
    · exact h
    · intro r hr
      rcases List.mem_append.1 hr with hr | hr
      · exact h r hr
      · rw [List.mem_singleton.1 hr]
        obtain ⟨x, hx, hv⟩ := ht
        have n0 : x ≠ 0 := fun e => by rw [e] at hv; cases hv
        have n1 : x ≠ 1 := fun e => h1 (e ▸ hx)
        have := hl x hx
        exact ⟨x, (norm_mem _ _).2 (List.mem_filter.2 ⟨hx, by simpa using n0⟩), by omega, this.2, hv⟩
def gval (all : List Bool) (l : Int) : Bool := (all.getD (l / 2).toNat false != (l % 2 == 1))
def gateV (all : List Bool) (g : S_And) : List Bool := all ++ [gval all g.A && gval all g.B]
def allF (c : S_Circuit) (st is : List Bool) : List Bool := c.Ands.foldl gateV ([false] ++ is ++ st)
def nextS (c : S_Circuit) (all : List Bool) : List Bool := c.Latches.map fun l => gval all l.Next
structure Row2 (m : List Bool) (row : List Int) (all : List Bool) (m' : List Bool) : Prop where
  ex : ∃ ps : List (Int × Bool), ps.map (·.1) = row ∧ ps.map (·.2) = all ∧ FitP m ps ∧ ps.foldl gm m = m'
theorem Row2.nil {m : List Bool} : Row2 m [] [] m := ⟨[], rfl, rfl, FitP.nil, rfl⟩
theorem Row2.fresh {m : List Bool} {row : List Int} {all m' : List Bool} (h : Row2 m row all m') (b : Bool) : Row2 m (row ++ [2 * ((m'.length : Int) + 1)]) (all ++ [b]) (m' ++ [b]) := by
  obtain ⟨ps, h1, h2, h3, h4⟩ := h.ex
  refine ⟨ps ++ [(2 * ((m'.length : Int) + 1), b)], by simp [h1], by simp [h2], h3.snoc (.inl (by rw [h4])), ?_⟩
  rw [List.foldl_append, h4]
  simp [gm]
theorem Row2.old {m : List Bool} {row : List Int} {all m' : List Bool} (h : Row2 m row all m') {x : Int} {b : Bool} (h0 : 0 ≤ x) (hx : x ≤ 2 * (m'.length : Int) + 1) (hb : Vm.tr m' x = b) : Row2 m (row ++ [x]) (all ++ [b]) m' := by
  obtain ⟨ps, h1, h2, h3, h4⟩ := h.ex
  refine ⟨ps ++ [(x, b)], by simp [h1], by simp [h2], h3.snoc (.inr (by rw [h4]; exact ⟨h0, hx, hb⟩)), ?_⟩
  rw [List.foldl_append, h4]
  have : ¬ x = 2 * ((m'.length : Int) + 1) := by omega
  simp [gm, this]
theorem Row2.len {m : List Bool} {row : List Int} {all m' : List Bool} (h : Row2 m row all m') : row.length = all.length := by
  obtain ⟨ps, h1, h2, h3, h4⟩ := h.ex
  rw [← h1, ← h2]; simp
theorem Row2.pre {m : List Bool} {row : List Int} {all m' : List Bool} (h : Row2 m row all m') : ∃ t, m' = m ++ t := by
  obtain ⟨ps, h1, h2, h3, h4⟩ := h.ex
  obtain ⟨t, ht⟩ := gm_pre ps m
  exact ⟨t, by rw [← h4, ht]⟩
theorem Row2.at {m : List Bool} {row : List Int} {all m' : List Bool} (h : Row2 m row all m') {j : Nat} (hj : j < row.length) : Vm.tr m' (row.getD j 0) = all.getD j false ∧ 0 ≤ row.getD j 0 ∧ row.getD j 0 ≤ 2 * (m'.length : Int) + 1 := by
  obtain ⟨ps, h1, h2, h3, h4⟩ := h.ex
  have hj2 : j < ps.length := by rw [← h1] at hj; simpa using hj
  have hp : ps[j]? = some ps[j] := List.getElem?_eq_getElem hj2
  have := h3.tr hp
  rw [h4] at this
  have e1 : row.getD j 0 = ps[j].1 := by subst h1; rw [List.getD_eq_getElem?_getD, List.getElem?_map, hp]; rfl
  have e2 : all.getD j false = ps[j].2 := by subst h2; rw [List.getD_eq_getElem?_getD, List.getElem?_map, hp]; rfl
  rw [e1, e2]; exact this
theorem Row2.lit {m : List Bool} {row : List Int} {all m' : List Bool} (h : Row2 m row all m') {l : Int} (h0 : 0 ≤ l) (hl : (l / 2).toNat < row.length) : Vm.tr m' (litx row l) = gval all l ∧ 0 ≤ litx row l ∧ litx row l ≤ 2 * (m'.length : Int) + 1 := by
  obtain ⟨h1, h2, h3⟩ := h.at hl
  unfold litx gval
  split
  · rename_i e
    refine ⟨?_, (notI_le h2 h3).1, (notI_le h2 h3).2⟩
    rw [tr_not h2, h1, e]
    cases all.getD (l / 2).toNat false <;> rfl
  · rename_i e
    refine ⟨?_, h2, h3⟩
    have e : l % 2 = 0 := by omega
    rw [h1, e]
    cases all.getD (l / 2).toNat false <;> rfl
theorem insF_row : ∀ (is : List Bool) {m m' : List Bool} {row : List Int} {all : List Bool}, Row2 m row all m' →
    Row2 m (insF is.length ((m'.length : Int), row)).2 (all ++ is) (m' ++ is) ∧ (insF is.length ((m'.length : Int), row)).1 = ((m' ++ is).length : Int)
  | [], m, m', row, all, h => by simpa [insF] using h
  | b :: is, m, m', row, all, h => by
    have := insF_row is (h.fresh b)
    have e : insF (b :: is).length ((m'.length : Int), row) = insF is.length (((m' ++ [b]).length : Int), row ++ [2 * ((m'.length : Int) + 1)]) := by
      simp [insF, List.replicate_succ, freshF]
    rw [e]
    simpa using this
def LsOk (m : List Bool) (ls : List Int) (st : List Bool) : Prop := ls.length = st.length ∧ ∀ k, k < ls.length → ls.getD k 0 < 0 ∨ (ls.getD k 0 ≤ 2 * (m.length : Int) + 1 ∧ tr m (ls.getD k 0) = st.getD k false)
theorem latS_row : ∀ (ls : List Int) (st : List Bool) {m m0 m' : List Bool} {row : List Int} {all : List Bool}, LsOk m0 ls st → (∃ t, m' = m0 ++ t) → Row2 m row all m' →
    ∃ m2, Row2 m (ls.foldl latS ((m'.length : Int), row)).2 (all ++ st) m2 ∧ (ls.foldl latS ((m'.length : Int), row)).1 = (m2.length : Int) ∧ ∃ t, m2 = m' ++ t
  | [], [], m, m0, m', row, all, _, _, h => ⟨m', by simpa using h, rfl, [], by simp⟩
  | [], b :: st, m, m0, m', row, all, hl, _, h => by have := hl.1; simp at this
  | x :: ls, [], m, m0, m', row, all, hl, _, h => by have := hl.1; simp at this
  | x :: ls, b :: st, m, m0, m', row, all, hl, ⟨t, ht⟩, h => by
    have hl' : LsOk m0 ls st := ⟨by have := hl.1; simpa using this, fun k hk => by have := hl.2 (k + 1) (by simpa using hk); simpa using this⟩
    have hx := hl.2 0 (by simp)
    simp only [List.getD_cons_zero] at hx
    rw [List.foldl_cons]
    by_cases h0 : x < 0
    · have e : latS ((m'.length : Int), row) x = (((m' ++ [b]).length : Int), row ++ [2 * ((m'.length : Int) + 1)]) := by simp [latS, h0, freshF]
      rw [e]
      obtain ⟨m2, r1, r2, t2, r3⟩ := latS_row ls st (m0 := m0) hl' ⟨t ++ [b], by rw [ht]; simp⟩ (h.fresh b)
      exact ⟨m2, by simpa using r1, r2, [b] ++ t2, by rw [r3]; simp⟩
    · have e : latS ((m'.length : Int), row) x = ((m'.length : Int), row ++ [x]) := by simp [latS, h0]
      rw [e]
      rcases hx with hx | ⟨hx1, hx2⟩
      · exact absurd hx h0
      · have hlen : (m0.length : Int) ≤ m'.length := by rw [ht, List.length_append]; omega
        have hv : tr m' x = b := by rw [ht, tr_app hx1]; exact hx2
        obtain ⟨m2, r1, r2, t2, r3⟩ := latS_row ls st (m0 := m0) hl' ⟨t, ht⟩ (h.old (by omega) (by omega) hv)
        exact ⟨m2, by simpa using r1, r2, t2, r3⟩
def Before : Nat → List S_And → Prop
  | _, [] => True
  | k, g :: gs => (0 ≤ g.A ∧ (g.A / 2).toNat < k ∧ 0 ≤ g.B ∧ (g.B / 2).toNat < k) ∧ Before (k + 1) gs
theorem gates_row : ∀ (gs : List S_And) {m m' : List Bool} {row : List Int} {all : List Bool} {cls : List (List Int)}, Before row.length gs → Row2 m row all m' → sat m' cls →
    ∃ m2, Row2 m (gs.foldl gstep ((m'.length : Int), cls, row)).2.2 (gs.foldl gateV all) m2 ∧ (gs.foldl gstep ((m'.length : Int), cls, row)).1 = (m2.length : Int) ∧ sat m2 (gs.foldl gstep ((m'.length : Int), cls, row)).2.1 ∧ ∃ t, m2 = m' ++ t
  | [], m, m', row, all, cls, _, h, hs => ⟨m', h, rfl, hs, [], by simp⟩
  | g :: gs, m, m', row, all, cls, ⟨⟨a0, a1, b0, b1⟩, hb⟩, h, hs => by
    obtain ⟨la, la0, la1⟩ := h.lit a0 a1
    obtain ⟨lb, lb0, lb1⟩ := h.lit b0 b1
    have hr := h.fresh (gval all g.A && gval all g.B)
    have hlen : ((m' ++ [gval all g.A && gval all g.B]).length : Int) = (m'.length : Int) + 1 := by simp
    have hout : tr (m' ++ [gval all g.A && gval all g.B]) (2 * ((m'.length : Int) + 1)) = (gval all g.A && gval all g.B) := tr_new
    have hnot : tr (m' ++ [gval all g.A && gval all g.B]) (notI (2 * ((m'.length : Int) + 1))) = !(gval all g.A && gval all g.B) := by rw [tr_not (by omega), hout]
    have hla : tr (m' ++ [gval all g.A && gval all g.B]) (litx row g.A) = gval all g.A := by rw [tr_app la1]; exact la
    have hlb : tr (m' ++ [gval all g.A && gval all g.B]) (litx row g.B) = gval all g.B := by rw [tr_app lb1]; exact lb
    have hna : tr (m' ++ [gval all g.A && gval all g.B]) (notI (litx row g.A)) = !gval all g.A := by rw [tr_not la0, hla]
    have hnb : tr (m' ++ [gval all g.A && gval all g.B]) (notI (litx row g.B)) = !gval all g.B := by rw [tr_not lb0, hlb]
    have ro := notI_le (x := 2 * ((m'.length : Int) + 1)) (v := (m'.length : Int) + 1) (by omega) (by omega)
    have rna := notI_le la0 la1
    have rnb := notI_le lb0 lb1
    generalize hg : (gval all g.A && gval all g.B) = b at *
    have s1 : sat (m' ++ [b]) (addF cls [notI (2 * ((m'.length : Int) + 1)), litx row g.A]) := by
      refine addF_sat (sat_app hs) (two _ (by omega) (by omega)) ?_
      cases hA : gval all g.A with
      | true => exact ⟨litx row g.A, by simp, by rw [hla, hA]⟩
      | false => exact ⟨notI (2 * ((m'.length : Int) + 1)), by simp, by rw [hnot, ← hg, hA]; rfl⟩
    have s2 : sat (m' ++ [b]) (addF (addF cls [notI (2 * ((m'.length : Int) + 1)), litx row g.A]) [notI (2 * ((m'.length : Int) + 1)), litx row g.B]) := by
      refine addF_sat s1 (two _ (by omega) (by omega)) ?_
      cases hB : gval all g.B with
      | true => exact ⟨litx row g.B, by simp, by rw [hlb, hB]⟩
      | false => exact ⟨notI (2 * ((m'.length : Int) + 1)), by simp, by rw [hnot, ← hg, hB]; simp⟩
    have s3 : sat (m' ++ [b]) (addF (addF (addF cls [notI (2 * ((m'.length : Int) + 1)), litx row g.A]) [notI (2 * ((m'.length : Int) + 1)), litx row g.B]) [2 * ((m'.length : Int) + 1), notI (litx row g.A), notI (litx row g.B)]) := by
      refine addF_sat s2 (three _ (by omega) (by omega) (by omega)) ?_
      cases hA : gval all g.A with
      | false => exact ⟨notI (litx row g.A), by simp, by rw [hna, hA]; rfl⟩
      | true =>
        cases hB : gval all g.B with
        | false => exact ⟨notI (litx row g.B), by simp, by rw [hnb, hB]; rfl⟩
        | true => exact ⟨2 * ((m'.length : Int) + 1), by simp, by rw [hout, ← hg, hA, hB]; rfl⟩
    rw [List.foldl_cons, List.foldl_cons]
    have e : gstep ((m'.length : Int), cls, row) g = (((m' ++ [b]).length : Int), addF (addF (addF cls [notI (2 * ((m'.length : Int) + 1)), litx row g.A]) [notI (2 * ((m'.length : Int) + 1)), litx row g.B]) [2 * ((m'.length : Int) + 1), notI (litx row g.A), notI (litx row g.B)], row ++ [2 * ((m'.length : Int) + 1)]) := by
      rw [hlen]; rfl
    have e2 : gateV all g = all ++ [b] := by unfold gateV; rw [hg]
    rw [e, e2]
    obtain ⟨m2, r1, r2, r3, t, r4⟩ := gates_row gs (by simpa using hb) hr s3
    exact ⟨m2, r1, r2, r3, [b] ++ t, by rw [r4]; simp⟩
section
variable {c : S_Circuit}
theorem before_of (hf : Fit c) : ∀ (gs : List S_And) (i : Nat), (∀ j a, gs[j]? = some a → andOk c (i + j) a) → ∀ {k : Nat}, (k : Int) = 1 + c.Inputs + c.Latches.length + i → Before k gs
  | [], _, _, _, _ => trivial
  | g :: gs, i, h, k, hk => by
    obtain ⟨h1, h2, h3⟩ := h 0 g rfl
    refine ⟨⟨by omega, by omega, h1, by omega⟩, before_of hf gs (i + 1) (fun j a hj => ?_) (by omega)⟩
    have := h (j + 1) a (by simpa using hj)
    rwa [show i + 1 + j = i + (j + 1) by omega]
theorem frame_row (hf : Fit c) {m : List Bool} {ls : List Int} {st is : List Bool} {cls : List (List Int)} (hls : LsOk m ls st) (hst : st.length = c.Latches.length) (his : (is.length : Int) = c.Inputs) (hs : sat m cls) :
    ∃ m2, Row2 m (frameF c ls (m.length : Int) cls).2.2 (allF c st is) m2 ∧ (frameF c ls (m.length : Int) cls).1 = (m2.length : Int) ∧ sat m2 (frameF c ls (m.length : Int) cls).2.1 ∧ ∃ t, m2 = m ++ t := by
  have r0 : Row2 m [0] [false] m := (Row2.nil (m := m)).old (x := 0) (b := false) (by omega) (by omega) rfl
  obtain ⟨r1, v1⟩ := insF_row is r0
  have hi : c.Inputs.toNat = is.length := by omega
  have e1 : insF is.length ((m.length : Int), [0]) = (((m ++ is).length : Int), (insF is.length ((m.length : Int), [0])).2) := by rw [← v1]
  obtain ⟨m2, r2, v2, t2, p2⟩ := latS_row ls st hls ⟨is, rfl⟩ r1
  rw [← e1] at r2 v2
  have e2 : ls.foldl latS (insF is.length ((m.length : Int), [0])) = ((m2.length : Int), (ls.foldl latS (insF is.length ((m.length : Int), [0]))).2) := by rw [← v2]
  have hlen : (ls.foldl latS (insF is.length ((m.length : Int), [0]))).2.length = 1 + is.length + st.length := by
    rw [r2.len]; simp; omega
  have hb : Before (ls.foldl latS (insF is.length ((m.length : Int), [0]))).2.length c.Ands := by
    refine before_of hf c.Ands 0 (fun j a hj => by rw [Nat.zero_add]; exact hf.valid.ands j a hj) ?_
    rw [hlen]; omega
  have hs2 : sat m2 cls := by rw [p2, List.append_assoc]; exact sat_app hs
  obtain ⟨m3, r3, v3, s3, t3, p3⟩ := gates_row c.Ands hb r2 hs2
  refine ⟨m3, ?_, ?_, ?_, is ++ t2 ++ t3, by rw [p3, p2]; simp⟩
  · unfold frameF; rw [hi, e2]; exact r3
  · unfold frameF; rw [hi, e2]; exact v3
  · unfold frameF; rw [hi, e2]; exact s3
def statesF (c : S_Circuit) : List Bool → List (List Bool) → List (List Bool)
  | _, [] => []
  | st, is :: iss => st :: statesF c (nextS c (allF c st is)) iss
def allsF (c : S_Circuit) : List Bool → List (List Bool) → List (List Bool)
  | _, [] => []
  | st, is :: iss => allF c st is :: allsF c (nextS c (allF c st is)) iss
inductive Rows2 : List Bool → List (List Int) → List (List Bool) → List Bool → Prop
  | nil {m} : Rows2 m [] [] m
  | cons {m m1 m2 row all rows alls} (h : Row2 m row all m1) (hr : Rows2 m1 rows alls m2) : Rows2 m (row :: rows) (all :: alls) m2
theorem nexts_ok (hf : Fit c) {m m2 : List Bool} {row : List Int} {all : List Bool} (h : Row2 m row all m2) (hr : row.length = 1 + (size c).toNat) : LsOk m2 (nexts c row) (nextS c all) := by
  have h0 := hf.i0
  refine ⟨by simp [nexts, nextS], fun k hk => .inr ?_⟩
  have hk2 : k < c.Latches.length := by simpa [nexts] using hk
  have hl := hf.valid.latches c.Latches[k] (List.getElem_mem hk2)
  have hsz : 0 ≤ size c := by unfold size; omega
  obtain ⟨q1, q2, q3⟩ := h.lit (l := c.Latches[k].Next) hl.1.1 (by have := hl.1.2; omega)
  have e1 : (nexts c row).getD k 0 = litx row c.Latches[k].Next := by simp [nexts, List.getD_eq_getElem?_getD, hk2]
  have e2 : (nextS c all).getD k false = gval all c.Latches[k].Next := by simp [nextS, List.getD_eq_getElem?_getD, hk2]
  rw [e1, e2]
  exact ⟨q3, q1⟩
theorem iter_rows (hf : Fit c) : ∀ (iss : List (List Bool)) (f : Nat) (st : List Bool) (s : FS) (m : List Bool), f + iss.length ≤ 8 → Q c f s → s.1 = (m.length : Int) → LsOk m s.2.2.2 st → st.length = c.Latches.length → (∀ is ∈ iss, (is.length : Int) = c.Inputs) → sat m s.2.2.1 →
    ∃ m2 rows, (iterF c iss.length s).2.1 = s.2.1 ++ rows ∧ Rows2 m rows (allsF c st iss) m2 ∧ (iterF c iss.length s).1 = (m2.length : Int) ∧ sat m2 (iterF c iss.length s).2.2.1
  | [], f, st, s, m, _, _, hv, _, _, _, hs => ⟨m, [], by simp [iterF], .nil, hv, hs⟩
  | is :: iss, f, st, s, m, h8, hq, hv, hl, hst, his, hs => by
    simp only [List.length_cons] at h8
    obtain ⟨m1, r1, v1, s1, t1, p1⟩ := frame_row hf hl hst (his is (by simp)) hs
    obtain ⟨q1, q2, _⟩ := frame_range hf (by omega) hq
    rw [← hv] at r1 v1 s1
    obtain ⟨m2, rows, e1, r2, v2, s2⟩ := iter_rows hf iss (f + 1) (nextS c (allF c st is)) (nextF c s) m1 (by omega) q1 v1 (nexts_ok hf r1 q2.2) (by simp [nextS]) (fun i hi => his i (by simp [hi])) s1
    refine ⟨m2, _ :: rows, ?_, .cons r1 r2, v2, s2⟩
    show (iterF c iss.length (nextF c s)).2.1 = _
    rw [e1]
    show (s.2.1 ++ [_]) ++ rows = _
    simp
end
end Go.Proofs.Ytbmhmfcjjhjkgaa.Vm
