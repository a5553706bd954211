/- Models of frames: what the values of a run say of the clauses. -/
import Derived.Test.YtkhgnkfdpabflabVmU6
namespace Go.Proofs.Ytkhgnkfdpabflab.Vm
open Go
set_option linter.unusedVariables false
set_option linter.unusedSimpArgs false
def tr (m : List Bool) (x : Int) : Bool := if x < 2 then x == 1 else (m.getD (x / 2 - 1).toNat false == (x % 2 == 0))
theorem tr_app {m t : List Bool} {x : Int} (h1 : x ≤ 2 * (m.length : Int) + 1) : tr (m ++ t) x = tr m x := by
  unfold tr
  by_cases h : x < 2
  · rw [if_pos h, if_pos h]
  · rw [if_neg h, if_neg h, List.getD_eq_getElem?_getD, List.getD_eq_getElem?_getD, List.getElem?_append_left (by omega)]
theorem tr_new {m : List Bool} {b : Bool} : tr (m ++ [b]) (2 * ((m.length : Int) + 1)) = b := by
  unfold tr
  rw [if_neg (by omega)]
  have e : (2 * ((m.length : Int) + 1) / 2 - 1).toNat = m.length := by omega
  have e2 : (2 * ((m.length : Int) + 1)) % 2 = 0 := by omega
  rw [e, e2]
  simp
theorem tr_not {m : List Bool} {x : Int} (h : 0 ≤ x) : tr m (notI x) = !tr m x := by
  unfold tr notI
  by_cases h2 : x < 2
  · rcases (show x = 0 ∨ x = 1 by omega) with rfl | rfl <;> rfl
  · by_cases hx : x % 2 = 0
    · rw [if_pos hx, if_neg (by omega), if_neg h2]
      have e : (x + 1) / 2 = x / 2 := by omega
      have e2 : (x + 1) % 2 = 1 := by omega
      rw [e, e2, hx]
      cases m.getD (x / 2 - 1).toNat false <;> rfl
    · rw [if_neg hx, if_neg (by omega), if_neg h2]
      have e : (x - 1) / 2 = x / 2 := by omega
      have e2 : (x - 1) % 2 = 0 := by omega
      have e3 : x % 2 = 1 := by omega
      rw [e, e2, e3]
      cases m.getD (x / 2 - 1).toNat false <;> rfl
def gm (m : List Bool) (p : Int × Bool) : List Bool := if p.1 = 2 * ((m.length : Int) + 1) then m ++ [p.2] else m
def okp (m : List Bool) (p : Int × Bool) : Prop := p.1 = 2 * ((m.length : Int) + 1) ∨ (0 ≤ p.1 ∧ p.1 ≤ 2 * (m.length : Int) + 1 ∧ tr m p.1 = p.2)
def FitP (m : List Bool) (ps : List (Int × Bool)) : Prop := ∀ j p, ps[j]? = some p → okp ((ps.take j).foldl gm m) p
theorem gm_pre : ∀ (ps : List (Int × Bool)) (m : List Bool), ∃ t, ps.foldl gm m = m ++ t
  | [], m => ⟨[], by simp⟩
  | p :: ps, m => by
    obtain ⟨t, h⟩ := gm_pre ps (gm m p)
    rw [List.foldl_cons, h]
    unfold gm
    split
    · exact ⟨[p.2] ++ t, by simp⟩
    · exact ⟨t, rfl⟩
theorem FitP.nil {m : List Bool} : FitP m [] := fun j p h => by simp at h
theorem FitP.snoc {m : List Bool} {ps : List (Int × Bool)} {p : Int × Bool} (h : FitP m ps) (hp : okp (ps.foldl gm m) p) : FitP m (ps ++ [p]) := by
  intro j q hq
  by_cases hj : j < ps.length
  · rw [List.getElem?_append_left hj] at hq
    rw [List.take_append_of_le_length (by omega)]
    exact h j q hq
  · have : j = ps.length := by
      have := lt_len hq
      simp at this; omega
    subst this
    have e : q = p := by simpa using hq.symm
    rw [e, List.take_left]
    exact hp
theorem okp_step {m : List Bool} {p : Int × Bool} (h : okp m p) : tr (gm m p) p.1 = p.2 ∧ 0 ≤ p.1 ∧ p.1 ≤ 2 * ((gm m p).length : Int) + 1 := by
  unfold gm
  rcases h with h | ⟨h0, h1, h2⟩
  · rw [if_pos h, h]
    exact ⟨tr_new, by omega, by simp; omega⟩
  · rw [if_neg (by omega)]
    exact ⟨h2, h0, h1⟩
theorem FitP.tr {m : List Bool} {ps : List (Int × Bool)} (h : FitP m ps) {j : Nat} {p : Int × Bool} (hp : ps[j]? = some p) : tr (ps.foldl gm m) p.1 = p.2 ∧ 0 ≤ p.1 ∧ p.1 ≤ 2 * ((ps.foldl gm m).length : Int) + 1 := by
  obtain ⟨h1, h2, h3⟩ := okp_step (h j p hp)
  have hj := lt_len hp
  have e : ps.foldl gm m = (ps.drop (j + 1)).foldl gm (gm ((ps.take j).foldl gm m) p) := by
    have : ps = ps.take j ++ (p :: ps.drop (j + 1)) := by
      have hx : ps[j] = p := by rw [List.getElem?_eq_getElem hj] at hp; exact Option.some.inj hp
      rw [← hx, ← List.drop_eq_getElem_cons hj, List.take_append_drop]
    conv => lhs; rw [this]
    rw [List.foldl_append, List.foldl_cons]
  obtain ⟨t, ht⟩ := gm_pre (ps.drop (j + 1)) (gm ((ps.take j).foldl gm m) p)
  rw [e, ht]
  refine ⟨by rw [tr_app h3]; exact h1, h2, ?_⟩
  rw [List.length_append]; omega
def gval (all : List Bool) (l : Int) : Bool := (all.getD (l / 2).toNat false != (l % 2 == 1))
def gateV (all : List Bool) (g : S_And) : List Bool := all ++ [gval all g.A && gval all g.B]
def allF (c : S_Circuit) (st is : List Bool) : List Bool := c.Ands.foldl gateV ([false] ++ is ++ st)
def nextS (c : S_Circuit) (all : List Bool) : List Bool := c.Latches.map fun l => gval all l.Next
structure Row2 (m : List Bool) (row : List Int) (all : List Bool) (m' : List Bool) : Prop where
  ex : ∃ ps : List (Int × Bool), ps.map (·.1) = row ∧ ps.map (·.2) = all ∧ FitP m ps ∧ ps.foldl gm m = m'
theorem Row2.nil {m : List Bool} : Row2 m [] [] m := ⟨[], rfl, rfl, FitP.nil, rfl⟩
theorem Row2.fresh {m : List Bool} {row : List Int} {all m' : List Bool} (h : Row2 m row all m') (b : Bool) : Row2 m (row ++ [2 * ((m'.length : Int) + 1)]) (all ++ [b]) (m' ++ [b]) := by
  obtain ⟨ps, h1, h2, h3, h4⟩ := h.ex
  refine ⟨ps ++ [(2 * ((m'.length : Int) + 1), b)], by simp [h1], by simp [h2], h3.snoc (.inl (by rw [h4])), ?_⟩
  rw [List.foldl_append, h4]
  simp [gm]
theorem Row2.old {m : List Bool} {row : List Int} {all m' : List Bool} (h : Row2 m row all m') {x : Int} {b : Bool} (h0 : 0 ≤ x) (hx : x ≤ 2 * (m'.length : Int) + 1) (hb : Vm.tr m' x = b) : Row2 m (row ++ [x]) (all ++ [b]) m' := by
  obtain ⟨ps, h1, h2, h3, h4⟩ := h.ex
  refine ⟨ps ++ [(x, b)], by simp [h1], by simp [h2], h3.snoc (.inr (by rw [h4]; exact ⟨h0, hx, hb⟩)), ?_⟩
  rw [List.foldl_append, h4]
  have : ¬ x = 2 * ((m'.length : Int) + 1) := by omega
  simp [gm, this]
theorem Row2.len {m : List Bool} {row : List Int} {all m' : List Bool} (h : Row2 m row all m') : row.length = all.length := by
  obtain ⟨ps, h1, h2, h3, h4⟩ := h.ex
  rw [← h1, ← h2]; simp
theorem Row2.pre {m : List Bool} {row : List Int} {all m' : List Bool} (h : Row2 m row all m') : ∃ t, m' = m ++ t := by
  obtain ⟨ps, h1, h2, h3, h4⟩ := h.ex
  obtain ⟨t, ht⟩ := gm_pre ps m
  exact ⟨t, by rw [← h4, ht]⟩
theorem Row2.at {m : List Bool} {row : List Int} {all m' : List Bool} (h : Row2 m row all m') {j : Nat} (hj : j < row.length) : Vm.tr m' (row.getD j 0) = all.getD j false ∧ 0 ≤ row.getD j 0 ∧ row.getD j 0 ≤ 2 * (m'.length : Int) + 1 := by
  obtain ⟨ps, h1, h2, h3, h4⟩ := h.ex
  have hj2 : j < ps.length := by rw [← h1] at hj; simpa using hj
  have hp : ps[j]? = some ps[j] := List.getElem?_eq_getElem hj2
  have := h3.tr hp
  rw [h4] at this
  have e1 : row.getD j 0 = ps[j].1 := by subst h1; rw [List.getD_eq_getElem?_getD, List.getElem?_map, hp]; rfl
  have e2 : all.getD j false = ps[j].2 := by subst h2; rw [List.getD_eq_getElem?_getD, List.getElem?_map, hp]; rfl
  rw [e1, e2]; exact this
theorem Row2.lit {m : List Bool} {row : List Int} {all m' : List Bool} (h : Row2 m row all m') {l : Int} (h0 : 0 ≤ l) (hl : (l / 2).toNat < row.length) : Vm.tr m' (litx row l) = gval all l ∧ 0 ≤ litx row l ∧ litx row l ≤ 2 * (m'.length : Int) + 1 := by
  obtain ⟨h1, h2, h3⟩ := h.at hl
  unfold litx gval
  split
  · rename_i e
    refine ⟨?_, (notI_le h2 h3).1, (notI_le h2 h3).2⟩
    rw [tr_not h2, h1, e]
    cases all.getD (l / 2).toNat false <;> rfl
  · rename_i e
    refine ⟨?_, h2, h3⟩
    have e : l % 2 = 0 := by omega
    rw [h1, e]
    cases all.getD (l / 2).toNat false <;> rfl
section
variable {c : S_Circuit}
inductive Rows2 : List Bool → List (List Int) → List (List Bool) → List Bool → Prop
  | nil {m} : Rows2 m [] [] m
  | cons {m m1 m2 row all rows alls} (h : Row2 m row all m1) (hr : Rows2 m1 rows alls m2) : Rows2 m (row :: rows) (all :: alls) m2
end
end Go.Proofs.Ytkhgnkfdpabflab.Vm
