/- Clauses that are put behind others: both ways do the same. -/
import Derived.Test.YtbmhmfcjjhjkgaaVmU2
namespace Go.Proofs.Ytbmhmfcjjhjkgaa.Vm
open Go
set_option linter.unusedVariables false
set_option linter.unusedSimpArgs false
theorem alw_congr {a b : List Int} (h : ∀ x, x ∈ a ↔ x ∈ b) : alw a = alw b := by
  unfold alw
  rw [Bool.eq_iff_iff, List.any_eq_true, List.any_eq_true]
  constructor
  · rintro ⟨x, hx, hn⟩; exact ⟨x, (h x).1 hx, by simpa [← h] using hn⟩
  · rintro ⟨x, hx, hn⟩; exact ⟨x, (h x).2 hx, by simpa [h] using hn⟩
theorem Up.getD_lt : ∀ {c : List Int}, Up c → ∀ i j, i < j → j < c.length → c.getD i 0 < c.getD j 0
  | [], _, i, j, _, h => by simp at h
  | x :: c, hu, i, j, hij, hj => by
    cases j with
    | zero => omega
    | succ j =>
      cases i with
      | zero =>
        have hm : c.getD j 0 ∈ c := List.mem_of_getElem? (getD_some (by simpa using hj))
        exact Up.lt hu _ hm
      | succ i => exact Up.getD_lt hu.tail i j (by omega) (by simpa using hj)
theorem adj_alw {c : List Int} (hu : Up c) (h0 : ∀ x ∈ c, 0 ≤ x) : (∃ (i : Nat) (x : Int), c[i]? = some x ∧ 0 < i ∧ x / 2 = c.getD (i - 1) 0 / 2) ↔ alw c = true := by
  unfold alw
  rw [List.any_eq_true]
  constructor
  · rintro ⟨i, x, hx, hi, he⟩
    have hl := lt_len hx
    have hxd : c.getD i 0 = x := by have := getD_some hl; rw [hx] at this; exact (Option.some.inj this).symm
    have hlt := hu.getD_lt (i - 1) i (by omega) hl
    have hy : c.getD (i - 1) 0 ∈ c := List.mem_of_getElem? (getD_some (by omega))
    refine ⟨c.getD (i - 1) 0, hy, ?_⟩
    have : notI (c.getD (i - 1) 0) = x := by
      rw [hxd] at hlt
      have := h0 _ hy
      unfold notI
      split <;> omega
    rw [this]
    exact decide_eq_true (List.mem_of_getElem? hx)
  · rintro ⟨x, hx, hn⟩
    have hn := of_decide_eq_true hn
    have hx0 := h0 x hx
    have key : ∀ e : Int, e % 2 = 0 → e ∈ c → e + 1 ∈ c → ∃ (i : Nat) (x : Int), c[i]? = some x ∧ 0 < i ∧ x / 2 = c.getD (i - 1) 0 / 2 := by
      intro e he h1 h2
      obtain ⟨i, hi⟩ := List.mem_iff_getElem?.1 h1
      obtain ⟨j, hj⟩ := List.mem_iff_getElem?.1 h2
      have li := lt_len hi
      have lj := lt_len hj
      have di : c.getD i 0 = e := by have := getD_some li; rw [hi] at this; exact (Option.some.inj this).symm
      have dj : c.getD j 0 = e + 1 := by have := getD_some lj; rw [hj] at this; exact (Option.some.inj this).symm
      have hij : i < j := by
        rcases Nat.lt_trichotomy i j with h | h | h
        · exact h
        · subst h; omega
        · have := hu.getD_lt j i h li; omega
      have hj1 : j = i + 1 := by
        by_cases e2 : j = i + 1
        · exact e2
        · have a := hu.getD_lt i (i + 1) (by omega) (by omega)
          have b := hu.getD_lt (i + 1) j (by omega) lj
          omega
      subst hj1
      exact ⟨i + 1, e + 1, hj, by omega, by rw [Nat.add_sub_cancel, di]; omega⟩
    by_cases hp : x % 2 = 0
    · have : notI x = x + 1 := by unfold notI; rw [if_pos hp]
      exact key x hp hx (this ▸ hn)
    · have : notI x = x - 1 := by unfold notI; rw [if_neg hp]
      exact key (x - 1) (by omega) (this ▸ hn) (by rw [Int.sub_add_cancel]; exact hx)
theorem known_eq {v x : Int} (h0 : I64 x) : s_clause_known v x = some (decide (2 ≤ x) && decide (x / 2 ≤ v)) := by
  obtain ⟨a, b⟩ := h0
  unfold s_clause_known
  by_cases h : x ≥ 2
  · have e : decide (2 ≤ x) = true := decide_eq_true (by omega)
    simp only [h, decide_true, if_true, e, Bool.true_and, Option.bind_some]
    rw [tdiv2 (by omega), wr (by omega) (by omega)]
  · have e : decide (2 ≤ x) = false := decide_eq_false (by omega)
    simp only [h, decide_false, if_false, Bool.false_eq_true, e, Bool.false_and, Option.bind_some]
theorem Make_eq {v : Int} {own : List Int} (h0 : 0 ≤ v) (h1 : v ≤ 4000) (hl : own.length < 13) (ho : ∀ x ∈ own, 2 ≤ x ∧ x ≤ 2 * v + 1) : s_clause_Make v own = some (if alw own = true then ([], true, 0) else (norm own, false, 0)) := by
  have hb : (13 : Nat) ≤ big := by decide
  unfold s_clause_Make
  have e0 : decide (v < 0) = false := decide_eq_false (by omega)
  have e1 : decide (v > 4000) = false := decide_eq_false (by omega)
  simp only [e0, e1, if_false, Bool.false_eq_true, Option.bind_some]
  obtain ⟨r, g1, g2⟩ := Lp_find (l := own) (fun _ x => !(decide (2 ≤ x) && decide (x / 2 ≤ v))) (f := b_clause_Make_L0 v own) (r0 := Sum.inl ()) (fun _ => Sum.inr ()) (by omega) (fun i x hx => by
    obtain ⟨a, b⟩ := ho x (List.mem_of_getElem? hx)
    unfold b_clause_Make_L0
    rw [dec_lt (lt_len hx), idx_nat', hx]
    simp only [if_true, Option.bind_some, known_eq (show I64 x from ⟨by omega, by omega⟩)]
    cases decide (2 ≤ x) && decide (x / 2 ≤ v) <;> rfl) (by unfold b_clause_Make_L0; rw [dec_ge]; rfl)
  rw [g1]
  rcases g2 with ⟨_, rfl⟩ | ⟨i, x, hx, hp, _⟩
  rotate_left
  · obtain ⟨a, b⟩ := ho x (List.mem_of_getElem? hx)
    have e2 : x / 2 ≤ v := by omega
    simp [a, e2] at hp
  simp only [Option.bind_some]
  rw [if_pos (by omega), if_pos hl, if_pos (by rw [isort_length]; omega)]
  have hm := norm_mem own
  have hu := norm_up own
  have hnl : (norm own).length < 13 := by have := dd_len (isort own); rw [isort_length] at this; unfold norm; omega
  have hr : ∀ x ∈ norm own, 2 ≤ x ∧ x ≤ 2 * v + 1 := fun x hx => ho x ((hm x).1 hx)
  obtain ⟨r, k1, k2⟩ := Lp_find (l := norm own) (fun i x => decide (0 < i) && decide (x / 2 = (norm own).getD (i - 1) 0 / 2)) (f := b_clause_Make_L1 own) (r0 := Sum.inl ()) (fun _ => Sum.inr ()) (by omega) (fun i x hx => by
    have hi := lt_len hx
    obtain ⟨a, b⟩ := hr x (List.mem_of_getElem? hx)
    unfold b_clause_Make_L1
    show (if decide ((i : Int) < ((norm own).length : Int)) = true then ((if decide ((i : Int) > 0) = true then (idx (norm own) i).bind _ else some false).bind _) else _) = _
    rw [dec_lt hi, idx_nat', hx]
    by_cases h : 0 < i
    · have e2 : decide ((i : Int) > 0) = true := decide_eq_true (by omega)
      have w1 : IntKind.wrap .i64 ((i : Int) - 1) = ((i - 1 : Nat) : Int) := by rw [wr (by omega) (by omega)]; omega
      have x1 : (norm own)[i - 1]? = some ((norm own).getD (i - 1) 0) := getD_some (by omega)
      obtain ⟨a', b'⟩ := hr _ (List.mem_of_getElem? x1)
      show ((if decide ((i : Int) > 0) = true then (idx (norm own) (IntKind.wrap .i64 ((i : Int) - 1))).bind _ else some false).bind _) = _
      rw [e2, w1, idx_nat', x1]
      simp only [if_true, Option.bind_some]
      rw [tdiv2 (by omega), tdiv2 (by omega), wr (by omega) (by omega), wr (by omega) (by omega)]
      have e3 : (x / 2 == (norm own).getD (i - 1) 0 / 2) = decide (x / 2 = (norm own).getD (i - 1) 0 / 2) := rfl
      rw [e3]
      simp only [h, decide_true, Bool.true_and]
      cases decide (x / 2 = (norm own).getD (i - 1) 0 / 2) <;> rfl
    · have e2 : decide ((i : Int) > 0) = false := decide_eq_false (by omega)
      rw [e2]
      simp only [h, decide_false, Bool.false_and]; rfl) (by
      unfold b_clause_Make_L1
      show (if decide (((norm own).length : Int) < ((norm own).length : Int)) = true then _ else _) = _
      rw [dec_ge]; rfl)
  rw [k1]
  have ha := adj_alw hu (fun x hx => by have := hr x hx; omega)
  rw [alw_congr hm] at ha
  rcases k2 with ⟨h, rfl⟩ | ⟨i, x, hx, hp, rfl⟩
  · have : ¬ alw own = true := fun e => by
      obtain ⟨i, x, hx, hi, he⟩ := ha.2 e
      have := h i x hx
      simp [hi, he] at this
    rw [if_neg this]; rfl
  · have : alw own = true := ha.1 ⟨i, x, hx, by simpa using hp⟩
    rw [if_pos this]; rfl
def addF (cls : List (List Int)) (lits : List Int) : List (List Int) :=
  if 1 ∈ lits then cls else if alw (lits.filter (· != 0)) = true then cls else cls ++ [norm (lits.filter (· != 0))]
theorem addF_length (cls : List (List Int)) (lits : List Int) : cls.length ≤ (addF cls lits).length ∧ (addF cls lits).length ≤ cls.length + 1 := by
  unfold addF
  split
  · omega
  · split <;> simp
def addL (l : List Int) (s0 : List Int × Int) : Option ((List Int × Int) ⊕ (List Int ⊕ Unit)) :=
  if (decide (s0.2 < (l.length : Int))) = true then
    ((idx l s0.2).bind fun x1 =>
      if (x1 == 1) = true then
        some (Sum.inr ())
      else
        if (decide (x1 > 1)) = true then
          if s0.1.length + 1 ≤ big then
            some (Sum.inl (s0.1 ++ ([x1] : List Int)))
          else none
        else
          some (Sum.inl s0.1)).bind fun x0 =>
    match x0 with
    | .inl x0' =>
      some (Sum.inl (x0', (IntKind.wrap .i64 (s0.2 + 1))))
    | .inr x0' =>
      some (Sum.inr (Sum.inr ()))
  else
    some (Sum.inr (Sum.inl s0.1))
noncomputable def addG (v : Int) (cls : List (List Int)) (l : List Int) : Option (List (List Int)) :=
  (Lp (addL l) (([] : List Int), 0)).bind fun x0 =>
  match x0 with
  | .inl x0' =>
    (s_clause_Make v x0').bind fun r0 =>
    (if (r0.2.2 == 0) = true then
        some (!r0.2.1)
      else
        some false).bind fun x1 =>
    if x1 = true then
      if cls.length + 1 ≤ big then
        some (cls ++ ([r0.1] : List (List Int)))
      else none
    else
      some cls
  | .inr x0' =>
    some cls
theorem addL_eq (l : List Int) (hl : l.length < 1000) : Lp (addL l) ([], 0) = some (if 1 ∈ l then Sum.inr () else Sum.inl (l.filter (fun x => decide (x > 1)))) := by
  have hb : (1000 : Nat) ≤ big := by decide
  have key : ∀ (m i : Nat) (own : List Int), i + m = l.length → own.length ≤ i → Lp (addL l) (own, (i : Int)) = some (if 1 ∈ l.drop i then Sum.inr () else Sum.inl (own ++ (l.drop i).filter (fun x => decide (x > 1)))) := by
    intro m
    induction m with
    | zero =>
      intro i own hi ho
      have : i = l.length := by omega
      subst this
      refine Lp_out ?_
      unfold addL
      simp only [dec_ge, List.drop_length]
      simp
    | succ m ih =>
      intro i own hi ho
      obtain ⟨x, hx⟩ : ∃ x, l[i]? = some x := ⟨l[i], List.getElem?_eq_getElem (by omega)⟩
      have hd : l.drop i = x :: l.drop (i + 1) := by
        rw [List.drop_eq_getElem_cons (by omega)]
        congr 1
        have := List.getElem?_eq_getElem (l := l) (i := i) (by omega)
        rw [hx] at this
        exact (Option.some.inj this).symm
      rw [hd]
      by_cases h1 : x = 1
      · subst h1
        rw [if_pos (by simp)]
        refine Lp_out ?_
        unfold addL
        simp only [dec_lt (lt_len hx), if_true, idx_nat', hx, Option.bind_some, BEq.rfl]
      · have e1 : (x == 1) = false := by simpa using h1
        have hm : (1 ∈ x :: l.drop (i + 1)) ↔ 1 ∈ l.drop (i + 1) := by
          rw [List.mem_cons]
          exact ⟨fun h => h.resolve_left (fun e => h1 e.symm), .inr⟩
        simp only [hm]
        cases h2 : decide (x > 1) with
        | true =>
          have hs : addL l (own, (i : Int)) = some (.inl (own ++ [x], ((i + 1 : Nat) : Int))) := by
            unfold addL
            simp only [dec_lt (lt_len hx), if_true, idx_nat', hx, Option.bind_some, e1, h2, if_false, Bool.false_eq_true]
            rw [if_pos (by omega), wr1 (by omega)]; rfl
          rw [Lp_step hs, ih (i + 1) (own ++ [x]) (by omega) (by simp; omega)]
          simp [List.filter_cons, h2]
        | false =>
          have hs : addL l (own, (i : Int)) = some (.inl (own, ((i + 1 : Nat) : Int))) := by
            unfold addL
            simp only [dec_lt (lt_len hx), if_true, idx_nat', hx, Option.bind_some, e1, h2, if_false, Bool.false_eq_true]
            rw [wr1 (by omega)]
          rw [Lp_step hs, ih (i + 1) own (by omega) (by omega)]
          simp [List.filter_cons, h2]
  simpa using key l.length 0 [] (by omega) (by simp)
theorem addG_eq {v : Int} {cls : List (List Int)} {l : List Int} (h0 : 0 ≤ v) (h1 : v ≤ 4000) (hl : l.length < 13) (hr : ∀ x ∈ l, 0 ≤ x ∧ x ≤ 2 * v + 1) (hc : cls.length < big) : addG v cls l = some (addF cls l) := by
  unfold addG addF
  rw [addL_eq l (by omega)]
  by_cases h : 1 ∈ l
  · simp only [h, if_true, Option.bind_some]
  · simp only [h, if_false, Option.bind_some]
    have hf : l.filter (fun x => decide (x > 1)) = l.filter (· != 0) := by
      refine List.filter_congr fun x hx => ?_
      have a := hr x hx
      have b : x ≠ 1 := fun e => h (e ▸ hx)
      by_cases e : x = 0
      · subst e; simp
      · have e1 : decide (x > 1) = true := decide_eq_true (by omega)
        simp [e1, e]
    rw [hf]
    have hlen : (l.filter (· != 0)).length ≤ l.length := List.length_filter_le _ _
    rw [Make_eq h0 h1 (by omega) (fun x hx => by
      obtain ⟨hx, hn⟩ := List.mem_filter.1 hx
      have a := hr x hx
      have b : x ≠ 1 := fun e => h (e ▸ hx)
      have c : x ≠ 0 := by simpa using hn
      omega)]
    cases ha : alw (l.filter (· != 0)) with
    | true => rfl
    | false =>
      simp only [Option.bind_some, Bool.false_eq_true, if_false, BEq.rfl, if_true, Bool.not_false]
      rw [if_pos (by omega)]
theorem put_eq {cls : List (List Int)} {l : List Int} (hl : l.length < 1000) (hr : RowOk l) (hc : cls.length < big) :
    ((s_ref13_Has l 1).bind fun r0 => if r0 = true then some cls else (s_ref13_Without l 0).bind fun r1 => (s_ref13_Always r1).bind fun r2 => if r2 = true then some cls else (s_ref13_Sorted r1).bind fun r3 =>
      if cls.length + 1 ≤ big then some (cls ++ ([r3] : List (List Int))) else none) = some (addF cls l) := by
  have hb : (1000 : Nat) ≤ big := by decide
  have hlen : (l.filter (· != 0)).length ≤ l.length := List.length_filter_le _ _
  unfold addF
  rw [Has_eq l 1 (by omega)]
  by_cases h : 1 ∈ l
  · simp only [h, decide_true, if_true, Option.bind_some]
  · simp only [h, decide_false, if_false, Bool.false_eq_true, Option.bind_some, Without_eq l 0 (by omega), Always_eq _ (show (l.filter (· != 0)).length < 9223372036854775807 by omega) (fun x hx => hr x (List.mem_filter.1 hx).1), Sorted_eq _ (show (l.filter (· != 0)).length < big by omega)]
    cases ha : alw (l.filter (· != 0)) with
    | true => rfl
    | false => simp only [Bool.false_eq_true, if_false]; rw [if_pos (by omega)]
end Go.Proofs.Ytbmhmfcjjhjkgaa.Vm
