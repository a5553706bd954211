/- What bmc.Clauses and its reference answer. -/
import Derived.Test.YtbmhmfcjjhjkgaaVmU6b
namespace Go.Proofs.Ytbmhmfcjjhjkgaa.Vm
open Go
set_option linter.unusedVariables false
set_option linter.unusedSimpArgs false
def bpL (l row : List Int) (s : List Int × Int) : Option ((List Int × Int) ⊕ (List Int ⊕ Unit)) :=
  if (decide (s.2 < (l.length : Int))) = true then
    ((idx l s.2).bind fun x4 =>
      (idx row (IntKind.wrap .i64 (Int.tdiv x4 2))).bind fun x5 =>
      ((if (decide (x5 ≥ 0)) = true then
            some ((Int.tmod x4 2) == 1)
          else
            some false).bind fun x7 =>
        if x7 = true then
          some (xorI .i64 x5 1)
        else
          some x5).bind fun x6 =>
      if (x6 == 1) = true then
        some (Sum.inr ())
      else
        if (decide (x6 > 0)) = true then
          if s.1.length + 1 ≤ big then
            some (Sum.inl (s.1 ++ ([x6] : List Int)))
          else none
        else
          some (Sum.inl s.1)).bind fun x3 =>
    match x3 with
    | .inl x3' =>
      some (Sum.inl (x3', (IntKind.wrap .i64 (s.2 + 1))))
    | .inr x3' =>
      some (Sum.inr (Sum.inr ()))
  else
    some (Sum.inr (Sum.inl s.1))
def bpT (o : List Int) (s : Int) : Option (Int ⊕ (Unit ⊕ Unit)) :=
  if (decide (s < (o.length : Int))) = true then
    (idx o s).bind fun x4 =>
    (if (decide (s > 0)) = true then
        (idx o (IntKind.wrap .i64 (s - 1))).bind fun x6 =>
        if (x6 == (xorI .i64 x4 1)) = true then
          some ((Int.tmod x4 2) == 1)
        else
          some false
      else
        some false).bind fun x5 =>
    if x5 = true then
      some (Sum.inr (Sum.inr ()))
    else
      some (Sum.inl (IntKind.wrap .i64 (s + 1)))
  else
    some (Sum.inr (Sum.inl ()))
noncomputable def bpG (cls : List (List Int)) (l row : List Int) : Option (List (List Int)) :=
  (Lp (bpL l row) (([] : List Int), 0)).bind fun x3 =>
  match x3 with
  | .inl x3' =>
    if x3'.length < 13 then
      if (isort x3').length < 1000000 then
        (Lp (bpT (dd (isort x3'))) 0).bind fun x4 =>
        match x4 with
        | .inl x4' =>
          if cls.length + 1 ≤ big then
            some (cls ++ ([(dd (isort x3'))] : List (List Int)))
          else none
        | .inr x4' =>
          some cls
      else none
    else none
  | .inr x3' =>
    some cls
def InRow (row l : List Int) : Prop := ∀ x ∈ l, 0 ≤ x ∧ x < 4611686018427387904 ∧ (x / 2).toNat < row.length
theorem bcongr {α β : Type} {o : Option α} {f g : α → Option β} (h : ∀ x, f x = g x) : o.bind f = o.bind g := by cases o with
  | none => rfl
  | some x => exact h x
theorem obind {α β : Type} {o o' : Option α} {f : α → Option β} (h : o = o') : o.bind f = o'.bind f := by rw [h]
theorem idx_neg {α : Type} {l : List α} {i : Int} (h : i < 0) : idx l i = none := by unfold idx; rw [if_neg (by omega)]
theorem bpL_eq {l row : List Int} (hl : InRow row l) (hr : RowOk row) : bpL l row = addL (l.map (litx row)) := by
  funext s
  unfold bpL addL
  rw [List.length_map]
  by_cases h : s.2 < (l.length : Int)
  · simp only [h, decide_true, if_true]
    by_cases h0 : s.2 < 0
    · rw [idx_neg h0, idx_neg h0]; rfl
    · obtain ⟨i, hi⟩ : ∃ i : Nat, s.2 = (i : Int) := ⟨s.2.toNat, by omega⟩
      have hil : i < l.length := by omega
      obtain ⟨x, hx⟩ : ∃ x, l[i]? = some x := ⟨l[i], List.getElem?_eq_getElem hil⟩
      obtain ⟨a0, a1, a2⟩ := hl x (List.mem_of_getElem? hx)
      obtain ⟨b0, b1⟩ := getD_ok hr (x / 2).toNat
      rw [hi, idx_nat', idx_nat', List.getElem?_map, hx]
      simp only [Option.map_some, Option.bind_some]
      rw [idx_half a0 a1 a2]
      simp only [Option.bind_some]
      have e0 : decide (row.getD (x / 2).toNat 0 ≥ 0) = true := decide_eq_true (by omega)
      simp only [e0, if_true, Option.bind_some, tmod2 a0]
      have e1 : (if (x % 2 == 1) = true then some (xorI .i64 (row.getD (x / 2).toNat 0) 1) else some (row.getD (x / 2).toNat 0)) = some (litx row x) := by
        unfold litx
        by_cases hp : x % 2 = 1
        · have : (x % 2 == 1) = true := by simpa using hp
          rw [if_pos this, if_pos hp, xor_one b0 b1]
        · have : (x % 2 == 1) = false := by simpa using hp
          rw [this, if_neg (by decide), if_neg hp]
      rw [e1]
      simp only [Option.bind_some]
      by_cases h1 : litx row x = 1
      · have : (litx row x == 1) = true := by simpa using h1
        simp only [this, if_true]; rfl
      · have e2 : (litx row x == 1) = false := by simpa using h1
        have e3 : decide (litx row x > 0) = decide (litx row x > 1) := by rw [decide_eq_decide]; omega
        simp only [e2, Bool.false_eq_true, if_false, e3]
        exact bcongr fun v => by cases v <;> rfl
  · simp only [h, decide_false, Bool.false_eq_true, if_false]
theorem bpT_eq {o : List Int} (hu : Up o) (hl : o.length < 1000000) (hr : ∀ x ∈ o, 2 ≤ x ∧ x < 1000000) : Lp (bpT o) 0 = some (if alw o = true then .inr () else .inl ()) := by
  obtain ⟨r, k1, k2⟩ := Lp_find (l := o) (fun i x => decide (0 < i) && decide (x / 2 = o.getD (i - 1) 0 / 2)) (f := bpT o) (r0 := Sum.inl ()) (fun _ => Sum.inr ()) (by omega) (fun i x hx => by
    have hi := lt_len hx
    obtain ⟨a, b⟩ := hr x (List.mem_of_getElem? hx)
    unfold bpT
    rw [dec_lt hi, idx_nat', hx]
    simp only [if_true, Option.bind_some]
    by_cases h : 0 < i
    · have e2 : decide ((i : Int) > 0) = true := decide_eq_true (by omega)
      have w1 : IntKind.wrap .i64 ((i : Int) - 1) = ((i - 1 : Nat) : Int) := by rw [wr (by omega) (by omega)]; omega
      have x1 : o[i - 1]? = some (o.getD (i - 1) 0) := getD_some (by omega)
      obtain ⟨a', b'⟩ := hr _ (List.mem_of_getElem? x1)
      have hxd : o.getD i 0 = x := by have := getD_some hi; rw [hx] at this; exact (Option.some.inj this).symm
      have hlt := hu.getD_lt (i - 1) i (by omega) hi
      rw [hxd] at hlt
      rw [e2, w1, idx_nat', x1]
      simp only [if_true, Option.bind_some]
      rw [xor_one (by omega) (by omega), tmod2 (by omega)]
      simp only [h, decide_true, Bool.true_and]
      by_cases hp : x / 2 = o.getD (i - 1) 0 / 2
      · have hn : o.getD (i - 1) 0 = notI x := by unfold notI; split <;> omega
        have e3 : (o.getD (i - 1) 0 == notI x) = true := by simpa using hn
        have e4 : (x % 2 == 1) = true := by simp; omega
        simp only [e3, e4, hp, decide_true, if_true, Option.bind_some]
      · have hn : ¬ o.getD (i - 1) 0 = notI x := fun e => hp (by rw [e]; exact ((notI_range (by omega)).2).symm)
        have e3 : (o.getD (i - 1) 0 == notI x) = false := by simpa using hn
        simp only [e3, hp, decide_false, Bool.false_eq_true, if_false, Option.bind_some]
    · have e2 : decide ((i : Int) > 0) = false := decide_eq_false (by omega)
      rw [e2]
      simp only [h, decide_false, Bool.false_and, Bool.false_eq_true, if_false, Option.bind_some]) (by unfold bpT; rw [dec_ge]; rfl)
  rw [k1]
  have ha := adj_alw hu (fun x hx => by have := hr x hx; omega)
  rcases k2 with ⟨h, rfl⟩ | ⟨i, x, hx, hp, rfl⟩
  · have : ¬ alw o = true := fun e => by
      obtain ⟨i, x, hx, hi, he⟩ := ha.2 e
      have := h i x hx
      simp [hi, he] at this
    rw [if_neg this]
  · have : alw o = true := ha.1 ⟨i, x, hx, by simpa using hp⟩
    rw [if_pos this]
theorem bpG_eq {cls : List (List Int)} {l row : List Int} (hl : InRow row l) (hr : ∀ y ∈ row, 0 ≤ y ∧ y < 10000) (hn : l.length < 13) (hc : cls.length < big) : bpG cls l row = some (addF cls (l.map (litx row))) := by
  have hr' : RowOk row := fun y hy => by have := hr y hy; omega
  have hlit : ∀ x ∈ l.map (litx row), 0 ≤ x ∧ x < 10002 := fun x hx => by
    obtain ⟨y, hy, rfl⟩ := List.mem_map.1 hx
    obtain ⟨a0, a1, a2⟩ := hl y hy
    have := hr _ (List.mem_of_getElem? (getD_some a2))
    unfold litx
    split
    · unfold notI; split <;> omega
    · omega
  unfold bpG addF
  rw [bpL_eq hl hr', addL_eq _ (by rw [List.length_map]; omega)]
  by_cases h : 1 ∈ l.map (litx row)
  · simp only [h, if_true, Option.bind_some]
  · simp only [h, if_false, Option.bind_some]
    have hf : (l.map (litx row)).filter (fun x => decide (x > 1)) = (l.map (litx row)).filter (· != 0) := by
      refine List.filter_congr fun x hx => ?_
      have a := hlit x hx
      have b : x ≠ 1 := fun e => h (e ▸ hx)
      by_cases e : x = 0
      · subst e; simp
      · have e1 : decide (x > 1) = true := decide_eq_true (by omega)
        simp [e1, e]
    rw [hf]
    generalize hq : (l.map (litx row)).filter (· != 0) = q
    have hlen : q.length ≤ l.length := by rw [← hq]; have := List.length_filter_le (· != 0) (l.map (litx row)); rwa [List.length_map] at this
    have hqr : ∀ x ∈ q, 2 ≤ x ∧ x < 1000000 := fun x hx => by
      rw [← hq] at hx
      obtain ⟨hx, hn⟩ := List.mem_filter.1 hx
      have a := hlit x hx
      have b : x ≠ 1 := fun e => h (e ▸ hx)
      have c : x ≠ 0 := by simpa using hn
      omega
    have hnl : (norm q).length < 13 := by have := dd_len (isort q); rw [isort_length] at this; unfold norm; omega
    rw [if_pos (by omega), if_pos (by rw [isort_length]; omega)]
    have ht : Lp (bpT (dd (isort q))) 0 = some (if alw q = true then .inr () else .inl ()) := by
      have := bpT_eq (o := norm q) (norm_up q) (by omega) (fun x hx => hqr x ((norm_mem q x).1 hx))
      rw [alw_congr (norm_mem q)] at this
      exact this
    rw [ht]
    cases ha : alw q with
    | true => simp only [if_true, Option.bind_some]
    | false =>
      simp only [Bool.false_eq_true, if_false, Option.bind_some]
      rw [if_pos (by omega)]; rfl
def withF (c : S_Circuit) (cls : List (List Int)) (row : List Int) : List (List Int) := c.Constraints.foldl (fun b x => addF b [litx row x]) cls
theorem foldl_addF_length {α : Type} (g : α → List Int) : ∀ (l : List α) (b : List (List Int)), b.length ≤ (l.foldl (fun b x => addF b (g x)) b).length ∧ (l.foldl (fun b x => addF b (g x)) b).length ≤ b.length + l.length
  | [], b => by simp
  | x :: l, b => by
    have h1 := foldl_addF_length g l (addF b (g x))
    have h2 := addF_length b (g x)
    rw [List.foldl_cons, List.length_cons]; omega
theorem slice_one {l : List Int} {i : Nat} {x : Int} (hx : l[i]? = some x) : slice i 1 l = [x] := by
  have hi := lt_len hx
  unfold slice
  rw [List.drop_eq_getElem_cons hi]
  rw [List.getElem?_eq_getElem hi] at hx
  rw [Option.some.inj hx]; simp
section
variable {c : S_Circuit}
structure RowC (c : S_Circuit) (row : List Int) : Prop where
  len : row.length = 1 + (size c).toNat
  val : ∀ y ∈ row, 0 ≤ y ∧ y < 10000
theorem RowC.ok {row : List Int} (h : RowC c row) : RowOk row := fun y hy => by have := h.val y hy; omega
theorem RowC.inrow {row l : List Int} (h : RowC c row) (hf : Fit c) (hl : ∀ x ∈ l, litOk (size c) x) : InRow row l := fun x hx => by
  obtain ⟨a, b⟩ := hl x hx
  have g := hf.size
  have := hf.i0
  have : 0 ≤ size c := by unfold size; omega
  rw [h.len]
  exact ⟨a, by omega, by omega⟩
theorem rows_C (hf : Fit c) {N : Nat} (h8 : N ≤ 8) : ∀ r ∈ (cnfF c false N).Lits, RowC c r := fun r hr => by
  have q := iterF_Q hf N 0 _ (by omega) (Q0 hf false)
  rw [Nat.zero_add] at q
  have v1 := q.v1
  refine ⟨q.rows r hr, fun y hy => ?_⟩
  have := iter_lits hf N 0 _ (by omega) (Q0 hf false) (fun r hr => by cases hr) r hr y hy
  omega
theorem with_loop {n : Int} {r1 : S_Cnf × Int} {s0 : List (List Int) × Int} {row : List Int} (hrow : RowC c row) (hf : Fit c) (hcl : c.Constraints.length ≤ 10) {cls : List (List Int)} (hc : cls.length < 1000000) :
    Lp (b_bmc_Clauses_L1 c n r1 s0 row) (cls, 0) = some (withF c cls row) := by
  have hb : (1000100 : Nat) ≤ big := by decide
  have main := Lp_fold (l := c.Constraints) (fun b x => addF b [litx row x]) (fun i b => b.length ≤ cls.length + i) (fun b i => (b, i)) (f := b_bmc_Clauses_L1 c n r1 s0 row) (fun b => b) (by omega) (fun i x b hx hP => by
    have hi := lt_len hx
    refine ⟨?_, by have := addF_length b [litx row x]; omega⟩
    have w1 : IntKind.wrap .i64 ((i : Int) + 1) = ((i + 1 : Nat) : Int) := wr1 (by omega)
    have hin : inC c.Constraints.length (i : Int) (((i + 1 : Nat) : Int)) := ⟨by omega, by omega, by omega⟩
    have e2 : Int.toNat (((i + 1 : Nat) : Int)) - Int.toNat ((i : Nat) : Int) = 1 := by omega
    have e3 : slice (Int.toNat ((i : Nat) : Int)) 1 c.Constraints = [x] := by rw [Int.toNat_natCast]; exact slice_one hx
    have hg := bpG_eq (cls := b) (l := [x]) (row := row) (hrow.inrow hf (fun y hy => by rw [List.mem_singleton.1 hy]; exact hf.valid.cons x (List.mem_of_getElem? hx))) hrow.val (by simp) (by omega)
    unfold b_bmc_Clauses_L1
    simp only [dec_lt hi, if_true, w1]
    rw [if_pos hin]
    have hL2 : b_bmc_Clauses_L2 c r1 row (b, (i : Int)) = bpL [x] row := by
      funext s
      unfold b_bmc_Clauses_L2 bpL
      simp only [w1, e2, e3]
      split
      · exact bcongr fun v => by cases v <;> rfl
      · rfl
    rw [hL2]
    refine (obind (o' := some (addF b [litx row x])) ?_).trans rfl
    have hg' : bpG b [x] row = some (addF b [litx row x]) := hg
    rw [← hg']
    unfold bpG
    refine bcongr fun v => ?_
    cases v with
    | inr v => rfl
    | inl v =>
      show (if v.length < 13 then if (isort v).length < 1000000 then (Lp (bpT (dd (isort v))) 0).bind _ else none else none) = (if v.length < 13 then if (isort v).length < 1000000 then (Lp (bpT (dd (isort v))) 0).bind _ else none else none)
      split
      · split
        · exact bcongr fun u => by cases u <;> rfl
        · rfl
      · rfl) (fun b hP => by
    unfold b_bmc_Clauses_L1
    simp only [dec_ge, Bool.false_eq_true, if_false]) cls (Nat.le_refl _)
  exact main.1
end
end Go.Proofs.Ytbmhmfcjjhjkgaa.Vm
