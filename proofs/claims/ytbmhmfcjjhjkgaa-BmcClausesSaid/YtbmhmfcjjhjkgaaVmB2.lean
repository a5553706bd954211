/- BmcClauses: both sides answer the same. -/
import Derived.Test.YtbmhmfcjjhjkgaaVmB1
import Derived.Test.YtbmhmfcjjhjkgaaVmL1
namespace Go.Proofs.Ytbmhmfcjjhjkgaa.Vm
open Go
set_option linter.unusedVariables false
set_option linter.unusedSimpArgs false
section
variable {c : S_Circuit}
theorem withF_length (row : List Int) (cls : List (List Int)) : cls.length ≤ (withF c cls row).length ∧ (withF c cls row).length ≤ cls.length + c.Constraints.length := foldl_addF_length (fun x => [litx row x]) c.Constraints cls
theorem rows_loop {n : Int} {r1 : S_Cnf × Int} (hf : Fit c) (hcl : c.Constraints.length ≤ 10) (hrows : ∀ r ∈ r1.1.Lits, RowC c r) (hl : r1.1.Lits.length ≤ 100) {cls : List (List Int)} (hc : cls.length < 100000) :
    Lp (b_bmc_Clauses_L0 c n r1) (cls, 0) = some (r1.1.Lits.foldl (withF c) cls) := by
  have main := Lp_fold (l := r1.1.Lits) (withF c) (fun i b => b.length ≤ cls.length + 10 * i ∧ i ≤ 100) (fun b i => (b, i)) (f := b_bmc_Clauses_L0 c n r1) (fun b => b) (by omega) (fun i row b hx hP => by
    have hi := lt_len hx
    refine ⟨?_, by have := withF_length (c := c) row b; omega, by omega⟩
    unfold b_bmc_Clauses_L0
    simp only [dec_lt hi, if_true]
    rw [idx_nat', hx]
    simp only [Option.bind_some, with_loop (hrows row (List.mem_of_getElem? hx)) hf hcl (show b.length < 1000000 by omega)]) (fun b hP => by
    unfold b_bmc_Clauses_L0
    simp only [dec_ge, Bool.false_eq_true, if_false]) cls ⟨by omega, by omega⟩
  exact main.1
theorem rows_length : ∀ (rows : List (List Int)) (cls : List (List Int)), (rows.foldl (withF c) cls).length ≤ cls.length + c.Constraints.length * rows.length
  | [], cls => by simp
  | r :: rows, cls => by
    have h1 := rows_length rows (withF c cls r)
    have h2 := (withF_length (c := c) r cls).2
    rw [List.foldl_cons, List.length_cons, Nat.mul_succ]; omega
theorem Told_eq {row l : List Int} (hl : InRow row l) (hr : RowOk row) (hn : l.length < 1000) : s_ref36_Told row l = some (l.map (litx row)) := by
  have hb : (1000 : Nat) ≤ big := by decide
  unfold s_ref36_Told
  rw [Lp_map (l := l) (litx row) (f := b_ref36_Told_L0 row l) (fun b => b) (by omega) (fun i x b hx hP => by
    have hi := lt_len hx
    obtain ⟨a0, a1, a2⟩ := hl x (List.mem_of_getElem? hx)
    unfold b_ref36_Told_L0
    simp only [dec_lt hi, if_true]
    rw [idx_nat', hx]
    simp only [Option.bind_some, ref_lit_eq a0 a1 a2 hr]
    rw [if_pos (by omega)]) (fun b => by unfold b_ref36_Told_L0; simp only [dec_ge]; rfl)]
  rfl
theorem lit_ok {row l : List Int} (hl : InRow row l) (hr : ∀ y ∈ row, 0 ≤ y ∧ y < 10000) : RowOk (l.map (litx row)) := fun x hx => by
  obtain ⟨y, hy, rfl⟩ := List.mem_map.1 hx
  obtain ⟨a0, a1, a2⟩ := hl y hy
  have := hr _ (List.mem_of_getElem? (getD_some a2))
  unfold litx
  split
  · unfold notI; split <;> omega
  · omega
theorem ref_with {r0 : S_Cnf × Int} {row : List Int} (hrow : RowC c row) (hf : Fit c) (hcl : c.Constraints.length ≤ 10) (k : Nat) {cls : List (List Int)} (hc : cls.length < 1000000) :
    Lp (b_ref36_Made_L1 c r0 row) (k, cls, 0) = some (k, withF c cls row) := by
  have hb : (1000100 : Nat) ≤ big := by decide
  have main := Lp_fold (l := c.Constraints) (fun b x => addF b [litx row x]) (fun i b => b.length ≤ cls.length + i) (fun b i => (k, b, i)) (f := b_ref36_Made_L1 c r0 row) (fun b => (k, b)) (by omega) (fun i x b hx hP => by
    have hi := lt_len hx
    refine ⟨?_, by have := addF_length b [litx row x]; omega⟩
    have w1 : IntKind.wrap .i64 ((i : Int) + 1) = ((i + 1 : Nat) : Int) := wr1 (by omega)
    have hin : inC c.Constraints.length (i : Int) (((i + 1 : Nat) : Int)) := ⟨by omega, by omega, by omega⟩
    have e2 : Int.toNat (((i + 1 : Nat) : Int)) - Int.toNat ((i : Nat) : Int) = 1 := by omega
    have e3 : slice (Int.toNat ((i : Nat) : Int)) 1 c.Constraints = [x] := by rw [Int.toNat_natCast]; exact slice_one hx
    have hir : InRow row [x] := hrow.inrow hf (fun y hy => by rw [List.mem_singleton.1 hy]; exact hf.valid.cons x (List.mem_of_getElem? hx))
    unfold b_ref36_Made_L1 w_ref22_Put_u5
    simp only [dec_lt hi, if_true, w1]
    rw [if_pos hin]
    simp only [e2, e3, Told_eq hir hrow.ok (show [x].length < 1000 by simp), Option.bind_some]
    rw [put_eq (cls := b) (by simp) (lit_ok hir hrow.val) (by omega)]
    rfl) (fun b hP => by
    unfold b_ref36_Made_L1
    simp only [dec_ge, Bool.false_eq_true, if_false]) cls (Nat.le_refl _)
  exact main.1
theorem ref_rows {r0 : S_Cnf × Int} (hf : Fit c) (hcl : c.Constraints.length ≤ 10) (hrows : ∀ r ∈ r0.1.Lits, RowC c r) (hl : r0.1.Lits.length ≤ 100) {n : Int} (hn : (r0.1.Lits.length : Int) = n + 1) {cls : List (List Int)} (hc : cls.length < 100000) :
    Lp (b_ref36_Made_L0 c n r0) (cls, 0) = some (r0.1.Lits.foldl (withF c) cls) := by
  have main := Lp_fold (l := r0.1.Lits) (withF c) (fun i b => b.length ≤ cls.length + 10 * i ∧ i ≤ 100) (fun b i => (b, i)) (f := b_ref36_Made_L0 c n r0) (fun b => b) (by omega) (fun i row b hx hP => by
    have hi := lt_len hx
    refine ⟨?_, by have := withF_length (c := c) row b; omega, by omega⟩
    have e : decide ((i : Int) ≤ n) = true := decide_eq_true (by omega)
    unfold b_ref36_Made_L0
    simp only [e, if_true]
    rw [idx_nat', hx]
    simp only [Option.bind_some, ref_with (hrows row (List.mem_of_getElem? hx)) hf hcl b.length (show b.length < 1000000 by omega)]) (fun b hP => by
    have e : decide ((r0.1.Lits.length : Int) ≤ n) = false := decide_eq_false (by omega)
    unfold b_ref36_Made_L0
    simp only [e, Bool.false_eq_true, if_false]) cls ⟨by omega, by omega⟩
  exact main.1
noncomputable def clausesF (c : S_Circuit) (n : Int) : List (List Int) :=
  addF ((cnfF c false (n + 1).toNat).Lits.foldl (withF c) (cnfF c false (n + 1).toNat).Clauses) (c.Bads.map (litx ((cnfF c false (n + 1).toNat).Lits.getD n.toNat [])))
noncomputable def bmcF (c : S_Circuit) (n : Int) : S_Cnf × Int :=
  if chk c ≠ 0 then (⟨0, [], []⟩, chk c) else if n < 0 ∨ n ≥ 100 then (⟨0, [], []⟩, 2) else
    if decide (((clausesF c n).length : Int) > 20000) = true then (⟨0, [], []⟩, 4) else (⟨(cnfF c false (n + 1).toNat).Vars, (cnfF c false (n + 1).toNat).Lits, clausesF c n⟩, 0)
theorem asked_eq (hr : RC c) (hf : Few c) (n : Int) : s_bmc_asked c n 0 = some (if chk c ≠ 0 then chk c else if n < 0 ∨ n ≥ 100 then 2 else 0) ∧ s_ref36_asked c n 0 = some (if chk c ≠ 0 then chk c else if n < 0 ∨ n ≥ 100 then 2 else 0) := by
  unfold s_bmc_asked s_ref36_asked
  rw [gates_Check_eq hr hf, ref_Check_eq hr hf]
  simp only [Option.bind_some]
  have e0 : decide ((0 : Int) < 0) = false := rfl
  have e1 : decide ((0 : Int) > 100000) = false := rfl
  by_cases h : chk c = 0
  · have e : (chk c != 0) = false := by simpa using h
    have e9 : ((0 : Int) != 0) = false := rfl
    simp only [e, Bool.false_eq_true, if_false, h, ne_eq, not_true_eq_false, e0, e1, e9]
    by_cases h1 : n < 0
    · simp only [h1, decide_true, if_true, Option.bind_some, true_or, and_self]
    · by_cases h2 : n ≥ 100
      · simp only [h1, h2, decide_true, decide_false, Bool.false_eq_true, if_false, if_true, Option.bind_some, or_true, and_self]
      · simp only [h1, h2, decide_false, Bool.false_eq_true, if_false, Option.bind_some, or_self, and_self]
  · have e : (chk c != 0) = true := by simpa using h
    simp only [e, if_true, ne_eq, h, not_false_eq_true, and_self]
structure Small (c : S_Circuit) : Prop where
  fit : Fit c
  bads : c.Bads.length ≤ 10
  cons : c.Constraints.length ≤ 10
theorem last_mem {n : Int} (hf : Fit c) (h0 : 0 ≤ n) (h5 : n ≤ 5) : (cnfF c false (n + 1).toNat).Lits.length = (n + 1).toNat ∧ (cnfF c false (n + 1).toNat).Lits[n.toNat]? = some ((cnfF c false (n + 1).toNat).Lits.getD n.toNat []) := by
  have q := iterF_Q hf (n + 1).toNat 0 _ (by omega) (Q0 hf false)
  rw [Nat.zero_add] at q
  have hl : (cnfF c false (n + 1).toNat).Lits.length = (n + 1).toNat := q.lits
  have hn : n.toNat < (cnfF c false (n + 1).toNat).Lits.length := by omega
  exact ⟨hl, by rw [List.getD_eq_getElem?_getD, List.getElem?_eq_getElem hn]; rfl⟩
theorem cls_few {n : Int} (hf : Fit c) (h0 : 0 ≤ n) (h5 : n ≤ 5) : (cnfF c false (n + 1).toNat).Clauses.length ≤ 1440 := by
  have q := iterF_Q hf (n + 1).toNat 0 _ (by omega) (Q0 hf false)
  rw [Nat.zero_add] at q
  have := q.cls
  show (iterF c (n + 1).toNat _).2.2.1.length ≤ _
  omega
theorem bmc_eq (hr : RC c) (hf : Few c) (hs : chk c = 0 → Small c) {n : Int} (hn : n ≤ 5 ∨ n ≥ 100) (hI : RI n) : s_bmc_Clauses c n = some (bmcF c n) := by
  have hb : (200000 : Nat) ≤ big := by decide
  unfold s_bmc_Clauses bmcF
  rw [(asked_eq hr hf n).1]
  simp only [Option.bind_some]
  by_cases h : chk c = 0
  · obtain ⟨fit, hbd, hcn⟩ := hs h
    simp only [h, ne_eq, not_true_eq_false, if_false]
    by_cases h1 : n < 0 ∨ n ≥ 100
    · simp only [h1, if_true]; rfl
    · have e0 : ((0 : Int) != 0) = false := rfl
      have w1 : IntKind.wrap .i64 (n + 1) = (((n + 1).toNat : Nat) : Int) := by rw [wr (by omega) (by omega)]; omega
      have hof := unroll_Of_eq hr hf (fun _ => fit) (n := (((n + 1).toNat : Nat) : Int)) (.inl (by omega))
      unfold answer at hof
      rw [if_neg (by simp [h]), if_neg (by omega), Int.toNat_natCast] at hof
      obtain ⟨hl, hlast⟩ := last_mem (c := c) fit (show 0 ≤ n by omega) (by omega)
      have hcls := cls_few (c := c) fit (show 0 ≤ n by omega) (by omega)
      have hrows := rows_C (c := c) fit (N := (n + 1).toNat) (by omega)
      have hrow := hrows _ (List.mem_of_getElem? hlast)
      simp only [h1, if_false, e0, Bool.false_eq_true, w1, hof, Option.bind_some]
      rw [rows_loop (r1 := (cnfF c false (n + 1).toNat, 0)) fit hcn hrows (by rw [hl]; omega) (by omega)]
      simp only [Option.bind_some]
      have hidx : idx (cnfF c false (n + 1).toNat).Lits n = some ((cnfF c false (n + 1).toNat).Lits.getD n.toNat []) := idx_of (by omega) hlast
      rw [hidx]
      simp only [Option.bind_some]
      have hlen := rows_length (c := c) (cnfF c false (n + 1).toNat).Lits (cnfF c false (n + 1).toNat).Clauses
      have hmul : c.Constraints.length * (cnfF c false (n + 1).toNat).Lits.length ≤ 10 * 10 := Nat.mul_le_mul hcn (by omega)
      have hg := bpG_eq (cls := (cnfF c false (n + 1).toNat).Lits.foldl (withF c) (cnfF c false (n + 1).toNat).Clauses) (l := c.Bads) (row := (cnfF c false (n + 1).toNat).Lits.getD n.toNat []) (hrow.inrow fit fit.valid.bads) hrow.val (by omega) (by omega)
      refine (obind (o' := some (clausesF c n)) ?_).trans ?_
      · refine Eq.trans ?_ hg
        unfold bpG
        have hL4 : ∀ cls, b_bmc_Clauses_L4 c (cnfF c false (n + 1).toNat, 0) cls ((cnfF c false (n + 1).toNat).Lits.getD n.toNat []) = bpL c.Bads ((cnfF c false (n + 1).toNat).Lits.getD n.toNat []) := fun cls => by
          funext s
          unfold b_bmc_Clauses_L4 bpL
          split
          · exact bcongr fun v => by cases v <;> rfl
          · rfl
        rw [hL4]
        refine bcongr fun v => ?_
        cases v with
        | inr v => rfl
        | inl v =>
          show (if v.length < 13 then if (isort v).length < 1000000 then (Lp (bpT (dd (isort v))) 0).bind _ else none else none) = (if v.length < 13 then if (isort v).length < 1000000 then (Lp (bpT (dd (isort v))) 0).bind _ else none else none)
          split
          · split
            · exact bcongr fun u => by cases u <;> rfl
            · rfl
          · rfl
      simp only [Option.bind_some]
      split <;> rfl
  · have e : (chk c != 0) = true := by simpa using h
    simp only [ne_eq, h, not_false_eq_true, if_true, e]
theorem ref_bmc_eq (hr : RC c) (hf : Few c) (hs : chk c = 0 → Small c) {n : Int} (hn : n ≤ 5 ∨ n ≥ 100) (hI : RI n) : s_ref36_Clauses c n = some (bmcF c n) := by
  have hb : (200000 : Nat) ≤ big := by decide
  unfold s_ref36_Clauses bmcF
  rw [(asked_eq hr hf n).2]
  simp only [Option.bind_some]
  by_cases h : chk c = 0
  · obtain ⟨fit, hbd, hcn⟩ := hs h
    simp only [h, ne_eq, not_true_eq_false, if_false]
    by_cases h1 : n < 0 ∨ n ≥ 100
    · simp only [h1, if_true]; rfl
    · have e0 : ((0 : Int) != 0) = false := rfl
      have w1 : IntKind.wrap .i64 (n + 1) = (((n + 1).toNat : Nat) : Int) := by rw [wr (by omega) (by omega)]; omega
      have hof := ref_Asked_eq hr hf (fun _ => fit) (n := (((n + 1).toNat : Nat) : Int)) (.inl (by omega)) false
      unfold answer at hof
      rw [if_neg (by simp [h]), if_neg (by omega), Int.toNat_natCast] at hof
      obtain ⟨hl, hlast⟩ := last_mem (c := c) fit (show 0 ≤ n by omega) (by omega)
      have hcls := cls_few (c := c) fit (show 0 ≤ n by omega) (by omega)
      have hrows := rows_C (c := c) fit (N := (n + 1).toNat) (by omega)
      have hrow := hrows _ (List.mem_of_getElem? hlast)
      have hmul : c.Constraints.length * (cnfF c false (n + 1).toNat).Lits.length ≤ 10 * 10 := Nat.mul_le_mul hcn (by omega)
      have hlen := rows_length (c := c) (cnfF c false (n + 1).toNat).Lits (cnfF c false (n + 1).toNat).Clauses
      have hir := hrow.inrow fit fit.valid.bads
      have hidx : idx (cnfF c false (n + 1).toNat).Lits n = some ((cnfF c false (n + 1).toNat).Lits.getD n.toNat []) := idx_of (by omega) hlast
      simp only [h1, if_false, e0, Bool.false_eq_true]
      unfold s_ref36_Made s_ref23_Of
      simp only [w1, hof, Option.bind_some, e0, Bool.false_eq_true, if_false]
      rw [ref_rows (r0 := (cnfF c false (n + 1).toNat, 0)) fit hcn hrows (by rw [hl]; omega) (by rw [hl]; omega) (by omega)]
      simp only [Option.bind_some, hidx, Told_eq hir hrow.ok (show c.Bads.length < 1000 by omega)]
      unfold w_ref22_Put_u6
      have hp := put_eq (cls := (cnfF c false (n + 1).toNat).Lits.foldl (withF c) (cnfF c false (n + 1).toNat).Clauses) (l := c.Bads.map (litx ((cnfF c false (n + 1).toNat).Lits.getD n.toNat []))) (by rw [List.length_map]; omega) (lit_ok hir hrow.val) (by omega)
      have hq : ∀ (cls : List (List Int)) (l : List Int), ((s_ref13_Has l 1).bind fun r0 => if r0 = true then some (cls.length, cls) else (s_ref13_Without l 0).bind fun r1 => (s_ref13_Always r1).bind fun r2 => if r2 = true then some (cls.length, cls) else (s_ref13_Sorted r1).bind fun r3 =>
          if cls.length + 1 ≤ big then some (cls.length, (cls ++ ([r3] : List (List Int)))) else none) =
          (((s_ref13_Has l 1).bind fun r0 => if r0 = true then some cls else (s_ref13_Without l 0).bind fun r1 => (s_ref13_Always r1).bind fun r2 => if r2 = true then some cls else (s_ref13_Sorted r1).bind fun r3 =>
          if cls.length + 1 ≤ big then some (cls ++ ([r3] : List (List Int))) else none).map fun x => (cls.length, x)) := fun cls l => by
        cases s_ref13_Has l 1 with
        | none => rfl
        | some r0 =>
          simp only [Option.bind_some]
          split
          · rfl
          · cases s_ref13_Without l 0 with
            | none => rfl
            | some r1 =>
              simp only [Option.bind_some]
              cases s_ref13_Always r1 with
              | none => rfl
              | some r2 =>
                simp only [Option.bind_some]
                split
                · rfl
                · cases s_ref13_Sorted r1 with
                  | none => rfl
                  | some r3 =>
                    simp only [Option.bind_some]
                    split <;> rfl
      rw [hq, hp]
      simp only [Option.map_some, Option.bind_some]
      show ((if decide (((clausesF c n).length : Int) > 20000) = true then _ else _ : Option (S_Cnf × Int)).bind _) = _
      split <;> rfl
  · have e : (chk c != 0) = true := by simpa using h
    simp only [ne_eq, h, not_false_eq_true, if_true, e]
theorem twin_eq (hf : Few c) : s_ref02_Twin c = some c := by
  have hb : (1000 : Nat) ≤ big := by decide
  obtain ⟨f1, f2, f3, f4⟩ := hf
  unfold s_ref02_Twin
  rw [if_pos (by simp; omega), if_pos (by simp; omega), if_pos (by simp; omega), if_pos (by simp; omega)]
  simp
theorem sameInts_self (l : List Int) (hl : l.length < 1000000) : s_ref02_SameInts l l = some true := by
  unfold s_ref02_SameInts
  simp only [bne_self_eq_false, Bool.false_eq_true, if_false]
  rw [Lp_all (l := l) (f := b_ref02_SameInts_L0 l l) (r0 := .inl ()) (by omega) (fun i x hx => by
    have hi := lt_len hx
    unfold b_ref02_SameInts_L0
    simp only [dec_lt hi, if_true]
    rw [idx_nat', hx]
    simp only [Option.bind_some, bne_self_eq_false, Bool.false_eq_true, if_false]) (by unfold b_ref02_SameInts_L0; simp only [dec_ge]; rfl)]
  rfl
theorem same02_self (hf : Few c) : s_ref02_Same c c = some true := by
  obtain ⟨f1, f2, f3, f4⟩ := hf
  unfold s_ref02_Same
  simp only [bne_self_eq_false, Bool.false_eq_true, if_false, sameInts_self c.Bads (by omega), sameInts_self c.Constraints (by omega), Option.bind_some, if_true, Bool.not_true]
  rw [Lp_all (l := c.Latches) (f := b_ref02_Same_L0 c c) (r0 := .inl ()) (by omega) (fun i x hx => by
    have hi := lt_len hx
    unfold b_ref02_Same_L0
    simp only [dec_lt hi, if_true]
    rw [idx_nat', hx]
    simp only [Option.bind_some, BEq.rfl, if_true, Bool.false_eq_true, if_false]) (by unfold b_ref02_Same_L0; simp only [dec_ge]; rfl)]
  simp only [Option.bind_some]
  rw [Lp_all (l := c.Ands) (f := b_ref02_Same_L1 c c) (r0 := .inl ()) (by omega) (fun i x hx => by
    have hi := lt_len hx
    unfold b_ref02_Same_L1
    simp only [dec_lt hi, if_true]
    rw [idx_nat', hx]
    simp only [Option.bind_some, BEq.rfl, if_true, Bool.false_eq_true, if_false]) (by unfold b_ref02_Same_L1; simp only [dec_ge]; rfl)]
  rfl
theorem great36_cases (hr : RC c) : ∃ b, s_ref36_Great c = some b ∧ (b = false → Few c ∧ (chk c = 0 → Small c)) := by
  unfold s_ref36_Great s_ref02_Great s_ref02_Size
  by_cases h1 : (c.Latches.length : Int) > 60
  · exact ⟨true, by simp only [h1, decide_true, if_true, Option.bind_some], fun h => (by cases h)⟩
  by_cases h2 : (c.Ands.length : Int) > 120
  · exact ⟨true, by simp only [h1, h2, decide_true, decide_false, Bool.false_eq_true, if_false, if_true, Option.bind_some], fun h => (by cases h)⟩
  by_cases h3 : (c.Bads.length : Int) > 110
  · exact ⟨true, by simp only [h1, h2, h3, decide_true, decide_false, Bool.false_eq_true, if_false, if_true, Option.bind_some], fun h => (by cases h)⟩
  by_cases h4 : (c.Constraints.length : Int) > 110
  · exact ⟨true, by simp only [h1, h2, h3, h4, decide_true, decide_false, Bool.false_eq_true, if_false, if_true, Option.bind_some], fun h => (by cases h)⟩
  have few : Few c := ⟨by omega, by omega, by omega, by omega⟩
  by_cases h5 : c.Inputs > 40 ∧ c.Inputs < 996
  · exact ⟨true, by simp only [h1, h2, h3, h4, h5.1, h5.2, decide_true, decide_false, Bool.false_eq_true, if_false, if_true, Option.bind_some], fun h => (by cases h)⟩
  have e5 : (if decide (c.Inputs > 40) = true then some (decide (c.Inputs < 996)) else some false) = some false := by
    by_cases h6 : c.Inputs > 40
    · have h7 : ¬ c.Inputs < 996 := fun e => h5 ⟨h6, e⟩
      simp only [h6, h7, decide_true, decide_false, if_true]
    · simp only [h6, decide_false, Bool.false_eq_true, if_false]
  by_cases hc : chk c = 0
  · have hfit : ∀ (h : ¬ (IntKind.wrap .i64 (IntKind.wrap .i64 (c.Inputs + (c.Latches.length : Int)) + (c.Ands.length : Int)) > 40)), Fit c := fun h => chk_fit hc (by omega) few
    by_cases h7 : IntKind.wrap .i64 (IntKind.wrap .i64 (c.Inputs + (c.Latches.length : Int)) + (c.Ands.length : Int)) > 40
    · exact ⟨true, by simp only [h1, h2, h3, h4, h7, decide_true, decide_false, Bool.false_eq_true, if_false, e5, Option.bind_some, ref_Check_eq hr few, hc, BEq.rfl, if_true], fun h => (by cases h)⟩
    by_cases h8 : (c.Bads.length : Int) > 10
    · exact ⟨true, by simp only [h1, h2, h3, h4, h7, h8, decide_true, decide_false, Bool.false_eq_true, if_false, e5, Option.bind_some, ref_Check_eq hr few, hc, BEq.rfl, if_true], fun h => (by cases h)⟩
    refine ⟨decide ((c.Constraints.length : Int) > 10), by simp only [h1, h2, h3, h4, h7, h8, decide_false, Bool.false_eq_true, if_false, e5, Option.bind_some, ref_Check_eq hr few, hc, BEq.rfl, if_true], fun h => ⟨few, fun _ => ⟨hfit h7, by omega, ?_⟩⟩⟩
    have := of_decide_eq_false h
    omega
  · have e : (chk c == 0) = false := by simpa using hc
    refine ⟨false, by simp only [h1, h2, h3, h4, decide_false, Bool.false_eq_true, if_false, e5, Option.bind_some, ref_Check_eq hr few, e], fun _ => ⟨few, fun h => absurd h hc⟩⟩
end
end Go.Proofs.Ytbmhmfcjjhjkgaa.Vm
