/- QueueNames. -/
import Derived.Test.YtkhgnkfdpabflaaVmN12
import Derived.Test.YtkhgnkfdpabflaaVmD1QueueNames
namespace Go.Proofs.Ytkhgnkfdpabflaa.Vm
open Go
set_option linter.unusedVariables false
set_option linter.unusedSimpArgs false
theorem bad_may {q : List S_Wait} {w : S_Wait} (hl : q.length ≤ 1000) (hw : w ∈ q) (hm : mayB w = false) : chkQ q = 8 := chkQ_bad hl fun h => by rw [h.1 w hw] at hm; cases hm
theorem bad_order {a b : S_Wait} (h : lessB b a = true) : chkQ [a, b] = 8 := chkQ_bad (by simp) fun hg => by
  have := hg.2 0 a b rfl rfl
  rw [this] at h; cases h
theorem names_one {q : List S_Wait} (h : chkQ q = 8) : s_queue_Push q (S_Wait.mk (-1) 0) = some ([], 8) ∧ s_queue_Pop q = some (S_Wait.mk 0 0, [], 8) ∧ s_queue_Check q = some 8 := by
  refine ⟨?_, ?_, by rw [Check_eq, h]⟩
  · rw [Push_eq, pushA_bad (by rw [h]; decide), h]
  · rw [Pop_eq, popA_bad (by rw [h]; decide), h]
theorem names_arg {w : S_Wait} (h : mayB w = false) : s_queue_Push [] w = some ([], 2) := by
  rw [Push_eq, pushA_not (chkQ_good (by simp) good_nil) h]
theorem names_L0 : Lp b_law38_QueueNames_L0 0 = some (.inl ()) := by
  have step : ∀ (i : Nat) (q : List S_Wait), i < 6 → idx lit_law38_QueueNames_0 i = some q →
      chkQ q = 8 → (∀ w, q = [w] → mayB w = false) → b_law38_QueueNames_L0 i = some (.inl ((i + 1 : Nat) : Int)) := fun i q hi hq h8 hm => by
    obtain ⟨h1, h2, h3⟩ := names_one h8
    unfold b_law38_QueueNames_L0
    rw [if_pos (by simp [lit_law38_QueueNames_0]; omega), hq]
    simp only [Option.bind_some]
    rw [h1, h2, h3]
    simp only [Option.bind_some, bne_self_eq_false, Bool.false_eq_true, if_false]
    by_cases hl : q.length = 1
    · obtain ⟨w, rfl⟩ := List.length_eq_one_iff.1 hl
      have i0 : idx [w] 0 = some w := by have := idx_nat' [w] 0; simpa using this
      have e : (([w].length : Int) == 1) = true := by simp
      rw [e]
      simp only [if_true, i0, Option.bind_some]
      rw [names_arg (hm w rfl)]
      simp only [Option.bind_some, bne_self_eq_false, Bool.false_eq_true, if_false]
      rw [wr1 (by omega)]
    · have e : ((q.length : Int) == 1) = false := by simp; omega
      rw [e]
      simp only [Bool.false_eq_true, if_false, Option.bind_some]
      rw [wr1 (by omega)]
  have s0 := step 0 [S_Wait.mk (-1) 0] (by omega) rfl (bad_may (w := S_Wait.mk (-1) 0) (by simp) (by simp) rfl) (fun w h => by cases h; rfl)
  have s1 := step 1 [S_Wait.mk 61 0] (by omega) rfl (bad_may (w := S_Wait.mk 61 0) (by simp) (by simp) rfl) (fun w h => by cases h; rfl)
  have s2 := step 2 [S_Wait.mk 0 (-1)] (by omega) rfl (bad_may (w := S_Wait.mk 0 (-1)) (by simp) (by simp) rfl) (fun w h => by cases h; rfl)
  have s3 := step 3 [S_Wait.mk 0 1000] (by omega) rfl (bad_may (w := S_Wait.mk 0 1000) (by simp) (by simp) rfl) (fun w h => by cases h; rfl)
  have s4 := step 4 [S_Wait.mk 1 0, S_Wait.mk 0 0] (by omega) rfl (bad_order rfl) (fun w h => by cases h)
  have s5 := step 5 [S_Wait.mk 0 2, S_Wait.mk 0 1] (by omega) rfl (bad_order rfl) (fun w h => by cases h)
  have s6 : b_law38_QueueNames_L0 ((6 : Nat) : Int) = some (.inr (.inl ())) := by
    unfold b_law38_QueueNames_L0
    rw [if_neg (by simp [lit_law38_QueueNames_0])]
  exact Lp_to (f := b_law38_QueueNames_L0) (fun i => (i : Int)) 6 (fun i hi => by
    match i, hi with
    | 0, _ => exact s0
    | 1, _ => exact s1
    | 2, _ => exact s2
    | 3, _ => exact s3
    | 4, _ => exact s4
    | 5, _ => exact s5) s6
def one : S_Circuit := S_Circuit.mk 1 [S_Latch.mk 0 0] [] [] []
theorem one_ok : chk one = 0 := by
  unfold chk one
  rw [if_neg (by simp), if_neg (by simp [size]), if_pos ⟨by simp, by simp, fun l hl => by simp at hl; subst hl; simp [litOk, size], by simp⟩]
theorem one_RC : RC one := ⟨by simp [one, I64], by simp [one, I64], by simp [one], by simp [one], by simp [one]⟩
theorem one_Few : Few one := ⟨by simp [one], by simp [one], by simp [one], by simp [one]⟩
theorem exC_RC : RC exC := ⟨by simp [exC, I64], by simp [exC], by simp [exC], by simp [exC], by simp [exC]⟩
theorem exC_Few : Few exC := ⟨by simp [exC], by simp [exC], by simp [exC], by simp [exC]⟩
theorem okL_nil (v : Int) : okL v [] = true := okL_t fun i x hx => by simp at hx
theorem okL_one {v x : Int} (h1 : 2 ≤ x) (h2 : x / 2 ≤ v) : okL v [x] = true := okL_t fun i y hy => by
  cases i with
  | zero => simp at hy; subst hy; exact ⟨h1, h2, fun _ _ h => by omega⟩
  | succ i => simp at hy
theorem okL_big {v x : Int} (h2 : v < x / 2) : okL v [x] = false := okL_f fun h => by
  have := (h 0 x rfl).2.1
  omega
theorem names_wrong {l : List S_Obligation} (hl : l.length ≤ 1000) (hr : RO l) {i : Nat} {o : S_Obligation} (hx : l[i]? = some o) (hb : badO one i o = true) :
    s_queue_Chain one l 0 = some ([], 8) ∧ s_queue_Trace one l 0 [] [] = some (S_Trace.mk [] [], 8) ∧ s_queue_Right one l = some 8 := by
  have h := qRight_bad one_RC one_Few (by simp [one]) hl hr one_ok hx hb
  have h2 := qChain_err (n := 0) h (by decide)
  exact ⟨h2, qTrace_err h2 (by decide), h⟩
theorem names_L1 (r0 : (List S_Wait) × Int) (r1 : S_Wait × (List S_Wait) × Int) (r2 : (List S_Wait) × Int) (r3 : S_Wait × (List S_Wait) × Int) : Lp (b_law38_QueueNames_L1 r0 r1 r2 r3) 0 = some (.inl ()) := by
  have step : ∀ (i : Nat) (l : List S_Obligation), i < 5 → idx lit_law38_QueueNames_1 i = some l →
      (s_queue_Chain one l 0 = some ([], 8) ∧ s_queue_Trace one l 0 [] [] = some (S_Trace.mk [] [], 8) ∧ s_queue_Right one l = some 8) → b_law38_QueueNames_L1 r0 r1 r2 r3 i = some (.inl ((i + 1 : Nat) : Int)) := fun i l hi hq ⟨h1, h2, h3⟩ => by
    unfold one at h1 h2 h3
    unfold b_law38_QueueNames_L1
    rw [if_pos (by simp [lit_law38_QueueNames_1]; omega), hq]
    simp only [Option.bind_some]
    rw [h1, h2, h3]
    simp only [Option.bind_some, bne_self_eq_false, Bool.false_eq_true, if_false]
    rw [wr1 (by omega)]
  have s0 := step 0 [S_Obligation.mk [] [true] 0] (by omega) rfl (names_wrong (i := 0) (o := S_Obligation.mk [] [true] 0) (by simp) (by intro o ho; simp at ho; subst ho; simp [I64]) rfl (by simp [badO, one]))
  have s1 := step 1 [S_Obligation.mk [] [true] (-2)] (by omega) rfl (names_wrong (i := 0) (o := S_Obligation.mk [] [true] (-2)) (by simp) (by intro o ho; simp at ho; subst ho; simp [I64]) rfl (by simp [badO, one]))
  have s2 := step 2 [S_Obligation.mk [] [] (-1)] (by omega) rfl (names_wrong (i := 0) (o := S_Obligation.mk [] [] (-1)) (by simp) (by intro o ho; simp at ho; subst ho; simp [I64]) rfl (by simp [badO, one]))
  have s3 := step 3 [S_Obligation.mk [4] [true] (-1)] (by omega) rfl (names_wrong (i := 0) (o := S_Obligation.mk [4] [true] (-1)) (by simp) (by intro o ho; simp at ho; subst ho; simp [I64]) rfl (by
    have : okL (one.Latches.length : Int) [4] = false := okL_big (by simp [one])
    simp [badO, this]))
  have s4 := step 4 [S_Obligation.mk [] [true] (-1), S_Obligation.mk [] [true] 1] (by omega) rfl (names_wrong (i := 1) (o := S_Obligation.mk [] [true] 1) (by simp) (by intro o ho; simp at ho; rcases ho with rfl | rfl <;> simp [I64]) rfl (by simp [badO, one]))
  have s5 : b_law38_QueueNames_L1 r0 r1 r2 r3 ((5 : Nat) : Int) = some (.inr (.inl ())) := by
    unfold b_law38_QueueNames_L1
    rw [if_neg (by simp [lit_law38_QueueNames_1])]
  exact Lp_to (f := b_law38_QueueNames_L1 r0 r1 r2 r3) (fun i => (i : Int)) 5 (fun i hi => by
    match i, hi with
    | 0, _ => exact s0
    | 1, _ => exact s1
    | 2, _ => exact s2
    | 3, _ => exact s3
    | 4, _ => exact s4) s5
def two : List S_Obligation := [S_Obligation.mk [2] [true] (-1), S_Obligation.mk [3] [false] 0]
theorem two_RO : RO two := by intro o ho; simp only [two, List.mem_cons, List.not_mem_nil, or_false] at ho; rcases ho with rfl | rfl <;> simp [I64]
theorem two_good : ∀ i o, two[i]? = some o → badO one i o = false := fun i o ho => by
  match i, ho with
  | 0, ho =>
    simp [two] at ho; subst ho
    have : okL (1 : Int) [2] = true := okL_one (by omega) (by omega)
    simp [badO, this, one]
  | 1, ho =>
    simp [two] at ho; subst ho
    have : okL (1 : Int) [3] = true := okL_one (by omega) (by omega)
    simp [badO, this, one]
  | i + 2, ho => simp [two] at ho
theorem two_right : s_queue_Right one two = some 0 := qRight_ok one_RC one_Few (by simp [one]) (by simp [two]) two_RO one_ok two_good
def rowO (n : Nat) : List S_Obligation := (List.range n).map fun (k : Nat) => S_Obligation.mk [] [] ((k : Int) - 1)
theorem rowO_at {n i : Nat} {o : S_Obligation} (h : (rowO n)[i]? = some o) : i < n ∧ o = S_Obligation.mk [] [] ((i : Int) - 1) := by
  unfold rowO at h
  rw [List.getElem?_map] at h
  obtain ⟨k, hk, rfl⟩ := Option.map_eq_some_iff.1 h
  have hlt := lt_len hk
  rw [List.length_range] at hlt
  rw [List.getElem?_range hlt] at hk
  cases hk
  exact ⟨hlt, rfl⟩
theorem rowO_length (n : Nat) : (rowO n).length = n := by simp [rowO]
theorem rowO_RO {n : Nat} (hn : n ≤ 1000) : RO (rowO n) := fun o ho => by
  obtain ⟨i, hi⟩ := List.getElem?_of_mem ho
  obtain ⟨h, rfl⟩ := rowO_at hi
  exact ⟨by simp, by simp, by unfold I64; simp only; omega⟩
theorem rowO_good (n : Nat) : ∀ i o, (rowO n)[i]? = some o → badO exC i o = false := fun i o ho => by
  obtain ⟨h, rfl⟩ := rowO_at ho
  have e : decide (((i : Int) - 1) < -1) = false := by simp; omega
  have e2 : decide (((i : Int) - 1) ≥ (i : Int)) = false := by simp; omega
  unfold badO
  rw [okL_nil]
  simp only [e, e2]
  rfl
theorem rowO_right {n : Nat} (hn : n ≤ 1000) : s_queue_Right exC (rowO n) = some 0 := qRight_ok exC_RC exC_Few (by simp [exC]) (by rw [rowO_length]; exact hn) (rowO_RO hn) exC_ok (rowO_good n)
theorem rowO_ok (n : Nat) : OkO exC (rowO n) := badO_ok (rowO_good n)
theorem rowO_get {n i : Nat} (h : i < n) : (rowO n)[i]? = some (S_Obligation.mk [] [] ((i : Int) - 1)) := by
  unfold rowO
  rw [List.getElem?_map, List.getElem?_range h]
  rfl
theorem rowO_chain {n : Nat} : ∀ k : Nat, k < n → (chain (rowO n) k).length = k + 1
  | 0, h => by
    rw [chain_cons (rowO_ok n) (n := ((0 : Nat) : Int)) (by omega) (rowO_get h), chain_neg (by simp)]
    rfl
  | k + 1, h => by
    rw [chain_cons (rowO_ok n) (n := ((k + 1 : Nat) : Int)) (by omega) (by rw [Int.toNat_natCast]; exact rowO_get h)]
    have e : (((k + 1 : Nat) : Int) - 1) = (k : Int) := by omega
    have ih := rowO_chain (n := n) k (by omega)
    simp only [List.length_cons, e, ih]
theorem names_long (r0 : (List S_Wait) × Int) (r1 : S_Wait × (List S_Wait) × Int) (r2 : (List S_Wait) × Int) (r3 : S_Wait × (List S_Wait) × Int) (r4 : (List Int) × Int) (r5 : (List Int) × Int) (r6 r7 r8 : S_Trace × Int) : Lp (b_law38_QueueNames_L2 r0 r1 r2 r3 r4 r5 r6 r7 r8) ([], 0) = some (rowO 100) := by
  have := Lp_to (f := b_law38_QueueNames_L2 r0 r1 r2 r3 r4 r5 r6 r7 r8) (fun i => (rowO i, (i : Int))) 100 (r := rowO 100) (fun i hi => by
    unfold b_law38_QueueNames_L2
    rw [if_pos (by simp; omega), if_pos (by rw [rowO_length]; unfold big; omega), wr (n := (i : Int) - 1) (by omega) (by omega), wr1 (by omega)]
    have : rowO (i + 1) = rowO i ++ [S_Obligation.mk [] [] ((i : Int) - 1)] := by simp [rowO, List.range_succ]
    rw [this]) (by
    unfold b_law38_QueueNames_L2
    rw [if_neg (by simp)])
  exact this
theorem zeros_good (n : Nat) : GoodQ (List.replicate n (S_Wait.mk 0 0)) := ⟨fun w hw => by rw [List.eq_of_mem_replicate hw]; rfl, fun i x y hx hy => by
  rw [List.eq_of_mem_replicate (List.mem_of_getElem? hx), List.eq_of_mem_replicate (List.mem_of_getElem? hy)]; rfl⟩
theorem mkn_nat (n : Nat) (h : n ≤ big) : mkn (n : Int) = some n := by unfold mkn; unfold big at *; simp; omega
theorem plain_QueueNames : s_law38_QueueNames = some true := by
  unfold s_law38_QueueNames
  rw [names_L0]
  simp only [Option.bind_some]
  have m0 := mkn_nat 1000 (by unfold big; omega)
  have m1 := mkn_nat 1001 (by unfold big; omega)
  have m0 : mkn 1000 = some 1000 := m0
  have m1 : mkn 1001 = some 1001 := m1
  rw [m0, m1]
  simp only [Option.bind_some]
  have k0 : chkQ (List.replicate 1000 (S_Wait.mk 0 0)) = 0 := chkQ_good (by rw [List.length_replicate]; omega) (zeros_good 1000)
  have p0 : s_queue_Push (List.replicate 1000 (S_Wait.mk 0 0)) (S_Wait.mk 0 0) = some ([], 4) := by rw [Push_eq, pushA_full k0 rfl List.length_replicate]
  have p1 : s_queue_Pop (List.replicate 1000 (S_Wait.mk 0 0)) = some (S_Wait.mk 0 0, List.replicate 999 (S_Wait.mk 0 0), 0) := by
    rw [Pop_eq]
    have e : List.replicate 1000 (S_Wait.mk 0 0) = S_Wait.mk 0 0 :: List.replicate 999 (S_Wait.mk 0 0) := rfl
    rw [e] at k0 ⊢
    rw [popA_cons k0]
  have p2 : s_queue_Push (List.replicate 1000 (S_Wait.mk 0 0) ++ [S_Wait.mk 0 0]) (S_Wait.mk 0 0) = some ([], 4) := by
    have k1 : chkQ (List.replicate 1000 (S_Wait.mk 0 0) ++ [S_Wait.mk 0 0]) = 4 := by unfold chkQ; rw [if_pos (by rw [List.length_append, List.length_replicate]; simp)]
    rw [Push_eq, pushA_bad (by rw [k1]; decide), k1]
  have p3 : s_queue_Pop [] = some (S_Wait.mk 0 0, [], 6) := by rw [Pop_eq, popA_nil]
  rw [p0, p1, p2, p3]
  simp only [Option.bind_some]
  rw [if_pos (by rw [List.length_replicate]; unfold big; omega), names_L1]
  simp only [Option.bind_some]
  have c1 := qChain_arg (n := 2) two_right (.inr (by simp [two]))
  have c2 := qChain_arg (n := -1) two_right (.inl (by omega))
  have c3 := qChain_eq (n := 1) two_right (badO_ok two_good) (by simp [two]) (by omega) (by simp [two])
  have t1 := qTrace_arg (st := []) (is := [true]) c3 (.inl (by simp [one]))
  have t2 := qTrace_arg (st := [true]) (is := []) c3 (.inr (by simp [one]))
  have ec : chain two 1 = [1, 0] := by rfl
  have t3 := qTrace_ok (n := 1) (st := [true]) (is := [true]) (badO_ok two_good) two_right (by simp [two]) (by omega) (by simp [two]) (by simp [one]) (by simp [one]) (by rw [ec]; simp) (by simp) (by simp)
  have et : [[true]] ++ (chain two 1).map (inp two) = [[true], [false], [true]] := by rw [ec]; rfl
  rw [et] at t3
  unfold one two at c1 c2 t1 t2 t3
  rw [c1, c2, t1, t2, t3]
  simp only [Option.bind_some]
  rw [names_long ([], 4) (S_Wait.mk 0 0, List.replicate 999 (S_Wait.mk 0 0), 0) ([], 4) (S_Wait.mk 0 0, [], 6) ([], 2) ([], 2) (S_Trace.mk [] [], 2) (S_Trace.mk [] [], 2) (S_Trace.mk [true] [[true], [false], [true]], 0)]
  simp only [Option.bind_some]
  have l1 := rowO_chain (n := 100) 99 (by omega)
  have l2 := rowO_chain (n := 100) 98 (by omega)
  have d1 := qChain_eq (n := 99) (rowO_right (n := 100) (by omega)) (rowO_ok 100) (by rw [rowO_length]; omega) (by omega) (by rw [rowO_length]; omega)
  have t4 := qTrace_many (st := []) (is := []) d1 (by simp [exC]) (by simp [exC]) (by rw [show ((99 : Int)) = ((99 : Nat) : Int) from rfl, l1]; omega)
  have t5 := qTrace_ok (n := 98) (st := []) (is := []) (rowO_ok 100) (rowO_right (n := 100) (by omega)) (by rw [rowO_length]; omega) (by omega) (by rw [rowO_length]; omega) (by simp [exC]) (by simp [exC]) (by rw [show ((98 : Int)) = ((98 : Nat) : Int) from rfl, l2]; omega) (by simp) (by simp)
  unfold exC at t4 t5
  rw [t4, t5]
  simp only [Option.bind_some, beq_self_eq_true, if_true, List.length_replicate]
  have r1 : s_queue_Right (S_Circuit.mk 0 [] [] [] []) (List.replicate 1001 (S_Obligation.mk [] [] 0)) = some 4 := qRight_many exC_RC exC_Few exC_ok (by rw [List.length_replicate]; omega)
  have r2 : s_queue_Right (S_Circuit.mk (-1) [] [] [] []) [] = some 8 := by
    have k : chk (S_Circuit.mk (-1) [] [] [] []) = 8 := by unfold chk; rw [if_pos (by simp)]
    rw [qRight_wrong (c := S_Circuit.mk (-1) [] [] [] []) ⟨by simp [I64], by simp, by simp, by simp, by simp⟩ ⟨by simp, by simp, by simp, by simp⟩ (by rw [k]; decide), k]
  have l3 : (([[]] ++ (chain (rowO 100) 98).map (inp (rowO 100))).length : Int) = 100 := by
    rw [show ((98 : Int)) = ((98 : Nat) : Int) from rfl, List.length_append, List.length_map, l2]; rfl
  rw [r1, r2, aliveQ_eq]
  simp only [l3, Option.bind_some, beq_self_eq_true, if_true]
  have hs : s_ref06_Same (S_Trace.mk [true] [[true], [false], [true]]) (S_Trace.mk [true] [[true], [false], [true]]) = some true := Same06_self _ (by simp) (by simp) (by simp)
  rw [hs]
  rfl
end Go.Proofs.Ytkhgnkfdpabflaa.Vm
