/- UnrollMore: more frames have what fewer have in front. -/
import Derived.Test.YtbmhmfcjjhjkgaaVmU6
import Derived.Test.YtbmhmfcjjhjkgaaVmD1UnrollMore
namespace Go.Proofs.Ytbmhmfcjjhjkgaa.Vm
open Go
set_option linter.unusedVariables false
set_option linter.unusedSimpArgs false
theorem RC_of' {c : S_Circuit} (h : R_S_Circuit c) : RC c := by
  obtain ⟨h1, ⟨_, h2⟩, ⟨_, h3⟩, ⟨_, h4⟩, _, h5⟩ := h
  exact ⟨h1, fun l hl => h2 l hl, fun a ha => h3 a ha, fun x hx => h4 x hx, fun x hx => h5 x hx⟩
theorem addF_pre (cls : List (List Int)) (l : List Int) : ∃ t, addF cls l = cls ++ t := by
  unfold addF
  split
  · exact ⟨[], by simp⟩
  · split
    · exact ⟨[], by simp⟩
    · exact ⟨_, rfl⟩
theorem gstep_pre (b : Int × List (List Int) × List Int) (x : S_And) : ∃ t, (gstep b x).2.1 = b.2.1 ++ t := by
  obtain ⟨t1, h1⟩ := addF_pre b.2.1 [notI (2 * (b.1 + 1)), litx b.2.2 x.A]
  obtain ⟨t2, h2⟩ := addF_pre (addF b.2.1 [notI (2 * (b.1 + 1)), litx b.2.2 x.A]) [notI (2 * (b.1 + 1)), litx b.2.2 x.B]
  obtain ⟨t3, h3⟩ := addF_pre (addF (addF b.2.1 [notI (2 * (b.1 + 1)), litx b.2.2 x.A]) [notI (2 * (b.1 + 1)), litx b.2.2 x.B]) [2 * (b.1 + 1), notI (litx b.2.2 x.A), notI (litx b.2.2 x.B)]
  refine ⟨t1 ++ t2 ++ t3, ?_⟩
  show addF (addF (addF b.2.1 _) _) _ = _
  rw [h3, h2, h1]; simp
theorem gfold_pre : ∀ (gs : List S_And) (b : Int × List (List Int) × List Int), ∃ t, (gs.foldl gstep b).2.1 = b.2.1 ++ t
  | [], b => ⟨[], by simp⟩
  | g :: gs, b => by
    obtain ⟨t, h⟩ := gfold_pre gs (gstep b g)
    obtain ⟨u, k⟩ := gstep_pre b g
    exact ⟨u ++ t, by rw [List.foldl_cons, h, k]; simp⟩
section
variable {c : S_Circuit}
theorem iterF_pre (hf : Fit c) : ∀ (m f : Nat) (s : FS), f + m ≤ 8 → Q c f s → (∃ t, (iterF c m s).2.1 = s.2.1 ++ t) ∧ (∃ t, (iterF c m s).2.2.1 = s.2.2.1 ++ t) ∧ s.1 ≤ (iterF c m s).1
  | 0, f, s, _, _ => ⟨⟨[], by simp [iterF]⟩, ⟨[], by simp [iterF]⟩, Int.le_refl _⟩
  | m + 1, f, s, h, hq => by
    obtain ⟨r1, r2, r3, r4⟩ := frame_range hf (by omega) hq
    obtain ⟨⟨t1, h1⟩, ⟨t2, h2⟩, h3⟩ := iterF_pre hf m (f + 1) (nextF c s) (by omega) r1
    obtain ⟨u, k⟩ := gfold_pre c.Ands ((s.2.2.2.foldl latS (insF c.Inputs.toNat (s.1, [0]))).1, s.2.2.1, (s.2.2.2.foldl latS (insF c.Inputs.toNat (s.1, [0]))).2)
    obtain ⟨_, ⟨p1, p2, p3⟩, _, ⟨p4, p5, p6⟩, _, ⟨p7, p8, p9, p10⟩⟩ := frame_parts hf (by omega) hq
    refine ⟨⟨[(frameF c s.2.2.2 s.1 s.2.2.1).2.2] ++ t1, ?_⟩, ⟨u ++ t2, ?_⟩, ?_⟩
    · show (iterF c m (nextF c s)).2.1 = _
      rw [h1]; show (s.2.1 ++ _) ++ t1 = _; simp
    · show (iterF c m (nextF c s)).2.2.1 = _
      rw [h2]
      have : (nextF c s).2.2.1 = s.2.2.1 ++ u := k
      rw [this]; simp
    · show _ ≤ (iterF c m (nextF c s)).1
      have : (nextF c s).1 = (frameF c s.2.2.2 s.1 s.2.2.1).1 := rfl
      omega
theorem iterF_add (c : S_Circuit) : ∀ (a b : Nat) (s : FS), iterF c (a + b) s = iterF c b (iterF c a s)
  | 0, b, s => by rw [Nat.zero_add]; rfl
  | a + 1, b, s => by
    rw [show a + 1 + b = (a + b) + 1 by omega]
    exact iterF_add c a b (nextF c s)
theorem iterF_none (h : c.Ands = []) : ∀ (m : Nat) (s : FS), s.2.2.1 = [] → (iterF c m s).2.2.1 = []
  | 0, s, hs => hs
  | m + 1, s, hs => by
    refine iterF_none h m (nextF c s) ?_
    show (frameF c s.2.2.2 s.1 s.2.2.1).2.1 = []
    unfold frameF
    rw [h]; exact hs
end
def turnsC : S_Circuit := ⟨0, [⟨3, 0⟩], [], [], []⟩
def oneC : S_Circuit := ⟨1, [⟨2, 0⟩], [], [], []⟩
theorem turns_eq : s_law23_turns = some turnsC := rfl
theorem mem1 {α : Type} {P : α → Prop} {a : α} (h : P a) : ∀ x ∈ [a], P x := fun x hx => by rw [List.mem_singleton.1 hx]; exact h
theorem mem0 {α : Type} {P : α → Prop} : ∀ x ∈ ([] : List α), P x := fun x hx => by cases hx
theorem turns_fit : Fit turnsC := ⟨⟨mem0, mem0, mem1 ⟨by decide, by decide, by decide⟩, fun i a h => by simp [turnsC] at h⟩, by decide, by decide⟩
theorem one_fit : Fit oneC := ⟨⟨mem0, mem0, mem1 ⟨by decide, by decide, by decide⟩, fun i a h => by simp [oneC] at h⟩, by decide, by decide⟩
theorem turns_rc : RC turnsC := ⟨⟨by decide, by decide⟩, mem1 ⟨⟨by decide, by decide⟩, by decide, by decide⟩, mem0, mem0, mem0⟩
theorem one_rc : RC oneC := ⟨⟨by decide, by decide⟩, mem1 ⟨⟨by decide, by decide⟩, by decide, by decide⟩, mem0, mem0, mem0⟩
theorem few1 {c : S_Circuit} (h : c.Latches.length ≤ 1) (h2 : c.Ands = []) (h3 : c.Bads = []) (h4 : c.Constraints = []) : Few c := ⟨by omega, by rw [h2]; simp, by rw [h3]; simp, by rw [h4]; simp⟩
theorem chk_of {c : S_Circuit} (h : Fit c) (h3 : c.Bads = []) (h4 : c.Constraints = []) : chk c = 0 := by
  have g1 := h.i0
  have g2 := h.size
  have g3 := h.len
  unfold chk
  rw [if_neg (by omega), if_neg (by rw [h3, h4]; simp; omega), if_pos h.valid]
theorem Of_val {c : S_Circuit} (hr : RC c) (hw : Few c) (hf : Fit c) (hc : chk c = 0) {n : Nat} (h1 : 1 ≤ n) (h8 : n ≤ 8) : s_unroll_Of c (n : Int) = some (cnfF c false n, 0) := by
  rw [unroll_Of_eq hr hw (fun _ => hf) (.inl (by omega))]
  unfold answer
  rw [if_neg (by simp [hc]), if_neg (by omega), Int.toNat_natCast]
theorem Free_val {c : S_Circuit} (hr : RC c) (hw : Few c) (hf : Fit c) (hc : chk c = 0) {n : Nat} (h1 : 1 ≤ n) (h8 : n ≤ 8) : s_unroll_Free c (n : Int) = some (cnfF c true n, 0) := by
  rw [unroll_Free_eq hr hw (fun _ => hf) (.inl (by omega))]
  unfold answer
  rw [if_neg (by simp [hc]), if_neg (by omega), Int.toNat_natCast]
theorem v1 : cnfF turnsC false 3 = ⟨0, [[0, 0], [0, 1], [0, 0]], []⟩ := by rfl
theorem v2 : cnfF turnsC true 3 = ⟨1, [[0, 2], [0, 3], [0, 2]], []⟩ := by rfl
theorem v3 : cnfF oneC false 3 = ⟨3, [[0, 2, 0], [0, 4, 2], [0, 6, 4]], []⟩ := by rfl
theorem alive_eq : s_law23_alive = some true := by
  have tw : Few turnsC := few1 (by decide) rfl rfl rfl
  have ow : Few oneC := few1 (by decide) rfl rfl rfl
  have tc := chk_of turns_fit rfl rfl
  have oc := chk_of one_fit rfl rfl
  have a : s_unroll_Of turnsC 3 = _ := Of_val turns_rc tw turns_fit tc (n := 3) (by decide) (by decide)
  have b : s_unroll_Free turnsC 3 = _ := Free_val turns_rc tw turns_fit tc (n := 3) (by decide) (by decide)
  have d : s_unroll_Of oneC 3 = _ := Of_val one_rc ow one_fit oc (n := 3) (by decide) (by decide)
  have t1 := Same22_self (cnf_tame turns_fit false (N := 3) (by decide))
  have t2 := Same22_self (cnf_tame turns_fit true (N := 3) (by decide))
  have t3 := Same22_self (cnf_tame one_fit false (N := 3) (by decide))
  rw [v1] at a t1
  rw [v2] at b t2
  rw [v3] at d t3
  unfold s_law23_alive
  rw [turns_eq]
  simp only [Option.bind_some, a, b]
  show ((s_unroll_Of oneC 3).bind _) = _
  rw [d]
  simp only [Option.bind_some, BEq.rfl, if_true, t1, t2, t3]
theorem more {c : S_Circuit} (hr : RC c) {p1 p2 : Int} : s_law23_UnrollMore c p1 p2 = some true := by
  obtain ⟨b, hg, hb⟩ := great_cases hr
  unfold s_law23_UnrollMore
  rw [alive_eq, hg]
  simp only [Option.bind_some]
  cases b with
  | true => simp only [if_true, Option.bind_some]
  | false =>
    obtain ⟨few, fit⟩ := hb rfl
    simp only [Bool.false_eq_true, if_false, ref_Check_eq hr few, Option.bind_some]
    by_cases hc : chk c = 0
    · have hf := fit hc
      have e0 : (chk c != 0) = false := by simpa using hc
      simp only [e0, Bool.false_eq_true, if_false]
      by_cases h1 : p1 < 1
      · simp only [h1, decide_true, if_true, Option.bind_some]
      by_cases h2 : p2 < 0
      · simp only [h1, h2, decide_true, decide_false, Bool.false_eq_true, if_false, if_true, Option.bind_some]
      by_cases h3 : p1 > 8
      · simp only [h1, h2, h3, decide_true, decide_false, Bool.false_eq_true, if_false, if_true, Option.bind_some]
      by_cases h4 : p2 > 8
      · simp only [h1, h2, h3, h4, decide_true, decide_false, Bool.false_eq_true, if_false, if_true, Option.bind_some]
      have w : IntKind.wrap .i64 (p1 + p2) = p1 + p2 := wr (by omega) (by omega)
      simp only [h1, h2, h3, h4, w, decide_false, Bool.false_eq_true, if_false]
      by_cases h5 : p1 + p2 > 8
      · simp only [h5, decide_true, if_true, Option.bind_some]
      obtain ⟨n, rfl⟩ : ∃ n : Nat, p1 = (n : Int) := ⟨p1.toNat, by omega⟩
      obtain ⟨m, rfl⟩ : ∃ m : Nat, p2 = (m : Int) := ⟨p2.toNat, by omega⟩
      have hnm : ((n : Int) + (m : Int)) = ((n + m : Nat) : Int) := by omega
      rw [hnm]
      have hgt : decide (((n + m : Nat) : Int) > 8) = false := decide_eq_false (by omega)
      simp only [hgt, Bool.false_eq_true, if_false, Option.bind_some, Bool.not_true, Of_val hr few hf hc (n := n) (by omega) (by omega), Of_val hr few hf hc (n := n + m) (by omega) (by omega)]
      have q1 := iterF_Q hf n 0 _ (by omega) (Q0 hf false)
      have q2 := iterF_Q hf (n + m) 0 _ (by omega) (Q0 hf false)
      rw [Nat.zero_add] at q1 q2
      obtain ⟨⟨t1, k1⟩, ⟨t2, k2⟩, k3⟩ := iterF_pre hf m n _ (by omega) q1
      rw [← iterF_add] at k1 k2 k3
      have x1 : (cnfF c false n).Lits.length = n := q1.lits
      have y1 : (cnfF c false (n + m)).Lits.length = n + m := q2.lits
      have k1' : (cnfF c false (n + m)).Lits = (cnfF c false n).Lits ++ t1 := k1
      have k2' : (cnfF c false (n + m)).Clauses = (cnfF c false n).Clauses ++ t2 := k2
      have k3' : (cnfF c false n).Vars ≤ (cnfF c false (n + m)).Vars := k3
      have e1 : (((cnfF c false n).Lits.length : Int) != (n : Int)) = false := by simp [x1]
      have e2 : (((cnfF c false (n + m)).Lits.length : Int) != ((n + m : Nat) : Int)) = false := by rw [y1]; simp
      have e3 : decide (((cnfF c false (n + m)).Clauses.length : Int) < ((cnfF c false n).Clauses.length : Int)) = false := decide_eq_false (by rw [k2', List.length_append]; omega)
      have e4 : decide ((cnfF c false (n + m)).Vars < (cnfF c false n).Vars) = false := decide_eq_false (by omega)
      have ez : ((0 : Int) != 0) = false := rfl
      simp only [ez, e1, e2, e3, e4, Bool.false_eq_true, if_false, Option.bind_some]
      have e5 : (if (((c.Ands.length : Int) == 0) = true) then some (decide (((cnfF c false (n + m)).Clauses.length : Int) > 0)) else some false) = some false := by
        split
        · rename_i h
          have : c.Ands = [] := by
            have : (c.Ands.length : Int) = 0 := by simpa using h
            exact List.length_eq_zero_iff.1 (by omega)
          have : (cnfF c false (n + m)).Clauses = [] := iterF_none this _ _ rfl
          rw [this]; rfl
        · rfl
      rw [e5]
      simp only [Option.bind_some, Bool.false_eq_true, if_false, if_true]
      have s1 : slice 0 (Int.toNat (n : Int)) (cnfF c false (n + m)).Lits = (cnfF c false n).Lits := by
        rw [Int.toNat_natCast, k1']; unfold slice; rw [List.drop_zero]; exact List.take_left' x1
      have s2 : slice 0 (Int.toNat ((cnfF c false n).Clauses.length : Int)) (cnfF c false (n + m)).Clauses = (cnfF c false n).Clauses := by
        rw [Int.toNat_natCast, k2']; unfold slice; simp
      obtain ⟨a1, a2, a3, a4⟩ := cnf_tame hf false (N := n) (by omega)
      have c1 : inC (cnfF c false (n + m)).Lits.length 0 (n : Int) := ⟨Int.le_refl _, by omega, by omega⟩
      have c2 : inC (cnfF c false (n + m)).Clauses.length 0 ((cnfF c false n).Clauses.length : Int) := ⟨Int.le_refl _, by omega, by rw [k2', List.length_append]; omega⟩
      rw [if_pos c1, s1, SameAll_self _ (by omega) (fun r hr => by have := a3 r hr; omega)]
      simp only [Option.bind_some, if_true]
      rw [if_pos c2, s2, SameAll_self _ (by omega) (fun r hr => by have := a4 r hr; omega)]
      rfl
    · have e0 : (chk c != 0) = true := by simpa using hc
      simp only [e0, if_true, Option.bind_some]
theorem plain_UnrollMore (c : S_Circuit) (n m : Int) (h : R_S_Circuit c) (_ : RI n) (_ : RI m) : s_law23_UnrollMore c n m = some true := more (RC_of' h)
end Go.Proofs.Ytbmhmfcjjhjkgaa.Vm
