/- Of and Free: the program's and the reference's clauses are the same. -/
import Derived.Test.YtbmhmfcjjhjkgaaVmU5
namespace Go.Proofs.Ytbmhmfcjjhjkgaa.Vm
open Go
set_option linter.unusedVariables false
set_option linter.unusedSimpArgs false
theorem foldl_snoc {α β : Type} (g : α → β) : ∀ (l : List α) (b : List β), l.foldl (fun b x => b ++ [g x]) b = b ++ l.map g
  | [], b => by simp
  | x :: l, b => by rw [List.foldl_cons, foldl_snoc g l]; simp
theorem Lp_map {α β R : Type} {l : List α} (g : α → β) {f : List β × Int → Option ((List β × Int) ⊕ R)} (out : List β → R) (hl : l.length < 9223372036854775807)
    (hs : ∀ (i : Nat) (x : α) (b : List β), l[i]? = some x → b.length = i → f (b, i) = some (.inl (b ++ [g x], IntKind.wrap .i64 ((i : Int) + 1)))) (he : ∀ b, f (b, l.length) = some (.inr (out b))) : Lp f ([], 0) = some (out (l.map g)) := by
  have := (Lp_fold (l := l) (fun b x => b ++ [g x]) (fun i b => b.length = i) (fun b i => (b, i)) (f := f) out hl (fun i x b hx hP => ⟨hs i x b hx hP, by simp [hP]⟩) (fun b _ => he b) [] rfl).1
  rw [this, foldl_snoc]; rfl
def resets (c : S_Circuit) (free : Bool) : List Int := c.Latches.map fun l => if free = true ∨ l.Reset = 2 then -1 else l.Reset
section
variable {c : S_Circuit}
theorem litx_of (hf : Fit c) {v : Int} {row : List Int} (hv : v ≤ 480) (h : LitRow v row (1 + (size c).toNat)) {i : Nat} {x : S_Latch} (hx : c.Latches[i]? = some x) : s_unroll_lit row x.Next = some (litx row x.Next) ∧ s_ref22_Lit row x.Next = some (litx row x.Next) := by
  obtain ⟨⟨a, b⟩, _⟩ := hf.valid.latches x (List.mem_of_getElem? hx)
  have g4 := hf.size
  have g5 := hf.i0
  have h2 := h.2
  have h3 : 0 ≤ size c := by unfold size; omega
  exact ⟨unroll_lit_eq a (by omega) (by omega) (h.ok (by omega)), ref_lit_eq a (by omega) (by omega) (h.ok (by omega))⟩
theorem nexts_L0 (hf : Fit c) {v : Int} {row : List Int} (hv : v ≤ 480) (h : LitRow v row (1 + (size c).toNat)) (n : Int) (x1 : Int × (List (List Int)) × (List (List Int)) × Bool) : Lp (b_unroll_made_L0 c n x1 row) ([], 0) = some (nexts c row) := by
  have hb := big_ge
  obtain ⟨g1, g2, g3⟩ := hf.len
  exact Lp_map (l := c.Latches) (fun l => litx row l.Next) (fun b => b) (by omega) (fun i x b hx hP => by
    unfold b_unroll_made_L0
    have := lt_len hx
    simp only [dec_lt this, if_true, idx_nat', hx, Option.bind_some, (litx_of hf hv h hx).1]
    rw [if_pos (by omega)]) (fun b => by unfold b_unroll_made_L0; simp only [dec_ge]; rfl)
theorem nexts_L2 (hf : Fit c) {v : Int} {row : List Int} (hv : v ≤ 480) (h : LitRow v row (1 + (size c).toNat)) (n : Int) (s1 : Int × (List (List Int)) × (List (List Int)) × (List Int) × Int) (x4 : Int × (List (List Int)) × (List (List Int)) × Bool) : Lp (b_unroll_made_L2 c n s1 x4 row) ([], 0) = some (nexts c row) := by
  have hb := big_ge
  obtain ⟨g1, g2, g3⟩ := hf.len
  exact Lp_map (l := c.Latches) (fun l => litx row l.Next) (fun b => b) (by omega) (fun i x b hx hP => by
    unfold b_unroll_made_L2
    have := lt_len hx
    simp only [dec_lt this, if_true, idx_nat', hx, Option.bind_some, (litx_of hf hv h hx).1]
    rw [if_pos (by omega)]) (fun b => by unfold b_unroll_made_L2; simp only [dec_ge]; rfl)
theorem Behind_eq (hf : Fit c) {v : Int} {row : List Int} (hv : v ≤ 480) (h : LitRow v row (1 + (size c).toNat)) : s_ref23_Behind c row = some (nexts c row) := by
  have hb := big_ge
  obtain ⟨g1, g2, g3⟩ := hf.len
  unfold s_ref23_Behind
  rw [Lp_map (l := c.Latches) (fun l => litx row l.Next) (f := b_ref23_Behind_L0 c row) (fun b => b) (by omega) (fun i x b hx hP => by
    unfold b_ref23_Behind_L0
    have := lt_len hx
    simp only [dec_lt this, if_true, idx_nat', hx, Option.bind_some, (litx_of hf hv h hx).2]
    rw [if_pos (by omega)]) (fun b => by unfold b_ref23_Behind_L0; simp only [dec_ge]; rfl)]
  rfl
theorem Resets_eq (hl : c.Latches.length ≤ 1000) (free : Bool) : s_ref23_Resets c free = some (resets c free) := by
  have hb := big_ge
  unfold s_ref23_Resets
  rw [Lp_map (l := c.Latches) (fun l => if free = true ∨ l.Reset = 2 then -1 else l.Reset) (f := b_ref23_Resets_L0 c free) (fun b => b) (by omega) (fun i x b hx hP => by
    unfold b_ref23_Resets_L0
    have := lt_len hx
    simp only [dec_lt this, if_true, idx_nat', hx, Option.bind_some]
    cases free with
    | true =>
      simp only [if_true, Option.bind_some, true_or]
      rw [if_pos (by omega)]
    | false =>
      simp only [Bool.false_eq_true, if_false, Option.bind_some, false_or]
      by_cases h : x.Reset = 2
      · simp only [h, BEq.rfl, if_true, Option.bind_some]
        rw [if_pos (by omega)]
      · have : (x.Reset == 2) = false := by simpa using h
        simp only [this, h, Bool.false_eq_true, if_false, Option.bind_some]
        rw [if_pos (by omega)]) (fun b => by unfold b_ref23_Resets_L0; simp only [dec_ge]; rfl)]
  rfl
theorem Of_L0 (hl : c.Latches.length ≤ 1000) (n : Int) : Lp (b_unroll_Of_L0 c n) ([], 0) = some (resets c false) := by
  have hb := big_ge
  exact Lp_map (l := c.Latches) (fun l => if false = true ∨ l.Reset = 2 then -1 else l.Reset) (fun b => b) (by omega) (fun i x b hx hP => by
    unfold b_unroll_Of_L0
    have := lt_len hx
    simp only [dec_lt this, if_true, idx_nat', hx, Option.bind_some, Bool.false_eq_true, false_or]
    by_cases h : x.Reset = 2
    · simp only [h, BEq.rfl, if_true, Option.bind_some]
      rw [if_pos (by omega)]
    · have : (x.Reset == 2) = false := by simpa using h
      simp only [this, h, Bool.false_eq_true, if_false, Option.bind_some]
      rw [if_pos (by omega)]) (fun b => by unfold b_unroll_Of_L0; simp only [dec_ge]; rfl)
def iterF (c : S_Circuit) : Nat → FS → FS
  | 0, s => s
  | n + 1, s => iterF c n (nextF c s)
theorem iterF_Q (hf : Fit c) : ∀ (m f : Nat) (s : FS), f + m ≤ 8 → Q c f s → Q c (f + m) (iterF c m s)
  | 0, f, s, _, hq => hq
  | m + 1, f, s, h, hq => by
    have := iterF_Q hf m (f + 1) (nextF c s) (by omega) (frame_range hf (by omega) hq).1
    rw [show f + 1 + m = f + (m + 1) by omega] at this
    exact this
theorem last_row {f : Nat} {s : FS} (hq : Q c f s) : (nextF c s).2.1[f]? = some (frameF c s.2.2.2 s.1 s.2.2.1).2.2 := by
  show (s.2.1 ++ [_])[f]? = _
  rw [List.getElem?_append_right (by rw [hq.lits]; exact Nat.le_refl _), hq.lits]; simp
theorem made_L1 (hf : Fit c) {N : Nat} (hN : N ≤ 8) : ∀ (m f : Nat) (s : FS), f + m = N → Q c f s → Lp (b_unroll_made_L1 c (N : Int)) (s.1, s.2.1, s.2.2.1, s.2.2.2, (f : Int)) = some (.inl ((iterF c m s).1, (iterF c m s).2.1, (iterF c m s).2.2.1))
  | 0, f, s, h, hq => by
    refine Lp_out ?_
    unfold b_unroll_made_L1
    have : decide ((f : Int) < (N : Int)) = false := decide_eq_false (by omega)
    simp only [this]; rfl
  | m + 1, f, s, h, hq => by
    obtain ⟨r1, r2, r3, r4⟩ := frame_range hf (by omega) hq
    have hs : b_unroll_made_L1 c (N : Int) (s.1, s.2.1, s.2.2.1, s.2.2.2, (f : Int)) = some (.inl ((nextF c s).1, (nextF c s).2.1, (nextF c s).2.2.1, (nextF c s).2.2.2, ((f + 1 : Nat) : Int))) := by
      unfold b_unroll_made_L1
      have hlen : (nextF c s).2.1.length = f + 1 := r1.lits
      have w : IntKind.wrap .i64 (((nextF c s).2.1.length : Int) - 1) = (f : Int) := by rw [hlen, wr (by omega) (by omega)]; omega
      simp only [dec_lt (show f < N by omega), if_true, frame_u1, frameG_eq hf (show f < 8 by omega) hq, Option.bind_some, w, idx_nat', last_row hq, nexts_L2 hf r3 r2]
      rw [wr1 (by omega)]; rfl
    rw [Lp_step hs]
    exact made_L1 hf hN m (f + 1) (nextF c s) (by omega) r1
theorem refMade_L0 (hf : Fit c) {N : Nat} (hN : N ≤ 8) : ∀ (m f : Nat) (s : FS), f + m = N → Q c f s → Lp (b_ref23_Made_L0 c (N : Int)) (s.1, s.2.1, s.2.2.1, (f : Int), s.2.2.2) = some (.inl ((iterF c m s).1, (iterF c m s).2.1, (iterF c m s).2.2.1))
  | 0, f, s, h, hq => by
    refine Lp_out ?_
    unfold b_ref23_Made_L0
    have : decide ((f : Int) < (N : Int)) = false := decide_eq_false (by omega)
    simp only [this]; rfl
  | m + 1, f, s, h, hq => by
    have hb := big_ge
    obtain ⟨r1, r2, r3, r4⟩ := frame_range hf (by omega) hq
    have hl := hq.lits
    have hs : b_ref23_Made_L0 c (N : Int) (s.1, s.2.1, s.2.2.1, (f : Int), s.2.2.2) = some (.inl ((nextF c s).1, (nextF c s).2.1, (nextF c s).2.2.1, ((f + 1 : Nat) : Int), (nextF c s).2.2.2)) := by
      unfold b_ref23_Made_L0
      have e1 : decide ((frameF c s.2.2.2 s.1 s.2.2.1).1 > 4000) = false := decide_eq_false (by have : (frameF c s.2.2.2 s.1 s.2.2.1).1 ≤ 480 := r3; omega)
      have e2 : decide (((frameF c s.2.2.2 s.1 s.2.2.1).2.1.length : Int) > 20000) = false := decide_eq_false (by have : (frameF c s.2.2.2 s.1 s.2.2.1).2.1.length ≤ 1440 := r4; omega)
      have lr : (s.2.1 ++ [(frameF c s.2.2.2 s.1 s.2.2.1).2.2])[f]? = some (frameF c s.2.2.2 s.1 s.2.2.1).2.2 := last_row hq
      simp only [dec_lt (show f < N by omega), if_true, refFrame_eq hf (show f < 8 by omega) hq (s.1, s.2.1, s.2.2.1, (f : Int), s.2.2.2) rfl, Option.bind_some]
      rw [if_pos (by omega)]
      simp only [e1, e2, Bool.false_eq_true, if_false, Option.bind_some, idx_nat', lr, Behind_eq hf r3 r2]
      rw [wr1 (by omega)]; rfl
    rw [Lp_step hs]
    exact refMade_L0 hf hN m (f + 1) (nextF c s) (by omega) r1
theorem Q0 (hf : Fit c) (free : Bool) : Q c 0 (0, [], [], resets c free) := by
  refine ⟨Int.le_refl _, by simp, rfl, by simp, by simp [resets], fun x hx => ?_, fun r hr => (by cases hr), fun r hr => (by cases hr)⟩
  obtain ⟨l, hl, rfl⟩ := List.mem_map.1 hx
  have := (hf.valid.latches l hl).2
  split
  · omega
  · rename_i h
    have : l.Reset ≠ 2 := fun e => h (.inr e)
    omega
def cnfF (c : S_Circuit) (free : Bool) (N : Nat) : S_Cnf := ⟨(iterF c N (0, [], [], resets c free)).1, (iterF c N (0, [], [], resets c free)).2.1, (iterF c N (0, [], [], resets c free)).2.2.1⟩
theorem made_eq (hf : Fit c) {N : Nat} (h1 : 1 ≤ N) (h8 : N ≤ 8) (free : Bool) : s_unroll_made c (N : Int) (resets c free) = some (cnfF c free N, 0) := by
  unfold s_unroll_made
  have e0 : decide ((N : Int) < 1) = false := decide_eq_false (by omega)
  have e1 : decide ((N : Int) > 100) = false := decide_eq_false (by omega)
  have e2 : decide (0 < (N : Int)) = true := decide_eq_true (by omega)
  have hq := Q0 hf free
  obtain ⟨r1, r2, r3, r4⟩ := frame_range hf (by omega) hq
  have hG := frameG_eq hf (show 0 < 8 by omega) hq
  have hlen : (nextF c (0, [], [], resets c free)).2.1.length = 1 := r1.lits
  have w : IntKind.wrap .i64 (((nextF c (0, [], [], resets c free)).2.1.length : Int) - 1) = ((0 : Nat) : Int) := by rw [hlen]; rfl
  simp only [e0, e1, e2, Bool.false_eq_true, if_false, if_true, Option.bind_some, frame_u0]
  rw [hG]
  simp only [Option.bind_some, if_true]
  rw [w, idx_nat', last_row hq]
  simp only [Option.bind_some]
  rw [nexts_L0 hf r3 r2]
  simp only [Option.bind_some]
  have w1 : IntKind.wrap .i64 (0 + 1) = ((1 : Nat) : Int) := rfl
  rw [w1]
  have hm := made_L1 hf h8 (N - 1) 1 (nextF c (0, [], [], resets c free)) (by omega) r1
  have hm' : Lp (b_unroll_made_L1 c (N : Int)) ((nextF c (0, [], [], resets c free)).1, (nextF c (0, [], [], resets c free)).2.1, (nextF c (0, [], [], resets c free)).2.2.1, nexts c (frameF c (0, [], [], resets c free).2.2.2 (0, [], [], resets c free).1 (0, [], [], resets c free).2.2.1).2.2, ((1 : Nat) : Int)) = _ := hm
  rw [hm']
  simp only [Option.bind_some]
  have : iterF c N (0, [], [], resets c free) = iterF c (N - 1) (nextF c (0, [], [], resets c free)) := by
    rw [show N = N - 1 + 1 by omega]; rfl
  unfold cnfF
  rw [this]
theorem refMade_eq (hf : Fit c) {N : Nat} (h8 : N ≤ 8) (free : Bool) : s_ref23_Made c (N : Int) free = some (cnfF c free N, true) := by
  unfold s_ref23_Made
  rw [Resets_eq (by have := hf.len; omega)]
  simp only [Option.bind_some]
  have := refMade_L0 hf h8 N 0 (0, [], [], resets c free) (by omega) (Q0 hf free)
  have h : Lp (b_ref23_Made_L0 c (N : Int)) (0, [], [], 0, resets c free) = _ := this
  rw [h]; rfl
theorem Same_self (l : List Int) (hl : l.length < 9223372036854775807) : s_ref13_Same l l = some true := by
  unfold s_ref13_Same
  have : ((l.length : Int) != (l.length : Int)) = false := by simp
  rw [this]
  obtain ⟨r, h1, h2⟩ := Lp_find (l := l) (fun _ _ => false) (f := b_ref13_Same_L0 l l) (r0 := Sum.inl ()) (fun _ => Sum.inr ()) hl (fun i x hx => by
    unfold b_ref13_Same_L0
    rw [dec_lt (lt_len hx), idx_nat', hx]
    have : (x != x) = false := by simp
    simp only [if_true, Option.bind_some, this, Bool.false_eq_true, if_false]) (by unfold b_ref13_Same_L0; rw [dec_ge]; rfl)
  rw [h1]
  rcases h2 with ⟨_, rfl⟩ | ⟨i, x, _, hp, _⟩
  · rfl
  · cases hp
theorem SameAll_self (l : List (List Int)) (hl : l.length < 9223372036854775807) (hx : ∀ x ∈ l, x.length < 9223372036854775807) : s_ref13_SameAll l l = some true := by
  unfold s_ref13_SameAll
  have : ((l.length : Int) != (l.length : Int)) = false := by simp
  rw [this]
  obtain ⟨r, h1, h2⟩ := Lp_find (l := l) (fun _ _ => false) (f := b_ref13_SameAll_L0 l l) (r0 := Sum.inl ()) (fun _ => Sum.inr ()) hl (fun i x h => by
    unfold b_ref13_SameAll_L0
    rw [dec_lt (lt_len h), idx_nat', h]
    simp only [if_true, Option.bind_some, Same_self x (hx x (List.mem_of_getElem? h)), Bool.false_eq_true, if_false]) (by unfold b_ref13_SameAll_L0; rw [dec_ge]; rfl)
  rw [h1]
  rcases h2 with ⟨_, rfl⟩ | ⟨i, x, _, hp, _⟩
  · rfl
  · cases hp
def Tame (x : S_Cnf) : Prop := x.Lits.length < 1000000 ∧ x.Clauses.length < 1000000 ∧ (∀ r ∈ x.Lits, r.length < 1000000) ∧ ∀ r ∈ x.Clauses, r.length < 1000000
theorem Same22_self {x : S_Cnf} (h : Tame x) : s_ref22_Same x x = some true := by
  obtain ⟨h1, h2, h3, h4⟩ := h
  unfold s_ref22_Same
  simp only [BEq.rfl, if_true, SameAll_self x.Lits (by omega) (fun r hr => by have := h3 r hr; omega), SameAll_self x.Clauses (by omega) (fun r hr => by have := h4 r hr; omega), Option.bind_some]
theorem cnf_tame (hf : Fit c) (free : Bool) {N : Nat} (h8 : N ≤ 8) : Tame (cnfF c free N) := by
  have q := iterF_Q hf N 0 _ (by omega) (Q0 hf free)
  rw [Nat.zero_add] at q
  have g4 := hf.size
  refine ⟨?_, ?_, fun r hr => ?_, fun r hr => ?_⟩
  · show (iterF c N _).2.1.length < _; rw [q.lits]; omega
  · show (iterF c N _).2.2.1.length < _; have := q.cls; omega
  · have := q.rows r hr; omega
  · have := q.cl3 r hr; omega
noncomputable def answer (c : S_Circuit) (n : Int) (free : Bool) : S_Cnf × Int :=
  if chk c ≠ 0 then (⟨0, [], []⟩, chk c) else if n < 1 ∨ n > 100 then (⟨0, [], []⟩, 2) else (cnfF c free n.toNat, 0)
theorem chk_fit (hs : chk c = 0) (h60 : IntKind.wrap .i64 (IntKind.wrap .i64 (c.Inputs + (c.Latches.length : Int)) + (c.Ands.length : Int)) ≤ 60) (hf : Few c) : Fit c := by
  obtain ⟨f1, f2, f3, f4⟩ := hf
  unfold chk at hs
  split at hs
  · cases hs
  · rename_i h0
    split at hs
    · cases hs
    · rename_i h1
      split at hs
      · rename_i hv
        have hi : ¬ c.Inputs > 1000 := fun h => h1 (.inl h)
        have w2 : IntKind.wrap .i64 (c.Inputs + (c.Latches.length : Int)) = c.Inputs + c.Latches.length := wr (by omega) (by omega)
        rw [w2, wr (by omega) (by omega)] at h60
        exact ⟨hv, by omega, h60⟩
      · cases hs
theorem unroll_Of_eq (hr : RC c) (hf : Few c) (hfit : chk c = 0 → Fit c) {n : Int} (hn : n ≤ 8 ∨ n > 100) : s_unroll_Of c n = some (answer c n false) := by
  unfold s_unroll_Of answer
  rw [gates_Check_eq hr hf]
  by_cases h : chk c = 0
  · have fit := hfit h
    simp only [h, Option.bind_some, Of_L0 hf.1]
    have e : ((0 : Int) != 0) = false := rfl
    simp only [e, Bool.false_eq_true, if_false, ne_eq, not_true_eq_false]
    by_cases hn2 : n < 1 ∨ n > 100
    · rw [if_pos hn2]
      unfold s_unroll_made
      by_cases h3 : n < 1
      · simp only [h3, decide_true, if_true, Option.bind_some]
      · have h4 : n > 100 := hn2.resolve_left h3
        simp only [h3, h4, decide_true, decide_false, Bool.false_eq_true, if_false, if_true, Option.bind_some]
    · rw [if_neg hn2]
      have hN : ((n.toNat : Nat) : Int) = n := by omega
      have := made_eq fit (N := n.toNat) (by omega) (by omega) false
      rw [hN] at this
      rw [this]; rfl
  · have e : (chk c != 0) = true := by simpa using h
    simp only [Option.bind_some, e, if_true, ne_eq, h, not_false_eq_true]
theorem ref_Asked_eq (hr : RC c) (hf : Few c) (hfit : chk c = 0 → Fit c) {n : Int} (hn : n ≤ 8 ∨ n > 100) (free : Bool) : s_ref23_Asked c n free = some (answer c n free) := by
  unfold s_ref23_Asked answer
  rw [ref_Check_eq hr hf]
  by_cases h : chk c = 0
  · have fit := hfit h
    simp only [h, Option.bind_some]
    have e : ((0 : Int) != 0) = false := rfl
    simp only [e, Bool.false_eq_true, if_false, ne_eq, not_true_eq_false]
    by_cases hn2 : n < 1 ∨ n > 100
    · rw [if_pos hn2]
      by_cases h3 : n < 1
      · simp only [h3, decide_true, if_true, Option.bind_some]
      · have h4 : n > 100 := hn2.resolve_left h3
        simp only [h3, h4, decide_true, decide_false, Bool.false_eq_true, if_false, if_true, Option.bind_some]
    · rw [if_neg hn2]
      have h3 : ¬ n < 1 := fun h => hn2 (.inl h)
      have h4 : ¬ n > 100 := fun h => hn2 (.inr h)
      have hN : ((n.toNat : Nat) : Int) = n := by omega
      have := refMade_eq fit (N := n.toNat) (by omega) free
      rw [hN] at this
      simp only [h3, h4, decide_false, Bool.false_eq_true, if_false, Option.bind_some, this, if_true]
  · have e : (chk c != 0) = true := by simpa using h
    simp only [Option.bind_some, e, if_true, ne_eq, h, not_false_eq_true]
end
end Go.Proofs.Ytbmhmfcjjhjkgaa.Vm
