/- The checks of clauses, and of models. -/
import Derived.Test.YtbmhmfcjjhjkgaaVmU9
namespace Go.Proofs.Ytbmhmfcjjhjkgaa.Vm
open Go
set_option linter.unusedVariables false
set_option linter.unusedSimpArgs false
theorem Lp_all {α R : Type} {l : List α} {f : Int → Option (Int ⊕ R)} {r0 : R} (hl : l.length < 9223372036854775807)
    (hs : ∀ (i : Nat) (x : α), l[i]? = some x → f i = some (.inl (IntKind.wrap .i64 ((i : Int) + 1)))) (he : f l.length = some (.inr r0)) : Lp f 0 = some r0 := by
  obtain ⟨r, h1, h2⟩ := Lp_find (l := l) (fun _ _ => false) (r0 := r0) (fun _ => r0) hl (fun i x hx => by rw [hs i x hx]; rfl) he
  rcases h2 with ⟨_, rfl⟩ | ⟨i, x, _, h, _⟩
  · exact h1
  · cases h
def ClOk (v : Int) (r : List Int) : Prop := Up r ∧ (∀ x ∈ r, 2 ≤ x ∧ x ≤ 2 * v + 1) ∧ alw r = false
theorem ClOk.mono {v w : Int} {r : List Int} (h : ClOk v r) (hv : v ≤ w) : ClOk w r := ⟨h.1, fun x hx => by have := h.2.1 x hx; omega, h.2.2⟩
theorem addF_cl {v : Int} {cls : List (List Int)} {l : List Int} (h : ∀ r ∈ cls, ClOk v r) (hl : ∀ x ∈ l, 0 ≤ x ∧ x ≤ 2 * v + 1) : ∀ r ∈ addF cls l, ClOk v r := by
  unfold addF
  split
  · exact h
  · rename_i h1
    split
    · exact h
    · rename_i h2
      intro r hr
      rcases List.mem_append.1 hr with hr | hr
      · exact h r hr
      · rw [List.mem_singleton.1 hr]
        refine ⟨norm_up _, fun x hx => ?_, ?_⟩
        · have hx := (norm_mem _ _).1 hx
          obtain ⟨hx1, hx2⟩ := List.mem_filter.1 hx
          have n0 : x ≠ 0 := by simpa using hx2
          have n1 : x ≠ 1 := fun e => h1 (e ▸ hx1)
          have := hl x hx1
          omega
        · rw [alw_congr (fun x => norm_mem _ x)]
          simpa using h2
theorem gates_cl : ∀ (gs : List S_And) (b : Int × List (List Int) × List Int) {k : Nat}, LitRow b.1 b.2.2 k → 0 ≤ b.1 → (∀ r ∈ b.2.1, ClOk b.1 r) → ∀ r ∈ (gs.foldl gstep b).2.1, ClOk (gs.foldl gstep b).1 r
  | [], b, k, _, _, h => h
  | g :: gs, b, k, hr, h0, h => by
    rw [List.foldl_cons]
    have la := litx_range hr g.A h0
    have lb := litx_range hr g.B h0
    have na := notI_le la.1 la.2
    have nb := notI_le lb.1 lb.2
    have no := notI_le (x := 2 * (b.1 + 1)) (v := b.1 + 1) (by omega) (by omega)
    refine gates_cl gs (gstep b g) (k := k + 1) (hr.snoc (by show b.1 ≤ b.1 + 1; omega) (by show 0 ≤ 2 * (b.1 + 1) ∧ 2 * (b.1 + 1) ≤ 2 * (b.1 + 1) + 1; omega)) (by show 0 ≤ b.1 + 1; omega) ?_
    have h' : ∀ r ∈ b.2.1, ClOk (b.1 + 1) r := fun r hr => (h r hr).mono (by omega)
    have hv : (gstep b g).1 = b.1 + 1 := rfl
    rw [hv]
    exact addF_cl (addF_cl (addF_cl h' (two _ (by omega) (by omega))) (two _ (by omega) (by omega))) (three _ (by omega) (by omega) (by omega))
section
variable {c : S_Circuit}
theorem iter_cl (hf : Fit c) : ∀ (m f : Nat) (s : FS), f + m ≤ 8 → Q c f s → (∀ r ∈ s.2.2.1, ClOk s.1 r) → ∀ r ∈ (iterF c m s).2.2.1, ClOk (iterF c m s).1 r
  | 0, f, s, _, _, h => h
  | m + 1, f, s, h8, hq, h => by
    obtain ⟨_, ⟨p1, p2, p3⟩, _, ⟨p4, p5, p6⟩, _, _⟩ := frame_parts hf (by omega) hq
    have q1 := hq.v0
    refine iter_cl hf m (f + 1) (nextF c s) (by omega) (frame_range hf (by omega) hq).1 ?_
    exact gates_cl c.Ands _ p6 (by show 0 ≤ (s.2.2.2.foldl latS (insF c.Inputs.toNat (s.1, [0]))).1; omega) (fun r hr => (h r hr).mono (by show s.1 ≤ (s.2.2.2.foldl latS (insF c.Inputs.toNat (s.1, [0]))).1; omega))
theorem insF_pre : ∀ (n : Nat) (b : Int × List Int), ∃ t, (insF n b).2 = b.2 ++ t
  | 0, b => ⟨[], by simp [insF]⟩
  | n + 1, b => by
    obtain ⟨t, h⟩ := insF_pre n (freshF b)
    have e : insF (n + 1) b = insF n (freshF b) := by simp [insF, List.replicate_succ]
    rw [e, h]
    exact ⟨[2 * (b.1 + 1)] ++ t, by simp [freshF]⟩
theorem latS_pre : ∀ (ls : List Int) (b : Int × List Int), ∃ t, (ls.foldl latS b).2 = b.2 ++ t
  | [], b => ⟨[], by simp⟩
  | x :: ls, b => by
    obtain ⟨t, h⟩ := latS_pre ls (latS b x)
    rw [List.foldl_cons, h]
    unfold latS
    split
    · exact ⟨[2 * (b.1 + 1)] ++ t, by simp [freshF]⟩
    · exact ⟨[x] ++ t, by simp⟩
theorem gstep_row : ∀ (gs : List S_And) (b : Int × List (List Int) × List Int), ∃ t, (gs.foldl gstep b).2.2 = b.2.2 ++ t
  | [], b => ⟨[], by simp⟩
  | g :: gs, b => by
    obtain ⟨t, h⟩ := gstep_row gs (gstep b g)
    rw [List.foldl_cons, h]
    exact ⟨[2 * (b.1 + 1)] ++ t, by simp [gstep]⟩
theorem frame_zero (ls : List Int) (v : Int) (cls : List (List Int)) : ∃ t, (frameF c ls v cls).2.2 = 0 :: t := by
  obtain ⟨t1, h1⟩ := insF_pre c.Inputs.toNat (v, [0])
  obtain ⟨t2, h2⟩ := latS_pre ls (insF c.Inputs.toNat (v, [0]))
  obtain ⟨t3, h3⟩ := gstep_row c.Ands ((ls.foldl latS (insF c.Inputs.toNat (v, [0]))).1, cls, (ls.foldl latS (insF c.Inputs.toNat (v, [0]))).2)
  exact ⟨t1 ++ t2 ++ t3, by unfold frameF; rw [h3]; show (ls.foldl latS (insF c.Inputs.toNat (v, [0]))).2 ++ t3 = _; rw [h2, h1]; simp⟩
theorem iter_zero : ∀ (m : Nat) (s : FS), (∀ r ∈ s.2.1, ∃ t, r = 0 :: t) → ∀ r ∈ (iterF c m s).2.1, ∃ t, r = 0 :: t
  | 0, s, h => h
  | m + 1, s, h => by
    refine iter_zero m (nextF c s) fun r hr => ?_
    rcases List.mem_append.1 hr with hr | hr
    · exact h r hr
    · rw [List.mem_singleton.1 hr]; exact frame_zero _ _ _
theorem iter_lits (hf : Fit c) : ∀ (m f : Nat) (s : FS), f + m ≤ 8 → Q c f s → (∀ r ∈ s.2.1, ∀ x ∈ r, 0 ≤ x ∧ x ≤ 2 * s.1 + 1) → ∀ r ∈ (iterF c m s).2.1, ∀ x ∈ r, 0 ≤ x ∧ x ≤ 2 * (iterF c m s).1 + 1
  | 0, f, s, _, _, h => h
  | m + 1, f, s, h8, hq, h => by
    obtain ⟨g1, g2, _⟩ := frame_range hf (by omega) hq
    obtain ⟨_, ⟨p1, p2, p3⟩, _, ⟨p4, p5, p6⟩, _, ⟨p7, _, _, _⟩⟩ := frame_parts hf (by omega) hq
    refine iter_lits hf m (f + 1) (nextF c s) (by omega) g1 fun r hr x hx => ?_
    have hv : (nextF c s).1 = (frameF c s.2.2.2 s.1 s.2.2.1).1 := rfl
    rcases List.mem_append.1 hr with hr | hr
    · have := h r hr x hx
      omega
    · rw [List.mem_singleton.1 hr] at hx
      exact g2.1 x hx
structure CnfOk (x : S_Cnf) (n : Nat) : Prop where
  v0 : 0 ≤ x.Vars
  v1 : x.Vars ≤ 4000
  len : x.Clauses.length ≤ 20000
  cl : ∀ r ∈ x.Clauses, ClOk x.Vars r ∧ r.length ≤ 3
  rows : x.Lits.length ≤ 100
  n0 : 1 ≤ n
  n1 : n ≤ 1000
  row : ∀ r ∈ x.Lits, r.length = n ∧ (∃ t, r = 0 :: t) ∧ ∀ y ∈ r, 0 ≤ y ∧ y ≤ 2 * x.Vars + 1
theorem cnf_good (hf : Fit c) (free : Bool) {N : Nat} (h8 : N ≤ 8) : CnfOk (cnfF c free N) (1 + (size c).toNat) := by
  have q := iterF_Q hf N 0 _ (by omega) (Q0 hf free)
  have hs := hf.size
  rw [Nat.zero_add] at q
  have e0 := q.v0
  have e1 := q.v1
  have e2 := q.cls
  have e3 := q.lits
  exact { v0 := e0, v1 := by show (iterF c N (0, [], [], resets c free)).1 ≤ 4000; omega, len := by show (iterF c N (0, [], [], resets c free)).2.2.1.length ≤ 20000; omega,
          cl := fun r hr => ⟨iter_cl hf N 0 _ (by omega) (Q0 hf free) (fun r hr => by cases hr) r hr, q.cl3 r hr⟩,
          rows := by show (iterF c N (0, [], [], resets c free)).2.1.length ≤ 100; omega, n0 := by omega, n1 := by omega,
          row := fun r hr => ⟨q.rows r hr, iter_zero N _ (fun r hr => by cases hr) r hr, iter_lits hf N 0 _ (by omega) (Q0 hf free) (fun r hr => by cases hr) r hr⟩ }
end
theorem cl_adj {v : Int} {r : List Int} (h : ClOk v r) {i : Nat} {x : Int} (hx : r[i]? = some x) (h0 : 0 < i) : ∃ y, r[i - 1]? = some y ∧ y < x ∧ x / 2 ≠ y / 2 ∧ 2 ≤ y := by
  have hi := lt_len hx
  have hy : r[i - 1]? = some r[i - 1] := List.getElem?_eq_getElem (by omega)
  have hlt := h.1.getD_lt (i - 1) i (by omega) hi
  have e1 : r.getD i 0 = x := by rw [List.getD_eq_getElem?_getD, hx]; rfl
  have e2 : r.getD (i - 1) 0 = r[i - 1] := by rw [List.getD_eq_getElem?_getD, hy]; rfl
  rw [e1, e2] at hlt
  have m1 := List.mem_of_getElem? hx
  have m2 := List.mem_of_getElem? hy
  have b2 := h.2.1 _ m2
  refine ⟨_, hy, hlt, fun he => ?_, b2.1⟩
  have hn : notI r[i - 1] = x := by unfold notI; split <;> omega
  have ha := h.2.2
  unfold alw at ha
  have := List.any_eq_false.1 ha _ m2
  rw [hn] at this
  simp [m1] at this
theorem Lit_eq {v x : Int} (h0 : 0 ≤ v) (h1 : v ≤ 4000) (hx : 2 ≤ x ∧ x ≤ 2 * v + 1) : s_ref13_Lit v x = some true := by
  unfold s_ref13_Lit
  have w1 : IntKind.wrap .i64 (2 * v) = 2 * v := wr (by omega) (by omega)
  have w2 : IntKind.wrap .i64 (2 * v + 1) = 2 * v + 1 := wr (by omega) (by omega)
  have e1 : decide (x ≥ 2) = true := by simp; omega
  have e2 : decide (x ≤ 2 * v + 1) = true := by simp; omega
  rw [w1, w2, e1, e2]; rfl
theorem Valid13_eq {v : Int} {r : List Int} (h0 : 0 ≤ v) (h1 : v ≤ 4000) (h : ClOk v r) (hl : r.length ≤ 3) : s_ref13_Valid v r = some true := by
  unfold s_ref13_Valid
  rw [Lp_all (l := r) (f := b_ref13_Valid_L0 v r) (r0 := .inl ()) (by omega) (fun i x hx => by
    have hi := lt_len hx
    have hm := h.2.1 x (List.mem_of_getElem? hx)
    unfold b_ref13_Valid_L0
    simp only [dec_lt hi, if_true]
    rw [idx_nat', hx]
    simp only [Option.bind_some, Lit_eq h0 h1 hm, if_true]
    by_cases hi0 : 0 < i
    · obtain ⟨y, hy, hlt, hne, hy2⟩ := cl_adj h hx hi0
      have e1 : decide ((i : Int) > 0) = true := by simp; omega
      have w1 : IntKind.wrap .i64 ((i : Int) - 1) = ((i - 1 : Nat) : Int) := by rw [wr (by omega) (by omega)]; omega
      simp only [e1, if_true, w1]
      rw [idx_nat', hy]
      simp only [Option.bind_some]
      have w2 : IntKind.wrap .i64 (x - y) = x - y := wr (by omega) (by omega)
      have w3 : IntKind.wrap .i64 (y + 1) = y + 1 := wr (by omega) (by omega)
      have e2 : decide (x - y < 1) = false := by simp; omega
      rw [w2, e2, tmod2 (by omega), w3]
      by_cases hy3 : y % 2 = 0
      · have e4 : (x == y + 1) = false := by simp; omega
        have e3 : (y % 2 == 0) = true := by simpa using hy3
        simp [e3, e4]
      · have e3 : (y % 2 == 0) = false := by simpa using hy3
        simp [e3]
    · have e1 : decide ((i : Int) > 0) = false := decide_eq_false (by omega)
      simp only [e1, Bool.false_eq_true, if_false, Option.bind_some]) (by unfold b_ref13_Valid_L0; simp only [dec_ge]; rfl)]
  rfl
theorem Wrong_eq {v : Int} {cls : List (List Int)} (h0 : 0 ≤ v) (h1 : v ≤ 4000) (hl : cls.length ≤ 20000) (h : ∀ r ∈ cls, ClOk v r ∧ r.length ≤ 3) : s_ref15_Wrong v cls = some 0 := by
  unfold s_ref15_Wrong
  have e : decide ((cls.length : Int) > 20000) = false := by simp; omega
  rw [e]
  simp only [Bool.false_eq_true, if_false]
  rw [Lp_all (l := cls) (f := b_ref15_Wrong_L0 v cls) (r0 := .inl ()) (by omega) (fun i x hx => by
    have hi := lt_len hx
    obtain ⟨hc, h3⟩ := h x (List.mem_of_getElem? hx)
    unfold b_ref15_Wrong_L0
    simp only [dec_lt hi, if_true]
    rw [idx_nat', hx]
    simp only [Option.bind_some]
    have : s_ref13_Check v x = some 0 := by
      unfold s_ref13_Check s_ref13_Vars
      have d1 : decide (v ≥ 0) = true := by simp; omega
      have d2 : decide (v ≤ 4000) = true := by simp; omega
      rw [d1, d2, Valid13_eq h0 h1 hc h3]; rfl
    rw [this]
    rfl) (by unfold b_ref15_Wrong_L0; simp only [dec_ge]; rfl)]
  rfl
theorem clCheck_eq {v : Int} {r : List Int} (h0 : 0 ≤ v) (h1 : v ≤ 4000) (h : ClOk v r) (hl : r.length ≤ 3) : s_clause_Check v r = some 0 := by
  unfold s_clause_Check
  have d1 : decide (v < 0) = false := by simp; omega
  have d2 : decide (v > 4000) = false := by simp; omega
  rw [d1, d2]
  simp only [Bool.false_eq_true, if_false, Option.bind_some]
  rw [Lp_all (l := r) (f := b_clause_Check_L0 v r) (r0 := .inl ()) (by omega) (fun i x hx => by
    have hi := lt_len hx
    have hm := h.2.1 x (List.mem_of_getElem? hx)
    unfold b_clause_Check_L0
    simp only [dec_lt hi, if_true]
    rw [idx_nat', hx]
    have k1 : decide (2 ≤ x) = true := by simp; omega
    have k2 : decide (x / 2 ≤ v) = true := by simp; omega
    simp only [Option.bind_some, known_eq (v := v) (x := x) ⟨by omega, by omega⟩, k1, k2, Bool.and_self, if_true]
    by_cases hi0 : 0 < i
    · obtain ⟨y, hy, hlt, hne, hy2⟩ := cl_adj h hx hi0
      have e1 : decide ((i : Int) > 0) = true := by simp; omega
      have w1 : IntKind.wrap .i64 ((i : Int) - 1) = ((i - 1 : Nat) : Int) := by rw [wr (by omega) (by omega)]; omega
      simp only [e1, if_true, w1]
      rw [idx_nat', hy]
      simp only [Option.bind_some]
      have q1 : IntKind.wrap .i64 (Int.tdiv x 2) = x / 2 := quo2 (by omega) (by omega)
      have q2 : IntKind.wrap .i64 (Int.tdiv y 2) = y / 2 := quo2 (by omega) (by omega)
      have e2 : decide (x ≤ y) = false := by simp; omega
      have e3 : (x / 2 == y / 2) = false := by simpa using hne
      rw [q1, q2, e2, e3]; simp
    · have e1 : decide ((i : Int) > 0) = false := decide_eq_false (by omega)
      simp only [e1, Bool.false_eq_true, if_false, Option.bind_some]) (by unfold b_clause_Check_L0; simp only [dec_ge]; rfl)]
  rfl
end Go.Proofs.Ytbmhmfcjjhjkgaa.Vm
