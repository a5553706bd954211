/- Frames behind frames: the program's and the reference's are one. -/
import Derived.Test.YtbmhmfcjjhjkgaaVmU4
namespace Go.Proofs.Ytbmhmfcjjhjkgaa.Vm
open Go
set_option linter.unusedVariables false
set_option linter.unusedSimpArgs false
structure Fit (c : S_Circuit) : Prop where
  valid : Valid c
  i0 : 0 ≤ c.Inputs
  size : size c ≤ 60
def frameF (c : S_Circuit) (ls : List Int) (v : Int) (cls : List (List Int)) : Int × List (List Int) × List Int :=
  c.Ands.foldl gstep ((ls.foldl latS (insF c.Inputs.toNat (v, [0]))).1, cls, (ls.foldl latS (insF c.Inputs.toNat (v, [0]))).2)
def nexts (c : S_Circuit) (row : List Int) : List Int := c.Latches.map fun l => litx row l.Next
abbrev FS := Int × List (List Int) × List (List Int) × List Int
def nextF (c : S_Circuit) (s : FS) : FS := ((frameF c s.2.2.2 s.1 s.2.2.1).1, s.2.1 ++ [(frameF c s.2.2.2 s.1 s.2.2.1).2.2], (frameF c s.2.2.2 s.1 s.2.2.1).2.1, nexts c (frameF c s.2.2.2 s.1 s.2.2.1).2.2)
structure Q (c : S_Circuit) (f : Nat) (s : FS) : Prop where
  v0 : 0 ≤ s.1
  v1 : s.1 ≤ 60 * f
  lits : s.2.1.length = f
  cls : s.2.2.1.length ≤ 180 * f
  ls : s.2.2.2.length = c.Latches.length
  lsr : ∀ x ∈ s.2.2.2, x ≤ 2 * s.1 + 1
  rows : ∀ r ∈ s.2.1, r.length = 1 + (size c).toNat
  cl3 : ∀ r ∈ s.2.2.1, r.length ≤ 3
theorem addF_mem {cls : List (List Int)} {lits : List Int} {r : List Int} (h : r ∈ addF cls lits) : r ∈ cls ∨ r.length ≤ lits.length := by
  unfold addF at h
  split at h
  · exact .inl h
  · split at h
    · exact .inl h
    · rcases List.mem_append.1 h with h | h
      · exact .inl h
      · right
        rw [List.mem_singleton.1 h]
        have := dd_len (isort (lits.filter (· != 0)))
        rw [isort_length] at this
        have h2 : (lits.filter (· != 0)).length ≤ lits.length := List.length_filter_le _ _
        unfold norm
        omega
theorem gstep_mem {b : Int × List (List Int) × List Int} {x : S_And} {r : List Int} (h : r ∈ (gstep b x).2.1) : r ∈ b.2.1 ∨ r.length ≤ 3 := by
  rcases addF_mem h with h | h
  · rcases addF_mem h with h | h
    · rcases addF_mem h with h | h
      · exact .inl h
      · simp at h; exact .inr (by omega)
    · simp at h; exact .inr (by omega)
  · simp at h; exact .inr (by omega)
theorem gfold_mem : ∀ (gs : List S_And) (b : Int × List (List Int) × List Int) {r : List Int}, r ∈ (gs.foldl gstep b).2.1 → r ∈ b.2.1 ∨ r.length ≤ 3
  | [], _, _, h => .inl h
  | g :: gs, b, r, h => by
    rcases gfold_mem gs (gstep b g) h with h | h
    · exact gstep_mem h
    · exact .inr h
theorem pair_eq {cls : List (List Int)} {l : List Int} : ((s_ref13_Has l 1).bind fun r0 => if r0 = true then some (cls, cls.length) else (s_ref13_Without l 0).bind fun r1 => (s_ref13_Always r1).bind fun r2 => if r2 = true then some (cls, cls.length) else (s_ref13_Sorted r1).bind fun r3 =>
      if cls.length + 1 ≤ big then some ((cls ++ ([r3] : List (List Int))), cls.length) else none) =
    (((s_ref13_Has l 1).bind fun r0 => if r0 = true then some cls else (s_ref13_Without l 0).bind fun r1 => (s_ref13_Always r1).bind fun r2 => if r2 = true then some cls else (s_ref13_Sorted r1).bind fun r3 =>
      if cls.length + 1 ≤ big then some (cls ++ ([r3] : List (List Int))) else none).map fun x => (x, cls.length)) := by
  cases s_ref13_Has l 1 with
  | none => rfl
  | some r0 =>
    simp only [Option.bind_some]
    split
    · rfl
    · cases s_ref13_Without l 0 with
      | none => rfl
      | some r1 =>
        simp only [Option.bind_some]
        cases s_ref13_Always r1 with
        | none => rfl
        | some r2 =>
          simp only [Option.bind_some]
          split
          · rfl
          · cases s_ref13_Sorted r1 with
            | none => rfl
            | some r3 => simp only [Option.bind_some]; split <;> rfl
section
variable {c : S_Circuit}
theorem Fit.len (h : Fit c) : c.Latches.length ≤ 60 ∧ c.Ands.length ≤ 60 ∧ c.Inputs ≤ 60 := by
  have := h.size
  have := h.i0
  unfold Vm.size at *
  omega
theorem frame_parts (hf : Fit c) {f : Nat} (hf8 : f < 8) {s : FS} (hq : Q c f s) :
    Lp (fL0 c.Inputs) (s.1, [0], 0) = some (insF c.Inputs.toNat (s.1, [0])) ∧ FrP s.1 1 c.Inputs.toNat (insF c.Inputs.toNat (s.1, [0])) ∧
    Lp (fL1 s.2.2.2) ((insF c.Inputs.toNat (s.1, [0])).1, (insF c.Inputs.toNat (s.1, [0])).2, 0) = some (s.2.2.2.foldl latS (insF c.Inputs.toNat (s.1, [0]))) ∧
    FrP (insF c.Inputs.toNat (s.1, [0])).1 (1 + c.Inputs.toNat) s.2.2.2.length (s.2.2.2.foldl latS (insF c.Inputs.toNat (s.1, [0]))) ∧
    Lp (fL2 c.Ands) ((s.2.2.2.foldl latS (insF c.Inputs.toNat (s.1, [0]))).1, s.2.2.1, (s.2.2.2.foldl latS (insF c.Inputs.toNat (s.1, [0]))).2, 0) = some (Sum.inl (frameF c s.2.2.2 s.1 s.2.2.1)) ∧
    GaP (s.2.2.2.foldl latS (insF c.Inputs.toNat (s.1, [0]))).1 (1 + c.Inputs.toNat + s.2.2.2.length) s.2.2.1.length c.Ands.length (frameF c s.2.2.2 s.1 s.2.2.1) := by
  obtain ⟨g1, g2, g3⟩ := hf.len
  have g4 := hf.size
  have g5 := hf.i0
  unfold Vm.size at g4
  have q1 := hq.v0
  have q2 := hq.v1
  have q3 := hq.ls
  have q4 := hq.cls
  have hi : ((c.Inputs.toNat : Nat) : Int) = c.Inputs := by omega
  have a := fL0_eq (n := c.Inputs.toNat) (v := s.1) q1 (by omega) (by omega)
  rw [hi] at a
  obtain ⟨a1, a2⟩ := a
  obtain ⟨p1, p2, p3⟩ := a2
  have b : Lp (fL1 s.2.2.2) ((insF c.Inputs.toNat (s.1, [0])).1, (insF c.Inputs.toNat (s.1, [0])).2, 0) = some (s.2.2.2.foldl latS (insF c.Inputs.toNat (s.1, [0]))) ∧ FrP (insF c.Inputs.toNat (s.1, [0])).1 (1 + c.Inputs.toNat) s.2.2.2.length (s.2.2.2.foldl latS (insF c.Inputs.toNat (s.1, [0]))) := fL1_eq (ls := s.2.2.2) (v := (insF c.Inputs.toNat (s.1, [0])).1) (row := (insF c.Inputs.toNat (s.1, [0])).2) (k := 1 + c.Inputs.toNat) (by omega) (by omega) (by omega) p3 (fun x hx => by have := hq.lsr x hx; omega)
  obtain ⟨b1, b2⟩ := b
  obtain ⟨p4, p5, p6⟩ := b2
  have d := fL2_eq (c := c) (v := (s.2.2.2.foldl latS (insF c.Inputs.toNat (s.1, [0]))).1) (row := (s.2.2.2.foldl latS (insF c.Inputs.toNat (s.1, [0]))).2) (cls := s.2.2.1) (k := 1 + c.Inputs.toNat + s.2.2.2.length) (by omega) (by omega) (by omega) (by omega) p6 (by omega) hf.valid.ands
  exact ⟨a1, ⟨p1, p2, p3⟩, b1, ⟨p4, p5, p6⟩, d.1, d.2⟩
theorem frame_range (hf : Fit c) {f : Nat} (hf8 : f < 8) {s : FS} (hq : Q c f s) : Q c (f + 1) (nextF c s) ∧ LitRow (nextF c s).1 (frameF c s.2.2.2 s.1 s.2.2.1).2.2 (1 + (size c).toNat) ∧ (nextF c s).1 ≤ 480 ∧ (nextF c s).2.2.1.length ≤ 1440 := by
  obtain ⟨g1, g2, g3⟩ := hf.len
  have g4 := hf.size
  have g5 := hf.i0
  unfold Vm.size at g4
  obtain ⟨_, ⟨p1, p2, p3⟩, _, ⟨p4, p5, p6⟩, _, ⟨p7, p8, p9, p10⟩⟩ := frame_parts hf hf8 hq
  have q1 := hq.v0
  have q2 := hq.v1
  have q3 := hq.ls
  have q4 := hq.cls
  have hrow : LitRow (frameF c s.2.2.2 s.1 s.2.2.1).1 (frameF c s.2.2.2 s.1 s.2.2.1).2.2 (1 + (size c).toNat) := by
    have e : 1 + (size c).toNat = 1 + c.Inputs.toNat + s.2.2.2.length + c.Ands.length := by unfold Vm.size; omega
    rw [e]; exact p10
  refine ⟨⟨?_, ?_, ?_, ?_, ?_, ?_, ?_, ?_⟩, hrow, ?_, ?_⟩
  · show 0 ≤ (frameF c s.2.2.2 s.1 s.2.2.1).1; omega
  · show (frameF c s.2.2.2 s.1 s.2.2.1).1 ≤ 60 * ((f + 1 : Nat) : Int); omega
  · show (s.2.1 ++ [_]).length = f + 1; simp [hq.lits]
  · show (frameF c s.2.2.2 s.1 s.2.2.1).2.1.length ≤ 180 * (f + 1); omega
  · show (nexts c _).length = _; simp [nexts]
  · intro x hx
    obtain ⟨l, _, rfl⟩ := List.mem_map.1 hx
    exact (litx_range hrow l.Next (by omega)).2
  · intro r hr
    rcases List.mem_append.1 hr with hr | hr
    · exact hq.rows r hr
    · rw [List.mem_singleton.1 hr]; exact hrow.2
  · intro r hr
    rcases gfold_mem _ _ hr with hr | hr
    · exact hq.cl3 r hr
    · exact hr
  · show (frameF c s.2.2.2 s.1 s.2.2.1).1 ≤ 480; omega
  · show (frameF c s.2.2.2 s.1 s.2.2.1).2.1.length ≤ 1440; omega
theorem frameG_eq (hf : Fit c) {f : Nat} (hf8 : f < 8) {s : FS} (hq : Q c f s) : frameG c s.2.2.2 s.1 s.2.1 s.2.2.1 = some ((nextF c s).1, (nextF c s).2.1, (nextF c s).2.2.1, true) := by
  have hb := big_ge
  obtain ⟨h1, _, h2, _, h3, _⟩ := frame_parts hf hf8 hq
  obtain ⟨_, _, r1, r2⟩ := frame_range hf hf8 hq
  have r1' : (frameF c s.2.2.2 s.1 s.2.2.1).1 ≤ 480 := r1
  have r2' : (frameF c s.2.2.2 s.1 s.2.2.1).2.1.length ≤ 1440 := r2
  have hl := hq.lits
  unfold frameG
  rw [h1]
  simp only [Option.bind_some]
  rw [h2]
  simp only [Option.bind_some]
  rw [h3]
  simp only [Option.bind_some]
  rw [if_pos (by omega)]
  have e1 : decide ((frameF c s.2.2.2 s.1 s.2.2.1).1 ≤ 4000) = true := decide_eq_true (by omega)
  have e2 : decide (((frameF c s.2.2.2 s.1 s.2.2.1).2.1.length : Int) ≤ 20000) = true := decide_eq_true (by omega)
  simp only [e1, e2, if_true, Option.bind_some]
  rfl
theorem refFrame_eq (hf : Fit c) {f : Nat} (hf8 : f < 8) {s : FS} (hq : Q c f s) (s0 : Int × (List (List Int)) × (List (List Int)) × Int × (List Int)) (h0 : s0.2.2.2.2 = s.2.2.2) (k0 : Nat) :
    Lp (b_ref23_Made_L1 c s0) (k0, s.2.2.1, s.1, [0], 1) = some (k0, (frameF c s.2.2.2 s.1 s.2.2.1).2.1, (frameF c s.2.2.2 s.1 s.2.2.1).1, (frameF c s.2.2.2 s.1 s.2.2.1).2.2) := by
  have hb := big_ge
  obtain ⟨g1, g2, g3⟩ := hf.len
  have g4 := hf.size
  have g5 := hf.i0
  have few : Few c ∨ True := .inr trivial
  obtain ⟨_, ⟨p1, p2, p3⟩, _, ⟨p4, p5, p6⟩, _, _⟩ := frame_parts hf hf8 hq
  have q1 := hq.v0
  have q2 := hq.v1
  have q3 := hq.ls
  have q4 := hq.cls
  have hsz : size c = c.Inputs + c.Latches.length + c.Ands.length := rfl
  have hS : s_ref02_Size c = some (size c) := by
    unfold s_ref02_Size
    rw [hsz]
    have w2 : IntKind.wrap .i64 (c.Inputs + (c.Latches.length : Int)) = c.Inputs + c.Latches.length := wr (by omega) (by omega)
    rw [w2, wr (by omega) (by omega)]
  have hG : ∀ v : Int, 0 ≤ v → v ≤ 1000 → s_ref02_Gate c v = some (v - 1 - c.Inputs - c.Latches.length) := fun v a b => by
    unfold s_ref02_Gate
    have w1 : IntKind.wrap .i64 (v - 1) = v - 1 := wr (by omega) (by omega)
    have w2 : IntKind.wrap .i64 (v - 1 - c.Inputs) = v - 1 - c.Inputs := wr (by omega) (by omega)
    rw [w1, w2, wr (by omega) (by omega)]
  -- the inputs
  have A := Lp_run (l := List.replicate c.Inputs.toNat ()) (fun b _ => freshF b) (FrP s.1 1) (fun i b => (k0, s.2.2.1, b.1, b.2, ((i + 1 : Nat) : Int))) (f := b_ref23_Made_L1 c s0) (fun i x b hx hP => by
    have hi := lt_len hx
    rw [List.length_replicate] at hi
    obtain ⟨t1, t2, t3⟩ := hP
    obtain ⟨w1, w2⟩ := w2v (v := b.1) (by omega) (by omega)
    have e1 : decide (((i + 1 : Nat) : Int) ≤ size c) = true := decide_eq_true (by omega)
    have w3 : IntKind.wrap .i64 (((i + 1 : Nat) : Int) - 1) = (i : Int) := by rw [wr (by omega) (by omega)]; omega
    have w4 : IntKind.wrap .i64 ((i : Int) - c.Inputs) = (i : Int) - c.Inputs := wr (by omega) (by omega)
    have e2 : decide ((i : Int) - c.Inputs ≥ 0) = false := decide_eq_false (by omega)
    have e3 : decide (((i + 1 : Nat) : Int) - 1 - c.Inputs - c.Latches.length ≥ 0) = false := decide_eq_false (by omega)
    refine ⟨?_, ?_, ?_, ?_⟩
    · unfold b_ref23_Made_L1
      simp only [hS, Option.bind_some, e1, if_true, hG _ (show (0 : Int) ≤ ((i + 1 : Nat) : Int) by omega) (by omega), w3, w4, e2, Bool.false_eq_true, if_false, w1, w2, e3]
      rw [if_pos (by have := t3.2; omega)]
      simp only [Option.bind_some]
      rw [wr1 (by omega)]
      rfl
    · show s.1 ≤ b.1 + 1; omega
    · show b.1 + 1 ≤ s.1 + ((i + 1 : Nat) : Int); omega
    · exact LitRow.snoc (v' := b.1 + 1) t3 (by omega) (by omega)) (s.1, [0]) ⟨Int.le_refl _, by simp, fun x hx => by rw [List.mem_singleton.1 hx]; omega, rfl⟩
  rw [List.length_replicate] at A
  have A1 : Lp (b_ref23_Made_L1 c s0) (k0, s.2.2.1, s.1, [0], 1) = _ := A.1
  rw [A1]
  show Lp _ (k0, s.2.2.1, (insF c.Inputs.toNat (s.1, [0])).1, (insF c.Inputs.toNat (s.1, [0])).2, ((c.Inputs.toNat + 1 : Nat) : Int)) = _
  -- the latches
  have B := Lp_run (l := s.2.2.2) latS (FrP (insF c.Inputs.toNat (s.1, [0])).1 (1 + c.Inputs.toNat)) (fun i b => (k0, s.2.2.1, b.1, b.2, ((c.Inputs.toNat + i + 1 : Nat) : Int))) (f := b_ref23_Made_L1 c s0) (fun i x b hx hP => by
    have hi := lt_len hx
    obtain ⟨t1, t2, t3⟩ := hP
    obtain ⟨w1, w2⟩ := w2v (v := b.1) (by omega) (by omega)
    have hx2 := hq.lsr x (List.mem_of_getElem? hx)
    have e1 : decide (((c.Inputs.toNat + i + 1 : Nat) : Int) ≤ size c) = true := decide_eq_true (by omega)
    have w3 : IntKind.wrap .i64 (((c.Inputs.toNat + i + 1 : Nat) : Int) - 1) = ((c.Inputs.toNat + i : Nat) : Int) := by rw [wr (by omega) (by omega)]; omega
    have w4 : IntKind.wrap .i64 (((c.Inputs.toNat + i : Nat) : Int) - c.Inputs) = (i : Int) := by rw [wr (by omega) (by omega)]; omega
    have e2 : decide ((i : Int) ≥ 0) = true := decide_eq_true (by omega)
    have e3 : decide (((c.Inputs.toNat + i + 1 : Nat) : Int) - 1 - c.Inputs - c.Latches.length < 0) = true := decide_eq_true (by omega)
    have e4 : decide (((c.Inputs.toNat + i + 1 : Nat) : Int) - 1 - c.Inputs - c.Latches.length ≥ 0) = false := decide_eq_false (by omega)
    have hl := t3.2
    unfold latS
    by_cases hn : x < 0
    · have e5 : decide (x ≥ 0) = false := decide_eq_false (by omega)
      simp only [hn, if_true]
      refine ⟨?_, ?_, ?_, ?_⟩
      · unfold b_ref23_Made_L1
        simp only [hS, Option.bind_some, e1, if_true, hG _ (show (0 : Int) ≤ ((c.Inputs.toNat + i + 1 : Nat) : Int) by omega) (by omega), w3, w4, e2, e3, h0, idx_nat', hx, e5, Bool.false_eq_true, if_false, w1, w2, e4]
        rw [if_pos (by omega)]
        simp only [Option.bind_some]
        rw [wr1 (by omega)]
        rfl
      · show _ ≤ b.1 + 1; omega
      · show b.1 + 1 ≤ _ + ((i + 1 : Nat) : Int); omega
      · exact LitRow.snoc (v' := b.1 + 1) t3 (by omega) (by omega)
    · have e5 : decide (x ≥ 0) = true := decide_eq_true (by omega)
      simp only [hn, if_false]
      refine ⟨?_, ?_, ?_, ?_⟩
      · unfold b_ref23_Made_L1
        simp only [hS, Option.bind_some, e1, if_true, hG _ (show (0 : Int) ≤ ((c.Inputs.toNat + i + 1 : Nat) : Int) by omega) (by omega), w3, w4, e2, e3, h0, idx_nat', hx, e5]
        rw [if_pos (by omega)]
        simp only [Option.bind_some]
        rw [wr1 (by omega)]
        rfl
      · exact t1
      · show b.1 ≤ _ + ((i + 1 : Nat) : Int); omega
      · exact LitRow.snoc t3 (Int.le_refl _) (by omega)) (insF c.Inputs.toNat (s.1, [0])) ⟨Int.le_refl _, by simp, p3⟩
  have B1 : Lp (b_ref23_Made_L1 c s0) (k0, s.2.2.1, (insF c.Inputs.toNat (s.1, [0])).1, (insF c.Inputs.toNat (s.1, [0])).2, ((c.Inputs.toNat + 1 : Nat) : Int)) = _ := B.1
  rw [B1]
  -- the gates
  have C := Lp_run (l := c.Ands) gstep (GaP (s.2.2.2.foldl latS (insF c.Inputs.toNat (s.1, [0]))).1 (1 + c.Inputs.toNat + s.2.2.2.length) s.2.2.1.length) (fun i b => (k0, b.2.1, b.1, b.2.2, ((c.Inputs.toNat + s.2.2.2.length + i + 1 : Nat) : Int))) (f := b_ref23_Made_L1 c s0) (fun i x b hx hP => by
    have hi := lt_len hx
    have hs := hP.step (by omega) x
    obtain ⟨t1, t2, t3, t4⟩ := hP
    obtain ⟨w1, w2⟩ := w2v (v := b.1) (by omega) (by omega)
    obtain ⟨a1, a2, a3⟩ := hf.valid.ands i x hx
    have e1 : decide (((c.Inputs.toNat + s.2.2.2.length + i + 1 : Nat) : Int) ≤ size c) = true := decide_eq_true (by omega)
    have w3 : IntKind.wrap .i64 (((c.Inputs.toNat + s.2.2.2.length + i + 1 : Nat) : Int) - 1) = ((c.Inputs.toNat + s.2.2.2.length + i : Nat) : Int) := by rw [wr (by omega) (by omega)]; omega
    have w4 : IntKind.wrap .i64 (((c.Inputs.toNat + s.2.2.2.length + i : Nat) : Int) - c.Inputs) = ((s.2.2.2.length + i : Nat) : Int) := by rw [wr (by omega) (by omega)]; omega
    have e2 : decide (((s.2.2.2.length + i : Nat) : Int) ≥ 0) = true := decide_eq_true (by omega)
    have eg : ((c.Inputs.toNat + s.2.2.2.length + i + 1 : Nat) : Int) - 1 - c.Inputs - c.Latches.length = (i : Int) := by omega
    have e3 : decide ((i : Int) < 0) = false := decide_eq_false (by omega)
    have e4 : decide ((i : Int) ≥ 0) = true := decide_eq_true (by omega)
    have hok := t4.ok (by omega)
    have ll := t4.2
    have t4' := LitRow.snoc (v' := b.1 + 1) t4 (x := 2 * (b.1 + 1)) (by omega) (by omega)
    have hok' := t4'.ok (by omega)
    have ll' := t4'.2
    have same : ∀ l : Int, 0 ≤ l → (l / 2).toNat < b.2.2.length → litx (b.2.2 ++ [2 * (b.1 + 1)]) l = litx b.2.2 l := fun l _ h => by
      unfold litx
      have : (b.2.2 ++ [2 * (b.1 + 1)]).getD (l / 2).toNat 0 = b.2.2.getD (l / 2).toNat 0 := by rw [getD_snoc, if_pos h]
      rw [this]
    have g1' := ref_lit_eq (row := b.2.2 ++ [2 * (b.1 + 1)]) (l := x.A) (by omega) (by omega) (by omega) hok'
    have g2' := ref_lit_eq (row := b.2.2 ++ [2 * (b.1 + 1)]) (l := x.B) (by omega) (by omega) (by omega) hok'
    rw [same x.A (by omega) (by omega)] at g1'
    rw [same x.B (by omega) (by omega)] at g2'
    obtain ⟨ra1, ra2⟩ := litx_range t4 x.A (by omega)
    obtain ⟨rb1, rb2⟩ := litx_range t4 x.B (by omega)
    have ra3 : litx b.2.2 x.A ≤ 2 * (b.1 + 1) + 1 := by omega
    have rb3 : litx b.2.2 x.B ≤ 2 * (b.1 + 1) + 1 := by omega
    have na := notI_le ra1 ra3
    have nb := notI_le rb1 rb3
    have no := notI_le (x := 2 * (b.1 + 1)) (v := b.1 + 1) (by omega) (by omega)
    have l1 := addF_length b.2.1 [notI (2 * (b.1 + 1)), litx b.2.2 x.A]
    have l2 := addF_length (addF b.2.1 [notI (2 * (b.1 + 1)), litx b.2.2 x.A]) [notI (2 * (b.1 + 1)), litx b.2.2 x.B]
    have P1 := put_eq (cls := b.2.1) (l := [notI (2 * (b.1 + 1)), litx b.2.2 x.A]) (by simp) (two _ ⟨no.1, by omega⟩ ⟨ra1, by omega⟩) (by omega)
    have P2 := put_eq (cls := addF b.2.1 [notI (2 * (b.1 + 1)), litx b.2.2 x.A]) (l := [notI (2 * (b.1 + 1)), litx b.2.2 x.B]) (by simp) (two _ ⟨no.1, by omega⟩ ⟨rb1, by omega⟩) (by omega)
    have P3 := put_eq (cls := addF (addF b.2.1 [notI (2 * (b.1 + 1)), litx b.2.2 x.A]) [notI (2 * (b.1 + 1)), litx b.2.2 x.B]) (l := [2 * (b.1 + 1), notI (litx b.2.2 x.A), notI (litx b.2.2 x.B)]) (by simp) (three (fun x => 0 ≤ x ∧ x < 4611686018427387904) ⟨by omega, by omega⟩ ⟨na.1, by omega⟩ ⟨nb.1, by omega⟩) (by omega)
    have U3 : ∀ a0 a1 a2 a3 a4 a5 a6 a8 a9 a10 a11 a12 a13, w_ref22_Put_u3 a0 a1 a2 a3 a4 a5 a6 b.2.1 a8 a9 a10 a11 a12 a13 [notI (2 * (b.1 + 1)), litx b.2.2 x.A] = some (addF b.2.1 [notI (2 * (b.1 + 1)), litx b.2.2 x.A], b.2.1.length) := fun a0 a1 a2 a3 a4 a5 a6 a8 a9 a10 a11 a12 a13 => by
      unfold w_ref22_Put_u3
      rw [pair_eq, P1]; rfl
    refine ⟨?_, hs⟩
    unfold b_ref23_Made_L1
    simp only [hS, Option.bind_some, e1, if_true, hG _ (show (0 : Int) ≤ ((c.Inputs.toNat + s.2.2.2.length + i + 1 : Nat) : Int) by omega) (by omega), w3, w4, e2, eg, e3, Bool.false_eq_true, if_false, w1, w2, e4]
    rw [if_pos (by omega)]
    simp only [idx_nat', hx, Option.bind_some, g1', g2', Not22_eq (show (0 : Int) ≤ 2 * (b.1 + 1) by omega) (by omega), Not22_eq ra1 (by omega), Not22_eq rb1 (by omega), U3]
    unfold w_ref22_Put_u1 w_ref22_Put_u2
    rw [P2]
    simp only [Option.bind_some]
    rw [P3]
    simp only [Option.bind_some]
    rw [wr1 (by omega)]
    rfl) ((s.2.2.2.foldl latS (insF c.Inputs.toNat (s.1, [0]))).1, s.2.2.1, (s.2.2.2.foldl latS (insF c.Inputs.toNat (s.1, [0]))).2) ⟨by simp, by simp, Nat.le_refl _, p6⟩
  have C1 : Lp (b_ref23_Made_L1 c s0) (k0, s.2.2.1, (s.2.2.2.foldl latS (insF c.Inputs.toNat (s.1, [0]))).1, (s.2.2.2.foldl latS (insF c.Inputs.toNat (s.1, [0]))).2, ((c.Inputs.toNat + s.2.2.2.length + 1 : Nat) : Int)) = _ := C.1
  rw [C1]
  refine Lp_out ?_
  unfold b_ref23_Made_L1
  have e1 : decide (((c.Inputs.toNat + s.2.2.2.length + c.Ands.length + 1 : Nat) : Int) ≤ size c) = false := decide_eq_false (by omega)
  simp only [hS, Option.bind_some, e1, Bool.false_eq_true, if_false]
  rfl
end
end Go.Proofs.Ytbmhmfcjjhjkgaa.Vm
