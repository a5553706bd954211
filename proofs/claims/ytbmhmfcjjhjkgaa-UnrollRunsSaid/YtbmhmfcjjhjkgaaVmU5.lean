/- Frames behind frames: the program's and the reference's are one. -/
import Derived.Test.YtbmhmfcjjhjkgaaVmU4
namespace Go.Proofs.Ytbmhmfcjjhjkgaa.Vm
open Go
set_option linter.unusedVariables false
set_option linter.unusedSimpArgs false
structure Fit (c : S_Circuit) : Prop where
  valid : Valid c
  i0 : 0 ≤ c.Inputs
  size : size c ≤ 60
def frameF (c : S_Circuit) (ls : List Int) (v : Int) (cls : List (List Int)) : Int × List (List Int) × List Int :=
  c.Ands.foldl gstep ((ls.foldl latS (insF c.Inputs.toNat (v, [0]))).1, cls, (ls.foldl latS (insF c.Inputs.toNat (v, [0]))).2)
def nexts (c : S_Circuit) (row : List Int) : List Int := c.Latches.map fun l => litx row l.Next
abbrev FS := Int × List (List Int) × List (List Int) × List Int
def nextF (c : S_Circuit) (s : FS) : FS := ((frameF c s.2.2.2 s.1 s.2.2.1).1, s.2.1 ++ [(frameF c s.2.2.2 s.1 s.2.2.1).2.2], (frameF c s.2.2.2 s.1 s.2.2.1).2.1, nexts c (frameF c s.2.2.2 s.1 s.2.2.1).2.2)
structure Q (c : S_Circuit) (f : Nat) (s : FS) : Prop where
  v0 : 0 ≤ s.1
  v1 : s.1 ≤ 60 * f
  lits : s.2.1.length = f
  cls : s.2.2.1.length ≤ 180 * f
  ls : s.2.2.2.length = c.Latches.length
  lsr : ∀ x ∈ s.2.2.2, x ≤ 2 * s.1 + 1
  rows : ∀ r ∈ s.2.1, r.length = 1 + (size c).toNat
  cl3 : ∀ r ∈ s.2.2.1, r.length ≤ 3
theorem addF_mem {cls : List (List Int)} {lits : List Int} {r : List Int} (h : r ∈ addF cls lits) : r ∈ cls ∨ r.length ≤ lits.length := by
  unfold addF at h
  split at h
  · exact .inl h
  · split at h
    · exact .inl h
    · rcases List.mem_append.1 h with h | h
      · exact .inl h
      · right
        rw [List.mem_singleton.1 h]
        have := dd_len (isort (lits.filter (· != 0)))
        rw [isort_length] at this
        have h2 : (lits.filter (· != 0)).length ≤ lits.length := List.length_filter_le _ _
        unfold norm
        omega
theorem gstep_mem {b : Int × List (List Int) × List Int} {x : S_And} {r : List Int} (h : r ∈ (gstep b x).2.1) : r ∈ b.2.1 ∨ r.length ≤ 3 := by
  rcases addF_mem h with h | h
  · rcases addF_mem h with h | h
    · rcases addF_mem h with h | h
      · exact .inl h
      · simp at h; exact .inr (by omega)
    · simp at h; exact .inr (by omega)
  · simp at h; exact .inr (by omega)
theorem gfold_mem : ∀ (gs : List S_And) (b : Int × List (List Int) × List Int) {r : List Int}, r ∈ (gs.foldl gstep b).2.1 → r ∈ b.2.1 ∨ r.length ≤ 3
  | [], _, _, h => .inl h
  | g :: gs, b, r, h => by
    rcases gfold_mem gs (gstep b g) h with h | h
    · exact gstep_mem h
    · exact .inr h
section
variable {c : S_Circuit}
theorem Fit.len (h : Fit c) : c.Latches.length ≤ 60 ∧ c.Ands.length ≤ 60 ∧ c.Inputs ≤ 60 := by
  have := h.size
  have := h.i0
  unfold Vm.size at *
  omega
theorem frame_parts (hf : Fit c) {f : Nat} (hf8 : f < 8) {s : FS} (hq : Q c f s) :
    Lp (fL0 c.Inputs) (s.1, [0], 0) = some (insF c.Inputs.toNat (s.1, [0])) ∧ FrP s.1 1 c.Inputs.toNat (insF c.Inputs.toNat (s.1, [0])) ∧
    Lp (fL1 s.2.2.2) ((insF c.Inputs.toNat (s.1, [0])).1, (insF c.Inputs.toNat (s.1, [0])).2, 0) = some (s.2.2.2.foldl latS (insF c.Inputs.toNat (s.1, [0]))) ∧
    FrP (insF c.Inputs.toNat (s.1, [0])).1 (1 + c.Inputs.toNat) s.2.2.2.length (s.2.2.2.foldl latS (insF c.Inputs.toNat (s.1, [0]))) ∧
    Lp (fL2 c.Ands) ((s.2.2.2.foldl latS (insF c.Inputs.toNat (s.1, [0]))).1, s.2.2.1, (s.2.2.2.foldl latS (insF c.Inputs.toNat (s.1, [0]))).2, 0) = some (Sum.inl (frameF c s.2.2.2 s.1 s.2.2.1)) ∧
    GaP (s.2.2.2.foldl latS (insF c.Inputs.toNat (s.1, [0]))).1 (1 + c.Inputs.toNat + s.2.2.2.length) s.2.2.1.length c.Ands.length (frameF c s.2.2.2 s.1 s.2.2.1) := by
  obtain ⟨g1, g2, g3⟩ := hf.len
  have g4 := hf.size
  have g5 := hf.i0
  unfold Vm.size at g4
  have q1 := hq.v0
  have q2 := hq.v1
  have q3 := hq.ls
  have q4 := hq.cls
  have hi : ((c.Inputs.toNat : Nat) : Int) = c.Inputs := by omega
  have a := fL0_eq (n := c.Inputs.toNat) (v := s.1) q1 (by omega) (by omega)
  rw [hi] at a
  obtain ⟨a1, a2⟩ := a
  obtain ⟨p1, p2, p3⟩ := a2
  have b : Lp (fL1 s.2.2.2) ((insF c.Inputs.toNat (s.1, [0])).1, (insF c.Inputs.toNat (s.1, [0])).2, 0) = some (s.2.2.2.foldl latS (insF c.Inputs.toNat (s.1, [0]))) ∧ FrP (insF c.Inputs.toNat (s.1, [0])).1 (1 + c.Inputs.toNat) s.2.2.2.length (s.2.2.2.foldl latS (insF c.Inputs.toNat (s.1, [0]))) := fL1_eq (ls := s.2.2.2) (v := (insF c.Inputs.toNat (s.1, [0])).1) (row := (insF c.Inputs.toNat (s.1, [0])).2) (k := 1 + c.Inputs.toNat) (by omega) (by omega) (by omega) p3 (fun x hx => by have := hq.lsr x hx; omega)
  obtain ⟨b1, b2⟩ := b
  obtain ⟨p4, p5, p6⟩ := b2
  have d := fL2_eq (c := c) (v := (s.2.2.2.foldl latS (insF c.Inputs.toNat (s.1, [0]))).1) (row := (s.2.2.2.foldl latS (insF c.Inputs.toNat (s.1, [0]))).2) (cls := s.2.2.1) (k := 1 + c.Inputs.toNat + s.2.2.2.length) (by omega) (by omega) (by omega) (by omega) p6 (by omega) hf.valid.ands
  exact ⟨a1, ⟨p1, p2, p3⟩, b1, ⟨p4, p5, p6⟩, d.1, d.2⟩
theorem frame_range (hf : Fit c) {f : Nat} (hf8 : f < 8) {s : FS} (hq : Q c f s) : Q c (f + 1) (nextF c s) ∧ LitRow (nextF c s).1 (frameF c s.2.2.2 s.1 s.2.2.1).2.2 (1 + (size c).toNat) ∧ (nextF c s).1 ≤ 480 ∧ (nextF c s).2.2.1.length ≤ 1440 := by
  obtain ⟨g1, g2, g3⟩ := hf.len
  have g4 := hf.size
  have g5 := hf.i0
  unfold Vm.size at g4
  obtain ⟨_, ⟨p1, p2, p3⟩, _, ⟨p4, p5, p6⟩, _, ⟨p7, p8, p9, p10⟩⟩ := frame_parts hf hf8 hq
  have q1 := hq.v0
  have q2 := hq.v1
  have q3 := hq.ls
  have q4 := hq.cls
  have hrow : LitRow (frameF c s.2.2.2 s.1 s.2.2.1).1 (frameF c s.2.2.2 s.1 s.2.2.1).2.2 (1 + (size c).toNat) := by
    have e : 1 + (size c).toNat = 1 + c.Inputs.toNat + s.2.2.2.length + c.Ands.length := by unfold Vm.size; omega
    rw [e]; exact p10
  refine ⟨⟨?_, ?_, ?_, ?_, ?_, ?_, ?_, ?_⟩, hrow, ?_, ?_⟩
  · show 0 ≤ (frameF c s.2.2.2 s.1 s.2.2.1).1; omega
  · show (frameF c s.2.2.2 s.1 s.2.2.1).1 ≤ 60 * ((f + 1 : Nat) : Int); omega
  · show (s.2.1 ++ [_]).length = f + 1; simp [hq.lits]
  · show (frameF c s.2.2.2 s.1 s.2.2.1).2.1.length ≤ 180 * (f + 1); omega
  · show (nexts c _).length = _; simp [nexts]
  · intro x hx
    obtain ⟨l, _, rfl⟩ := List.mem_map.1 hx
    exact (litx_range hrow l.Next (by omega)).2
  · intro r hr
    rcases List.mem_append.1 hr with hr | hr
    · exact hq.rows r hr
    · rw [List.mem_singleton.1 hr]; exact hrow.2
  · intro r hr
    rcases gfold_mem _ _ hr with hr | hr
    · exact hq.cl3 r hr
    · exact hr
  · show (frameF c s.2.2.2 s.1 s.2.2.1).1 ≤ 480; omega
  · show (frameF c s.2.2.2 s.1 s.2.2.1).2.1.length ≤ 1440; omega
theorem frameG_eq (hf : Fit c) {f : Nat} (hf8 : f < 8) {s : FS} (hq : Q c f s) : frameG c s.2.2.2 s.1 s.2.1 s.2.2.1 = some ((nextF c s).1, (nextF c s).2.1, (nextF c s).2.2.1, true) := by
  have hb := big_ge
  obtain ⟨h1, _, h2, _, h3, _⟩ := frame_parts hf hf8 hq
  obtain ⟨_, _, r1, r2⟩ := frame_range hf hf8 hq
  have r1' : (frameF c s.2.2.2 s.1 s.2.2.1).1 ≤ 480 := r1
  have r2' : (frameF c s.2.2.2 s.1 s.2.2.1).2.1.length ≤ 1440 := r2
  have hl := hq.lits
  unfold frameG
  rw [h1]
  simp only [Option.bind_some]
  rw [h2]
  simp only [Option.bind_some]
  rw [h3]
  simp only [Option.bind_some]
  rw [if_pos (by omega)]
  have e1 : decide ((frameF c s.2.2.2 s.1 s.2.2.1).1 ≤ 4000) = true := decide_eq_true (by omega)
  have e2 : decide (((frameF c s.2.2.2 s.1 s.2.2.1).2.1.length : Int) ≤ 20000) = true := decide_eq_true (by omega)
  simp only [e1, e2, if_true, Option.bind_some]
  rfl
end
end Go.Proofs.Ytbmhmfcjjhjkgaa.Vm
