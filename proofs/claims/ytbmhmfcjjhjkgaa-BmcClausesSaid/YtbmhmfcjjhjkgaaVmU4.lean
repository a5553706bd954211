/- Frames: the program's and the reference's clauses of frames are one. -/
import Derived.Test.YtbmhmfcjjhjkgaaVmU3
namespace Go.Proofs.Ytbmhmfcjjhjkgaa.Vm
open Go
set_option linter.unusedVariables false
set_option linter.unusedSimpArgs false
def freshF (b : Int × List Int) : Int × List Int := (b.1 + 1, b.2 ++ [2 * (b.1 + 1)])
def insF (n : Nat) (b : Int × List Int) : Int × List Int := (List.replicate n ()).foldl (fun b _ => freshF b) b
def latS (b : Int × List Int) (x : Int) : Int × List Int := if x < 0 then freshF b else (b.1, b.2 ++ [x])
def gstep (b : Int × List (List Int) × List Int) (a : S_And) : Int × List (List Int) × List Int :=
  (b.1 + 1, addF (addF (addF b.2.1 [notI (2 * (b.1 + 1)), litx b.2.2 a.A]) [notI (2 * (b.1 + 1)), litx b.2.2 a.B]) [2 * (b.1 + 1), notI (litx b.2.2 a.A), notI (litx b.2.2 a.B)], b.2.2 ++ [2 * (b.1 + 1)])
def LitRow (v : Int) (row : List Int) (n : Nat) : Prop := (∀ x ∈ row, 0 ≤ x ∧ x ≤ 2 * v + 1) ∧ row.length = n
theorem LitRow.ok {v : Int} {row : List Int} {n : Nat} (h : LitRow v row n) (hv : v ≤ 1000000) : RowOk row := fun x hx => by have := h.1 x hx; omega
theorem LitRow.snoc {v v' : Int} {row : List Int} {n : Nat} (h : LitRow v row n) {x : Int} (hv : v ≤ v') (hx : 0 ≤ x ∧ x ≤ 2 * v' + 1) : LitRow v' (row ++ [x]) (n + 1) := by
  refine ⟨fun y hy => ?_, by simp [h.2]⟩
  rcases List.mem_append.1 hy with hy | hy
  · have := h.1 y hy; omega
  · rw [List.mem_singleton.1 hy]; exact hx
def fL0 (n : Int) (s0 : Int × (List Int) × Int) : Option ((Int × (List Int) × Int) ⊕ (Int × (List Int))) :=
  if (decide (s0.2.2 < n)) = true then
    if s0.2.1.length + 1 ≤ big then
      some (Sum.inl ((IntKind.wrap .i64 (s0.1 + 1)), (s0.2.1 ++ ([(IntKind.wrap .i64 (2 * (IntKind.wrap .i64 (s0.1 + 1))))] : List Int)), (IntKind.wrap .i64 (s0.2.2 + 1))))
    else none
  else
    some (Sum.inr (s0.1, s0.2.1))
def fL1 (ls : List Int) (s1 : Int × (List Int) × Int) : Option ((Int × (List Int) × Int) ⊕ (Int × (List Int))) :=
  if (decide (s1.2.2 < (ls.length : Int))) = true then
    (idx ls s1.2.2).bind fun x1 =>
    (if (decide (x1 < 0)) = true then
        some ((IntKind.wrap .i64 (s1.1 + 1)), (IntKind.wrap .i64 (2 * (IntKind.wrap .i64 (s1.1 + 1)))))
      else
        some (s1.1, x1)).bind fun x2 =>
    if s1.2.1.length + 1 ≤ big then
      some (Sum.inl (x2.1, (s1.2.1 ++ ([x2.2] : List Int)), (IntKind.wrap .i64 (s1.2.2 + 1))))
    else none
  else
    some (Sum.inr (s1.1, s1.2.1))
noncomputable def fL2 (gs : List S_And) (s2 : Int × (List (List Int)) × (List Int) × Int) : Option ((Int × (List (List Int)) × (List Int) × Int) ⊕ ((Int × (List (List Int)) × (List Int)) ⊕ (Int × (List (List Int))))) :=
  if (decide (s2.2.2.2 < (gs.length : Int))) = true then
    (idx gs s2.2.2.2).bind fun x2 =>
    if (decide ((IntKind.wrap .i64 (s2.1 + 1)) > 4000)) = true then
      some (Sum.inr (Sum.inr ((IntKind.wrap .i64 (s2.1 + 1)), s2.2.1)))
    else
      (s_unroll_lit s2.2.2.1 x2.A).bind fun r0 =>
      (s_unroll_lit s2.2.2.1 x2.B).bind fun r1 =>
      if s2.2.2.1.length + 1 ≤ big then
        (addG (IntKind.wrap .i64 (s2.1 + 1)) s2.2.1 ([(xorI .i64 (IntKind.wrap .i64 (2 * (IntKind.wrap .i64 (s2.1 + 1)))) 1), r0] : List Int)).bind fun x3 =>
        (addG (IntKind.wrap .i64 (s2.1 + 1)) x3 ([(xorI .i64 (IntKind.wrap .i64 (2 * (IntKind.wrap .i64 (s2.1 + 1)))) 1), r1] : List Int)).bind fun x4 =>
        (addG (IntKind.wrap .i64 (s2.1 + 1)) x4 ([(IntKind.wrap .i64 (2 * (IntKind.wrap .i64 (s2.1 + 1)))), (xorI .i64 r0 1), (xorI .i64 r1 1)] : List Int)).bind fun x5 =>
        some (Sum.inl ((IntKind.wrap .i64 (s2.1 + 1)), x5, (s2.2.2.1 ++ ([(IntKind.wrap .i64 (2 * (IntKind.wrap .i64 (s2.1 + 1))))] : List Int)), (IntKind.wrap .i64 (s2.2.2.2 + 1))))
      else none
  else
    some (Sum.inr (Sum.inl (s2.1, s2.2.1, s2.2.2.1)))
noncomputable def frameG (c : S_Circuit) (ls : List Int) (v : Int) (lits cls : List (List Int)) : Option (Int × (List (List Int)) × (List (List Int)) × Bool) :=
  (Lp (fL0 c.Inputs) (v, ([0] : List Int), 0)).bind fun x0 =>
  (Lp (fL1 ls) (x0.1, x0.2, 0)).bind fun x1 =>
  (Lp (fL2 c.Ands) (x1.1, cls, x1.2, 0)).bind fun x2 =>
  match x2 with
  | .inl x2' =>
    if lits.length + 1 ≤ big then
      (if (decide (x2'.1 ≤ 4000)) = true then
          some (decide ((x2'.2.1.length : Int) ≤ 20000))
        else
          some false).bind fun x3 =>
      some (x2'.1, (lits ++ ([x2'.2.2] : List (List Int))), x2'.2.1, x3)
    else none
  | .inr x2' =>
    some (x2'.1, lits, x2'.2, false)
theorem frame_u0 (c : S_Circuit) (ls : List Int) (a2 : S_Circuit) (a3 : Int) (a4 a5 : List (List Int)) (v : Int) (lits cls : List (List Int)) : w_unroll_frames_frame_u0 c ls a2 a3 a4 a5 v lits cls = frameG c ls v lits cls := rfl
theorem frame_u1 (c : S_Circuit) (a1 : S_Circuit) (a2 : Int) (a3 a4 : List (List Int)) (v : Int) (lits cls : List (List Int)) (ls : List Int) : w_unroll_frames_frame_u1 c a1 a2 a3 a4 v lits cls ls = frameG c ls v lits cls := rfl
theorem big_ge : (1000000 : Nat) ≤ big := by decide
theorem w2v {v : Int} (h0 : 0 ≤ v) (h1 : v ≤ 1000000) : IntKind.wrap .i64 (v + 1) = v + 1 ∧ IntKind.wrap .i64 (2 * (v + 1)) = 2 * (v + 1) := ⟨wr (by omega) (by omega), wr (by omega) (by omega)⟩
def FrP (v : Int) (k : Nat) (i : Nat) (b : Int × List Int) : Prop := v ≤ b.1 ∧ b.1 ≤ v + i ∧ LitRow b.1 b.2 (k + i)
theorem fL0_eq {n : Nat} {v : Int} (h0 : 0 ≤ v) (h1 : v ≤ 100000) (hn : n ≤ 100000) : Lp (fL0 (n : Int)) (v, [0], 0) = some (insF n (v, [0])) ∧ FrP v 1 n (insF n (v, [0])) := by
  have hb := big_ge
  have := Lp_fold (l := List.replicate n ()) (fun b _ => freshF b) (FrP v 1) (fun b i => (b.1, b.2, i)) (f := fL0 (n : Int)) (fun b => b) (by simp; omega) (fun i x b hx hP => by
    have hi := lt_len hx
    rw [List.length_replicate] at hi
    obtain ⟨p1, p2, p3⟩ := hP
    obtain ⟨w1, w2⟩ := w2v (v := b.1) (by omega) (by omega)
    refine ⟨?_, ?_⟩
    · unfold fL0
      simp only [dec_lt hi, if_true, w1, w2]
      rw [if_pos (by have := p3.2; omega)]; rfl
    · refine ⟨?_, ?_, ?_⟩
      · show v ≤ b.1 + 1; omega
      · show b.1 + 1 ≤ v + ((i + 1 : Nat) : Int); omega
      · exact LitRow.snoc (v' := b.1 + 1) p3 (by omega) (by omega)) (fun b hP => by
    unfold fL0
    simp only [List.length_replicate, dec_ge]; rfl) (v, [0]) ⟨Int.le_refl _, by simp, fun x hx => by rw [List.mem_singleton.1 hx]; omega, rfl⟩
  rw [List.length_replicate] at this
  exact this
theorem fL1_eq {ls : List Int} {v : Int} {row : List Int} {k : Nat} (h0 : 0 ≤ v) (h1 : v ≤ 100000) (hk : k + ls.length ≤ 100000) (hr : LitRow v row k) (hls : ∀ x ∈ ls, x ≤ 2 * v + 1) :
    Lp (fL1 ls) (v, row, 0) = some (ls.foldl latS (v, row)) ∧ FrP v k ls.length (ls.foldl latS (v, row)) := by
  have hb := big_ge
  exact Lp_fold (l := ls) latS (FrP v k) (fun b i => (b.1, b.2, i)) (f := fL1 ls) (fun b => b) (by omega) (fun i x b hx hP => by
    have hi := lt_len hx
    obtain ⟨p1, p2, p3⟩ := hP
    obtain ⟨w1, w2⟩ := w2v (v := b.1) (by omega) (by omega)
    have hx2 := hls x (List.mem_of_getElem? hx)
    unfold latS
    by_cases hn : x < 0
    · simp only [hn, if_true]
      refine ⟨?_, ?_, ?_, ?_⟩
      · unfold fL1
        simp only [dec_lt hi, if_true, idx_nat', hx, Option.bind_some, hn, decide_true, w1, w2]
        rw [if_pos (by have := p3.2; omega)]; rfl
      · show v ≤ b.1 + 1; omega
      · show b.1 + 1 ≤ v + ((i + 1 : Nat) : Int); omega
      · exact LitRow.snoc (v' := b.1 + 1) p3 (by omega) (by omega)
    · simp only [hn, if_false]
      refine ⟨?_, ?_, ?_, ?_⟩
      · unfold fL1
        simp only [dec_lt hi, if_true, idx_nat', hx, Option.bind_some, hn, decide_false, Bool.false_eq_true, if_false]
        rw [if_pos (by have := p3.2; omega)]
      · exact p1
      · show b.1 ≤ v + ((i + 1 : Nat) : Int); omega
      · exact p3.snoc (Int.le_refl _) (by omega)) (fun b hP => by
    unfold fL1
    simp only [dec_ge]; rfl) (v, row) ⟨Int.le_refl _, by simp, hr⟩
theorem litx_range {v : Int} {row : List Int} {n : Nat} (h : LitRow v row n) (l : Int) (hv : 0 ≤ v) : 0 ≤ litx row l ∧ litx row l ≤ 2 * v + 1 := by
  have : ∀ j, 0 ≤ row.getD j 0 ∧ row.getD j 0 ≤ 2 * v + 1 := fun j => by
    by_cases hj : j < row.length
    · exact h.1 _ (List.mem_of_getElem? (getD_some hj))
    · simp [List.getD, List.getElem?_eq_none (show row.length ≤ j by omega)]; omega
  have a := this (l / 2).toNat
  unfold litx notI
  split
  · split <;> omega
  · exact a
theorem notI_le {x v : Int} (h0 : 0 ≤ x) (h1 : x ≤ 2 * v + 1) : 0 ≤ notI x ∧ notI x ≤ 2 * v + 1 := by unfold notI; split <;> omega
def GaP (v : Int) (k m : Nat) (i : Nat) (b : Int × List (List Int) × List Int) : Prop := b.1 = v + i ∧ b.2.1.length ≤ m + 3 * i ∧ m ≤ b.2.1.length ∧ LitRow b.1 b.2.2 (k + i)
theorem three (P : Int → Prop) {a b c : Int} (h1 : P a) (h2 : P b) (h3 : P c) : ∀ x ∈ [a, b, c], P x := by
  intro x hx
  simp only [List.mem_cons, List.not_mem_nil, or_false] at hx
  rcases hx with rfl | rfl | rfl <;> assumption
theorem two (P : Int → Prop) {a b : Int} (h1 : P a) (h2 : P b) : ∀ x ∈ [a, b], P x := by
  intro x hx
  simp only [List.mem_cons, List.not_mem_nil, or_false] at hx
  rcases hx with rfl | rfl <;> assumption
theorem GaP.step {v : Int} {k m i : Nat} {b : Int × List (List Int) × List Int} (h0 : 0 ≤ v) (hP : GaP v k m i b) (x : S_And) : GaP v k m (i + 1) (gstep b x) := by
  obtain ⟨p1, p2, p3, p4⟩ := hP
  have l1 := addF_length b.2.1 [notI (2 * (b.1 + 1)), litx b.2.2 x.A]
  have l2 := addF_length (addF b.2.1 [notI (2 * (b.1 + 1)), litx b.2.2 x.A]) [notI (2 * (b.1 + 1)), litx b.2.2 x.B]
  have l3 := addF_length (addF (addF b.2.1 [notI (2 * (b.1 + 1)), litx b.2.2 x.A]) [notI (2 * (b.1 + 1)), litx b.2.2 x.B]) [2 * (b.1 + 1), notI (litx b.2.2 x.A), notI (litx b.2.2 x.B)]
  refine ⟨?_, ?_, ?_, ?_⟩
  · show b.1 + 1 = v + ((i + 1 : Nat) : Int); omega
  · show (addF (addF (addF b.2.1 _) _) _).length ≤ _; omega
  · show m ≤ (addF (addF (addF b.2.1 _) _) _).length; omega
  · exact LitRow.snoc (v' := b.1 + 1) p4 (by omega) (by omega)
theorem fL2_eq {c : S_Circuit} {v : Int} {row : List Int} {cls : List (List Int)} {k : Nat} (hk : (k : Int) = 1 + c.Inputs + c.Latches.length) (h0 : 0 ≤ v) (h1 : v + c.Ands.length ≤ 4000) (hkl : k + c.Ands.length ≤ 100000) (hr : LitRow v row k) (hcl : cls.length ≤ 100000)
    (ha : ∀ (i : Nat) a, c.Ands[i]? = some a → andOk c i a) :
    Lp (fL2 c.Ands) (v, cls, row, 0) = some (Sum.inl (c.Ands.foldl gstep (v, cls, row))) ∧ GaP v k cls.length c.Ands.length (c.Ands.foldl gstep (v, cls, row)) := by
  have hb := big_ge
  exact Lp_fold (l := c.Ands) gstep (GaP v k cls.length) (fun b i => (b.1, b.2.1, b.2.2, i)) (f := fL2 c.Ands) (fun b => Sum.inl b) (by omega) (fun i x b hx hP => by
    have hi := lt_len hx
    have hs := hP.step h0 x
    obtain ⟨p1, p2, p3, p4⟩ := hP
    obtain ⟨w1, w2⟩ := w2v (v := b.1) (by omega) (by omega)
    obtain ⟨a1, a2, a3⟩ := ha i x hx
    have e1 : decide (b.1 + 1 > 4000) = false := decide_eq_false (by omega)
    have hok := p4.ok (by omega)
    have ll := p4.2
    have g1 := unroll_lit_eq (row := b.2.2) (l := x.A) (by omega) (by omega) (by omega) hok
    have g2 := unroll_lit_eq (row := b.2.2) (l := x.B) (by omega) (by omega) (by omega) hok
    obtain ⟨ra1, ra2⟩ := litx_range p4 x.A (by omega)
    obtain ⟨rb1, rb2⟩ := litx_range p4 x.B (by omega)
    have ra3 : litx b.2.2 x.A ≤ 2 * (b.1 + 1) + 1 := by omega
    have rb3 : litx b.2.2 x.B ≤ 2 * (b.1 + 1) + 1 := by omega
    have na := notI_le ra1 ra3
    have nb := notI_le rb1 rb3
    have no := notI_le (x := 2 * (b.1 + 1)) (v := b.1 + 1) (by omega) (by omega)
    have l1 := addF_length b.2.1 [notI (2 * (b.1 + 1)), litx b.2.2 x.A]
    have l2 := addF_length (addF b.2.1 [notI (2 * (b.1 + 1)), litx b.2.2 x.A]) [notI (2 * (b.1 + 1)), litx b.2.2 x.B]
    refine ⟨?_, hs⟩
    unfold fL2
    simp only [dec_lt hi, if_true, idx_nat', hx, Option.bind_some, w1, w2, e1, Bool.false_eq_true, if_false, g1, g2]
    rw [if_pos (by omega), xor_one (by omega) (by omega), xor_one ra1 (by omega), xor_one rb1 (by omega)]
    rw [addG_eq (v := b.1 + 1) (by omega) (by omega) (by simp) (two _ no ⟨ra1, ra3⟩) (by omega)]
    simp only [Option.bind_some]
    rw [addG_eq (v := b.1 + 1) (by omega) (by omega) (by simp) (two _ no ⟨rb1, rb3⟩) (by omega)]
    simp only [Option.bind_some]
    rw [addG_eq (v := b.1 + 1) (by omega) (by omega) (by simp) (three (fun x => 0 ≤ x ∧ x ≤ 2 * (b.1 + 1) + 1) ⟨by omega, by omega⟩ na nb) (by omega)]
    rfl) (fun b hP => by
    unfold fL2
    simp only [dec_ge]; rfl) (v, cls, row) ⟨by simp, by simp, Nat.le_refl _, hr⟩
end Go.Proofs.Ytbmhmfcjjhjkgaa.Vm
