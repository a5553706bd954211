/- Both checks of a circuit answer the same. -/
import Derived.Test.YtkhgnkfdpabflaaVmU1a
namespace Go.Proofs.Ytkhgnkfdpabflaa.Vm
open Go
set_option linter.unusedVariables false
set_option linter.unusedSimpArgs false
def I64 (n : Int) : Prop := -9223372036854775808 ≤ n ∧ n ≤ 9223372036854775807
def RC (c : S_Circuit) : Prop := I64 c.Inputs ∧ (∀ l ∈ c.Latches, I64 l.Next ∧ I64 l.Reset) ∧ (∀ a ∈ c.Ands, I64 a.A ∧ I64 a.B) ∧ (∀ x ∈ c.Bads, I64 x) ∧ (∀ x ∈ c.Constraints, I64 x)
def Few (c : S_Circuit) : Prop := c.Latches.length ≤ 1000 ∧ c.Ands.length ≤ 1000 ∧ c.Bads.length ≤ 1000 ∧ c.Constraints.length ≤ 1000
def size (c : S_Circuit) : Int := c.Inputs + c.Latches.length + c.Ands.length
def litOk (n x : Int) : Prop := 0 ≤ x ∧ x / 2 ≤ n
instance (n x : Int) : Decidable (litOk n x) := by unfold litOk; infer_instance
def andOk (c : S_Circuit) (i : Nat) (a : S_And) : Prop := 0 ≤ a.B ∧ a.B ≤ a.A ∧ a.A / 2 ≤ c.Inputs + c.Latches.length + i
structure Valid (c : S_Circuit) : Prop where
  bads : ∀ x ∈ c.Bads, litOk (size c) x
  cons : ∀ x ∈ c.Constraints, litOk (size c) x
  latches : ∀ l ∈ c.Latches, litOk (size c) l.Next ∧ 0 ≤ l.Reset ∧ l.Reset ≤ 2
  ands : ∀ (i : Nat) a, c.Ands[i]? = some a → andOk c i a
open Classical in
noncomputable def chk (c : S_Circuit) : Int :=
  if c.Inputs < 0 then 8
  else if c.Inputs > 1000 ∨ size c > 1000 ∨ c.Bads.length > 100 ∨ c.Constraints.length > 100 then 4
  else if Valid c then 0 else 8
section
variable {c : S_Circuit}
theorem starts_eq (h0 : 0 ≤ c.Inputs) (h1 : c.Inputs ≤ 1000) (hf : Few c) : s_gates_starts c = some (A4_Int.mk 1 (1 + c.Inputs) (1 + c.Inputs + c.Latches.length) (1 + size c)) := by
  obtain ⟨f1, f2, f3, f4⟩ := hf
  unfold s_gates_starts size
  have w1 : IntKind.wrap .i64 (1 + c.Inputs) = 1 + c.Inputs := wr (by omega) (by omega)
  have w2 : IntKind.wrap .i64 (1 + c.Inputs + (c.Latches.length : Int)) = 1 + c.Inputs + c.Latches.length := wr (by omega) (by omega)
  have w3 : IntKind.wrap .i64 (1 + c.Inputs + (c.Latches.length : Int) + (c.Ands.length : Int)) = 1 + c.Inputs + c.Latches.length + c.Ands.length := wr (by omega) (by omega)
  rw [w1, w2, w3]
  congr 2; omega
theorem shr_lit {n x : Int} (hx : 0 ≤ x) : decide (shrI .i64 x 1 ≥ 1 + n) = !decide (x / 2 ≤ n) := by
  rw [shr1 hx]
  by_cases h : x / 2 ≤ n
  · have : ¬ x / 2 ≥ 1 + n := by omega
    simp [h, this]
  · have : x / 2 ≥ 1 + n := by omega
    simp [h, this]
theorem bads_find {l : List Int} {f : Int → Option (Int ⊕ (Unit ⊕ Int))} {n : Int} (hl : l.length < 9223372036854775807)
    (hf : ∀ (i : Nat) x, l[i]? = some x → f i = (if (decide (x < 0)) = true then some true else some (decide ((shrI .i64 x 1) ≥ 1 + n))).bind fun b => if b = true then some (Sum.inr (Sum.inr (i : Int))) else some (Sum.inl (IntKind.wrap .i64 ((i : Int) + 1))))
    (he : f l.length = some (Sum.inr (Sum.inl ()))) : ∃ r, Lp f 0 = some r ∧ ((∀ x ∈ l, litOk n x) ∧ r = Sum.inl () ∨ ¬ (∀ x ∈ l, litOk n x) ∧ ∃ i : Nat, r = Sum.inr (i : Int)) := by
  obtain ⟨r, h1, h2⟩ := Lp_find (l := l) (fun _ x => decide (x < 0) || !decide (x / 2 ≤ n)) (f := f) (r0 := Sum.inl ()) (fun i => Sum.inr i) hl (fun i x hx => by
    rw [hf i x hx]
    cases hd : decide (x < 0) with
    | true => rfl
    | false =>
      have : ¬ x < 0 := of_decide_eq_false hd
      rw [shr_lit (by omega)]
      simp only [Bool.false_eq_true, if_false, Option.bind_some, Bool.false_or]
      cases decide (x / 2 ≤ n) <;> rfl) he
  refine ⟨r, h1, ?_⟩
  rcases h2 with ⟨h, rfl⟩ | ⟨i, x, hx, hp, rfl⟩
  · refine .inl ⟨fun x hx => ?_, rfl⟩
    obtain ⟨i, hi⟩ := List.mem_iff_getElem?.1 hx
    have := h i x hi
    simp only [Bool.or_eq_false_iff, decide_eq_false_iff_not, Bool.not_eq_false', decide_eq_true_eq] at this
    exact ⟨by omega, by omega⟩
  · refine .inr ⟨fun h => ?_, i, rfl⟩
    have := h x (List.mem_of_getElem? hx)
    simp only [Bool.or_eq_true, decide_eq_true_eq, Bool.not_eq_true', decide_eq_false_iff_not] at hp
    obtain ⟨a, b⟩ := this
    omega
theorem gates_Check_eq (hr : RC c) (hf : Few c) : s_gates_Check c = some (chk c) := by
  obtain ⟨r1, r2, r3, r4, r5⟩ := hr
  have hff := hf
  obtain ⟨f1, f2, f3, f4⟩ := hf
  unfold s_gates_Check chk
  by_cases h0 : c.Inputs < 0
  · simp only [h0, decide_true, if_true]
  · simp only [h0, decide_false, if_false, Bool.false_eq_true]
    by_cases h1 : c.Inputs > 1000
    · simp only [h1, decide_true, if_true, true_or]; rfl
    · have st := starts_eq (c := c) (by omega) (by omega) hff
      have w : IntKind.wrap .i64 (1 + size c - 1) = size c := by unfold size; rw [wr (by omega) (by omega)]; omega
      simp only [h1, decide_false, if_false, Bool.false_eq_true, false_or, st, Option.bind_some, w]
      by_cases h2 : size c > 1000
      · simp only [h2, decide_true, if_true, true_or]; rfl
      · simp only [h2, decide_false, if_false, Bool.false_eq_true, false_or]
        have e3 : decide (mxI (c.Bads.length : Int) (c.Constraints.length : Int) > 100) = decide (c.Bads.length > 100 ∨ c.Constraints.length > 100) := by
          rw [decide_eq_decide]
          unfold mxI
          split <;> rename_i hh <;> simp only [decide_eq_true_eq] at hh <;> omega
        rw [e3]
        by_cases h3 : c.Bads.length > 100 ∨ c.Constraints.length > 100
        · simp only [h3, decide_true, if_true, Option.bind_some]
        · simp only [h3, decide_false, if_false, Bool.false_eq_true, Option.bind_some]
          have em1 : decide ((-1 : Int) ≥ 0) = false := by decide
          have ei : ∀ i : Nat, decide ((i : Int) ≥ 0) = true := fun i => by rw [decide_eq_true_eq]; omega
          obtain ⟨b1, q1, p1⟩ := bads_find (l := c.Bads) (f := b_gates_Check_L0 c (A4_Int.mk 1 (1 + c.Inputs) (1 + c.Inputs + c.Latches.length) (1 + size c))) (n := size c) (by omega) (fun i x hx => by
            unfold b_gates_Check_L0; rw [dec_lt (lt_len hx), idx_nat', hx]; rfl) (by unfold b_gates_Check_L0; rw [dec_ge]; rfl)
          obtain ⟨b2, q2, p2⟩ := bads_find (l := c.Constraints) (f := b_gates_Check_L1 c (A4_Int.mk 1 (1 + c.Inputs) (1 + c.Inputs + c.Latches.length) (1 + size c))) (n := size c) (by omega) (fun i x hx => by
            unfold b_gates_Check_L1; rw [dec_lt (lt_len hx), idx_nat', hx]; rfl) (by unfold b_gates_Check_L1; rw [dec_ge]; rfl)
          rw [q1]
          rcases p1 with ⟨p1, rfl⟩ | ⟨p1, i, rfl⟩
          rotate_left
          · have : ¬ Valid c := fun v => p1 v.bads
            simp only [Option.bind_some, ei, if_true, this, if_false]
          · simp only [Option.bind_some, em1, Bool.false_eq_true, if_false]
            rw [q2]
            rcases p2 with ⟨p2, rfl⟩ | ⟨p2, i, rfl⟩
            rotate_left
            · have : ¬ Valid c := fun v => p2 v.cons
              simp only [Option.bind_some, ei, if_true, this, if_false]
            · simp only [Option.bind_some, em1, Bool.false_eq_true, if_false]
              obtain ⟨r, g1, g2⟩ := Lp_find (l := c.Latches) (fun _ x => !(decide (litOk (size c) x.Next) && (decide (0 ≤ x.Reset) && decide (x.Reset ≤ 2)))) (f := b_gates_Check_L2 c (A4_Int.mk 1 (1 + c.Inputs) (1 + c.Inputs + c.Latches.length) (1 + size c))) (r0 := Sum.inl ()) (fun i => Sum.inr i) (by omega) (fun i x hx => by
                unfold b_gates_Check_L2
                rw [dec_lt (lt_len hx), idx_nat', hx]
                simp only [if_true, Option.bind_some]
                by_cases e0 : x.Next < 0
                · have e0' : decide (litOk (size c) x.Next) = false := by rw [decide_eq_false_iff_not]; exact fun h => by have := h.1; omega
                  simp only [e0, decide_true, if_true, e0']; rfl
                · rw [shr_lit (by omega)]
                  have e0' : decide (litOk (size c) x.Next) = decide (x.Next / 2 ≤ size c) := by
                    rw [decide_eq_decide]; exact ⟨fun h => h.2, fun h => ⟨by omega, h⟩⟩
                  rw [e0']
                  simp only [e0, decide_false, if_false, Bool.false_eq_true, Option.bind_some]
                  cases decide (x.Next / 2 ≤ size c) with
                  | false => rfl
                  | true =>
                    simp only [Bool.not_true, if_false, Bool.false_eq_true, Bool.true_and]
                    by_cases e1 : x.Reset < 0
                    · have e1' : decide (0 ≤ x.Reset) = false := by rw [decide_eq_false_iff_not]; omega
                      simp only [e1, decide_true, if_true, e1']; rfl
                    · have e1' : decide (0 ≤ x.Reset) = true := by rw [decide_eq_true_eq]; omega
                      simp only [e1, decide_false, if_false, Bool.false_eq_true, e1', Option.bind_some, Bool.true_and]
                      by_cases e2 : x.Reset > 2
                      · have e2' : decide (x.Reset ≤ 2) = false := by rw [decide_eq_false_iff_not]; omega
                        simp only [e2, decide_true, if_true, e2']; rfl
                      · have e2' : decide (x.Reset ≤ 2) = true := by rw [decide_eq_true_eq]; omega
                        simp only [e2, decide_false, if_false, Bool.false_eq_true, e2']; rfl) (by unfold b_gates_Check_L2; rw [dec_ge]; rfl)
              rw [g1]
              rcases g2 with ⟨h, rfl⟩ | ⟨i, x, hx, hp, rfl⟩
              · simp only [Option.bind_some, em1, Bool.false_eq_true, if_false]
                obtain ⟨r', g1', g2'⟩ := Lp_find (l := c.Ands) (fun i x => !(decide (0 ≤ x.B) && (decide (x.B ≤ x.A) && decide (x.A / 2 ≤ c.Inputs + c.Latches.length + i)))) (f := b_gates_Check_L3 c (A4_Int.mk 1 (1 + c.Inputs) (1 + c.Inputs + c.Latches.length) (1 + size c))) (r0 := Sum.inl ()) (fun _ => Sum.inr ()) (by omega) (fun i x hx => by
                  have hi := lt_len hx
                  unfold b_gates_Check_L3
                  rw [dec_lt hi, idx_nat', hx]
                  simp only [if_true, Option.bind_some]
                  by_cases e1 : x.B < 0
                  · have e1' : decide (0 ≤ x.B) = false := by rw [decide_eq_false_iff_not]; omega
                    simp only [e1, decide_true, if_true, e1']; rfl
                  · have e1' : decide (0 ≤ x.B) = true := by rw [decide_eq_true_eq]; omega
                    simp only [e1, decide_false, if_false, Bool.false_eq_true, e1', Bool.true_and]
                    by_cases e2 : x.A < x.B
                    · have e2' : decide (x.B ≤ x.A) = false := by rw [decide_eq_false_iff_not]; omega
                      simp only [e2, decide_true, if_true, e2']; rfl
                    · have e2' : decide (x.B ≤ x.A) = true := by rw [decide_eq_true_eq]; omega
                      have w2 : IntKind.wrap .i64 (1 + c.Inputs + (c.Latches.length : Int) + (i : Int)) = 1 + c.Inputs + c.Latches.length + i := wr (by omega) (by omega)
                      have w3 : IntKind.wrap .i64 (2 * (1 + c.Inputs + (c.Latches.length : Int) + (i : Int))) = 2 * (1 + c.Inputs + c.Latches.length + i) := wr (by omega) (by omega)
                      simp only [e2, decide_false, if_false, Bool.false_eq_true, e2', Bool.true_and, w2, w3, Option.bind_some]
                      by_cases e3 : x.A ≥ 2 * (1 + c.Inputs + c.Latches.length + i)
                      · have e3' : decide (x.A / 2 ≤ c.Inputs + c.Latches.length + i) = false := by rw [decide_eq_false_iff_not]; omega
                        simp only [e3, decide_true, if_true, e3']; rfl
                      · have e3' : decide (x.A / 2 ≤ c.Inputs + c.Latches.length + i) = true := by rw [decide_eq_true_eq]; omega
                        simp only [e3, decide_false, if_false, Bool.false_eq_true, e3']; rfl) (by unfold b_gates_Check_L3; rw [dec_ge]; rfl)
                rw [g1']
                have hl : ∀ l ∈ c.Latches, litOk (size c) l.Next ∧ 0 ≤ l.Reset ∧ l.Reset ≤ 2 := fun l hl => by
                  obtain ⟨i, hi⟩ := List.mem_iff_getElem?.1 hl
                  have := h i l hi
                  simpa using this
                rcases g2' with ⟨h', rfl⟩ | ⟨i, x, hx, hp, rfl⟩
                · have : Valid c := ⟨p1, p2, hl, fun i a ha => by
                    have := h' i a ha
                    simpa [andOk] using this⟩
                  simp only [this, if_true, Option.bind_some]
                · have : ¬ Valid c := fun v => by
                    have := v.ands i x hx
                    obtain ⟨a1, a2, a3⟩ := this
                    simp [a1, a2, a3] at hp
                  simp only [this, if_false, Option.bind_some]
              · have : ¬ Valid c := fun v => by
                  obtain ⟨a1, a2, a3⟩ := v.latches x (List.mem_of_getElem? hx)
                  simp [a1, a2, a3] at hp
                have e : decide ((i : Int) ≥ 0) = true := by rw [decide_eq_true_eq]; omega
                simp only [this, if_false, Option.bind_some, e, if_true]
end
end Go.Proofs.Ytkhgnkfdpabflaa.Vm
