/- The reference's Check. -/
import Derived.Test.YtkhgnkfdpabflaaVmN2
namespace Go.Proofs.Ytkhgnkfdpabflaa.Vm
open Go
set_option linter.unusedVariables false
set_option linter.unusedSimpArgs false
def preL (q : List S_Wait) (i : Nat) (x : S_Wait) : Bool := match q[i - 1]? with | some y => lessB x y | none => false
theorem preL_at {q : List S_Wait} {i : Nat} {x y : S_Wait} (h : q[i - 1]? = some y) : preL q i x = lessB x y := by unfold preL; rw [h]
def badL (q : List S_Wait) (i : Nat) (x : S_Wait) : Bool := !mayB x || (decide (0 < i) && preL q i x)
theorem rCheck_eq (q : List S_Wait) : s_ref38_Check q = some (chkQ q) := by
  unfold s_ref38_Check
  by_cases hl : 1000 < q.length
  · rw [if_pos (by simp; omega)]
    unfold chkQ; rw [if_pos hl]
  · rw [if_neg (by simp; omega)]
    obtain ⟨r, h1, h2⟩ := Lp_find (l := q) (badL q) (f := b_ref38_Check_L0 q) (r0 := .inl ()) (fun _ => .inr ()) (by omega) (fun i x hx => by
      have hlt := lt_len hx
      unfold b_ref38_Check_L0
      rw [if_pos (dec_lt hlt), idx_nat', hx]
      simp only [Option.bind_some, May_eq]
      rcases Bool.eq_false_or_eq_true (mayB x) with hm | hm
      · by_cases h0 : 0 < i
        · have e1 : IntKind.wrap .i64 ((i : Int) - 1) = ((i - 1 : Nat) : Int) := by rw [wr (by omega) (by omega)]; omega
          have hy : q[i - 1]? = some q[i - 1] := List.getElem?_eq_getElem (by omega)
          have e2 : decide ((i : Int) > 0) = true := by simp; omega
          have e3 : badL q i x = lessB x q[i - 1] := by simp [badL, hm, h0, preL_at hy]
          rw [e3]
          simp only [hm, if_true, e2, e1, idx_nat', hy, Option.bind_some, Less_eq]
          cases lessB x q[i - 1] <;> rfl
        · have e2 : decide ((i : Int) > 0) = false := by simp; omega
          have e3 : badL q i x = false := by simp [badL, hm, h0]
          rw [e3]
          simp only [hm, if_true, e2, Bool.false_eq_true, if_false]
          rfl
      · have e3 : badL q i x = true := by simp [badL, hm]
        rw [e3]
        simp only [hm, Bool.false_eq_true, if_false]
        rfl) (by
      unfold b_ref38_Check_L0
      rw [dec_ge]; rfl)
    rw [h1]
    rcases h2 with ⟨hn, rfl⟩ | ⟨i, x, hx, hp, rfl⟩
    · have hg : GoodQ q := ⟨fun w hw => by
        obtain ⟨i, hi⟩ := List.getElem?_of_mem hw
        have := hn i w hi
        simp only [badL, Bool.or_eq_false_iff, Bool.not_eq_false'] at this
        exact this.1, fun i x y hx hy => by
        have := hn (i + 1) y hy
        simp only [badL, Bool.or_eq_false_iff] at this
        rw [preL_at (y := x) (by simpa using hx)] at this
        simpa using this.2⟩
      rw [chkQ_good (by omega) hg]; rfl
    · have hg : ¬ GoodQ q := fun hg => by
        have hm := hg.1 x (List.mem_of_getElem? hx)
        simp only [badL, hm, Bool.not_true, Bool.false_or, Bool.and_eq_true, decide_eq_true_eq] at hp
        have hlt := lt_len hx
        have hy : q[i - 1]? = some q[i - 1] := List.getElem?_eq_getElem (by omega)
        have := hg.2 (i - 1) _ _ hy (by rw [show i - 1 + 1 = i by omega]; exact hx)
        rw [preL_at hy, this] at hp
        cases hp.2
      rw [chkQ_bad (by omega) hg]; rfl
end Go.Proofs.Ytkhgnkfdpabflaa.Vm
