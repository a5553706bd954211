/- QueueBack. -/
import Derived.Test.YtkhgnkfdpabflaaVmN7
import Derived.Test.YtkhgnkfdpabflaaVmN3
import Derived.Test.YtkhgnkfdpabflaaVmD1QueueBack
namespace Go.Proofs.Ytkhgnkfdpabflaa.Vm
open Go
set_option linter.unusedVariables false
set_option linter.unusedSimpArgs false
theorem plain_QueueBack (q : List S_Wait) (w : S_Wait) (h1 : q.length ≤ maxLen ∧ ∀ y ∈ q, R_S_Wait y) (_ : R_S_Wait w) : s_law38_QueueBack q w = some true := by
  unfold s_law38_QueueBack
  rw [alive_eq]
  simp only [Option.bind_some]
  by_cases c1 : (q.length : Int) > 130
  · simp [c1]
  · have e1 : decide ((q.length : Int) > 130) = false := by simpa using c1
    rw [rCheck_eq]
    simp only [e1, Bool.false_eq_true, if_false, Option.bind_some, May_eq]
    by_cases hc : chkQ q = 0
    · have e2 : (chkQ q != 0) = false := by simp [hc]
      simp only [e2, Bool.false_eq_true, if_false]
      rcases Bool.eq_false_or_eq_true (mayB w) with hm | hm
      · obtain ⟨hl, hg⟩ := chkQ_0 hc
        simp only [hm, if_true, Option.bind_some, Bool.not_true, Bool.false_eq_true, if_false]
        rw [push_good hg (by omega) hm]
        have hg2 := putQ_good hg hm
        have hlen := putQ_length q w
        have hne : putQ q w ≠ [] := fun e => by rw [e] at hlen; simp at hlen
        obtain ⟨x, r, hxr⟩ := List.exists_cons_of_ne_nil hne
        rw [hxr] at hg2 hlen
        simp only [List.length_cons] at hlen
        simp only [Option.bind_some, hxr]
        rw [pop_good hg2 (by omega)]
        have e3 : (((x :: r).length : Int) != IntKind.wrap .i64 ((q.length : Int) + 1)) = false := by
          rw [wr1 (by omega)]
          simp only [List.length_cons, bne_eq_false_iff_eq]
          omega
        simp only [Option.bind_some, bne_self_eq_false, Bool.false_eq_true, if_false, e3]
        cases q with
        | nil =>
          have : putQ [] w = [w] := rfl
          rw [this] at hxr
          cases hxr
          simp [Same38_self]
        | cons a q =>
          have i0 : idx (a :: q) 0 = some a := by have := idx_nat' (a :: q) 0; simpa using this
          have e4 : (((a :: q).length : Int) == 0) = false := by simp; omega
          simp only [e4, Bool.false_eq_true, if_false, i0, Option.bind_some, Less_eq]
          rcases Bool.eq_false_or_eq_true (lessB a w) with hlw | hlw
          · -- another one is first
            have hwa : lessB w a = false := leQ_asymm hlw
            have hp : putQ (a :: q) w = a :: putQ q w := by
              unfold putQ plc
              rw [List.findIdx_cons, hwa]
              simp
            rw [hp] at hxr
            cases hxr
            have hgq := good_tail hg
            simp only [List.length_cons] at hl c1
            simp only [hlw, Bool.not_true, Bool.false_eq_true, if_false]
            rw [pop_good hg (by omega)]
            simp only [Option.bind_some]
            rw [push_good hgq (by omega) hm]
            simp only [Option.bind_some, if_true, beq_self_eq_true]
            rw [Same38_self _ (by rw [putQ_length]; omega)]
            rfl
          · -- it is the first
            have hp : putQ (a :: q) w = w :: a :: q ∨ a = w := by
              rcases Bool.eq_false_or_eq_true (lessB w a) with h | h
              · left
                unfold putQ plc
                rw [List.findIdx_cons, h]
                simp
              · right
                exact leQ_anti h hlw
            simp only [hlw, Bool.not_false, if_true]
            rcases hp with hp | rfl
            · rw [hp] at hxr
              cases hxr
              simp only [beq_self_eq_true, if_true]
              rw [Same38_self _ (by simp only [List.length_cons] at c1 ⊢; omega)]
              rfl
            · -- equal to the first: behind it, and the same
              have haa : lessB a a = false := by unfold lessB; simp
              have hp : putQ (a :: q) a = a :: putQ q a := by
                unfold putQ plc
                rw [List.findIdx_cons, haa]
                simp
              have hp2 : putQ q a = a :: q := by
                have hs := (GoodQ_iff.1 hg).2
                have hq := (List.pairwise_cons.1 hs)
                refine sorted_unique (putQ_perm q a) (putQ_sorted a hq.2) hs
              rw [hp, hp2] at hxr
              cases hxr
              simp only [beq_self_eq_true, if_true]
              rw [Same38_self _ (by simp only [List.length_cons] at c1 ⊢; omega)]
              rfl
      · simp [hm]
    · have e2 : (chkQ q != 0) = true := by simpa using hc
      simp [e2]
end Go.Proofs.Ytkhgnkfdpabflaa.Vm
