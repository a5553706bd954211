/- The chapter's examples. -/
import Derived.Test.YtkhgnkfdpabflaaVmN6
import Derived.Test.YtkhgnkfdpabflaaVmU2
import Derived.Test.YtkhgnkfdpabflaaVmZ1
import Derived.Test.YtkhgnkfdpabflaaVmY13
namespace Go.Proofs.Ytkhgnkfdpabflaa.Vm
open Go
set_option linter.unusedVariables false
set_option linter.unusedSimpArgs false
def exC : S_Circuit := S_Circuit.mk 0 [] [] [] []
def exL : List S_Obligation := [S_Obligation.mk [] [] (-1), S_Obligation.mk [] [] 0, S_Obligation.mk [] [] 1]
theorem exC_ok : chk exC = 0 := by
  unfold chk exC
  rw [if_neg (by simp), if_neg (by simp [size]), if_pos ⟨by simp, by simp, by simp, by simp⟩]
theorem ex_clause : s_clause_Check 0 [] = some 0 := by
  rw [clause_Check_eq (by simp) (by simp) (by simp) (by simp), okL_t (fun i x hx => by simp at hx)]
  rfl
theorem ex_right : s_queue_Right exC exL = some 0 := by
  unfold s_queue_Right
  rw [gates_Check_eq (c := exC) ⟨by simp [exC, I64], by simp [exC], by simp [exC], by simp [exC], by simp [exC]⟩ ⟨by simp [exC], by simp [exC], by simp [exC], by simp [exC]⟩, exC_ok]
  simp only [Option.bind_some, bne_self_eq_false, Bool.false_eq_true, if_false]
  rw [if_neg (by simp [exL]), Lp_all (l := exL) (f := b_queue_Right_L0 exC exL) (r0 := .inl ()) (by simp [exL]) (fun i o ho => by
    have hi := lt_len ho
    unfold b_queue_Right_L0
    rw [if_pos (dec_lt hi), idx_nat', ho]
    have e1 : ((exC.Latches.length : Nat) : Int) = 0 := rfl
    have e2 : exC.Inputs = 0 := rfl
    simp only [Option.bind_some, e1, e2]
    match i, ho with
    | 0, ho => simp [exL] at ho; subst ho; simp [ex_clause]
    | 1, ho => simp [exL] at ho; subst ho; simp [ex_clause]
    | 2, ho => simp [exL] at ho; subst ho; simp [ex_clause]
    | i + 3, ho => simp [exL] at ho) (by
    unfold b_queue_Right_L0
    rw [dec_ge]; rfl)]
  rfl
theorem ex_chain : s_queue_Chain exC exL 2 = some ([2, 1, 0], 0) := by
  unfold s_queue_Chain
  rw [ex_right]
  have hc : chn (fun o : S_Obligation => o.Next) exL 2 = some [2, 1, 0] := by
    unfold chn
    rw [Lp_step (s' := (1, [2])) (by rfl), Lp_step (s' := (0, [2, 1])) (by rfl), Lp_step (s' := (-1, [2, 1, 0])) (by rfl)]
    exact Lp_out (by rfl)
  rw [hc]
  rfl
theorem aliveQ_eq : s_law38_alive = some true := by
  unfold s_law38_alive
  have hm : ∀ w ∈ ([S_Wait.mk 2 1, S_Wait.mk 1 0, S_Wait.mk 1 3] : List S_Wait), mayB w = true := by
    intro w hw
    simp only [List.mem_cons, List.not_mem_nil, or_false] at hw
    rcases hw with rfl | rfl | rfl <;> rfl
  have hs : sortQ [S_Wait.mk 2 1, S_Wait.mk 1 0, S_Wait.mk 1 3] = [S_Wait.mk 1 0, S_Wait.mk 1 3, S_Wait.mk 2 1] := by rfl
  rw [pushed_eq (by simp) hm]
  simp only [Option.bind_some]
  rw [popped_eq (by rw [sortQ_length]; simp) (sortQ_good hm), hs]
  simp only [Option.bind_some]
  have e := ex_chain
  unfold exC exL at e
  rw [e]
  simp only [Option.bind_some, beq_self_eq_true, if_true]
  rw [Same38_self _ (by simp), Same_self _ (by simp)]
  rfl
end Go.Proofs.Ytkhgnkfdpabflaa.Vm
