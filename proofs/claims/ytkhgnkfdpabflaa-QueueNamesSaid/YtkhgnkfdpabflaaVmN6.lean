/- What is pushed one by one, and popped one by one. -/
import Derived.Test.YtkhgnkfdpabflaaVmN5
import Derived.Test.YtkhgnkfdpabflaaVmN2
namespace Go.Proofs.Ytkhgnkfdpabflaa.Vm
open Go
set_option linter.unusedVariables false
set_option linter.unusedSimpArgs false
theorem push_good {q : List S_Wait} {w : S_Wait} (hg : GoodQ q) (hl : q.length < 1000) (hm : mayB w = true) : s_queue_Push q w = some (putQ q w, 0) := by
  rw [Push_eq, pushA_ok (chkQ_good (by omega) hg) hm (by omega)]
theorem pop_good {w : S_Wait} {r : List S_Wait} (hg : GoodQ (w :: r)) (hl : r.length < 1000) : s_queue_Pop (w :: r) = some (w, r, 0) := by
  rw [Pop_eq, popA_cons (chkQ_good (by simp; omega) hg)]
theorem pushed_eq {l : List S_Wait} (hl : l.length ≤ 1000) (hm : ∀ w ∈ l, mayB w = true) : s_law38_pushed l = some (sortQ l, 0) := by
  unfold s_law38_pushed
  cases l with
  | nil => rfl
  | cons w0 r =>
    have e0 : decide (0 < ((w0 :: r).length : Int)) = true := by simp
    have i0 : idx (w0 :: r) 0 = some w0 := by have := idx_nat' (w0 :: r) 0; simpa using this
    have hm0 := hm w0 (List.mem_cons_self ..)
    rw [if_pos e0, i0]
    simp only [Option.bind_some]
    rw [push_good good_nil (by simp) hm0]
    simp only [Option.bind_some, bne_self_eq_false, Bool.false_eq_true, if_false]
    have key : Lp (b_law38_pushed_L0 (w0 :: r)) (putQ [] w0, IntKind.wrap .i64 (0 + 1)) = some (.inl (sortQ (w0 :: r))) := by
      have h := Lp_to (f := b_law38_pushed_L0 (w0 :: r)) (fun i => (sortQ ((w0 :: r).take (i + 1)), ((i + 1 : Nat) : Int))) r.length (r := .inl (sortQ (w0 :: r))) (fun i hi => by
        have hx : (w0 :: r)[i + 1]? = some r[i] := by simp [List.getElem?_eq_getElem hi]
        have hg : GoodQ (sortQ ((w0 :: r).take (i + 1))) := sortQ_good fun w hw => hm w (List.mem_of_mem_take hw)
        have hlen : (sortQ ((w0 :: r).take (i + 1))).length < 1000 := by
          rw [sortQ_length, List.length_take]; simp only [List.length_cons] at hl ⊢; omega
        have hmx : mayB r[i] = true := hm _ (List.mem_cons_of_mem _ (List.getElem_mem hi))
        unfold b_law38_pushed_L0
        rw [if_pos (by simp; omega)]
        simp only
        rw [idx_nat', hx]
        simp only [Option.bind_some]
        rw [push_good hg hlen hmx]
        simp only [Option.bind_some, bne_self_eq_false, Bool.false_eq_true, if_false]
        have ht : (w0 :: r).take (i + 1 + 1) = (w0 :: r).take (i + 1) ++ [r[i]] := by
          rw [List.take_add_one, hx]; rfl
        rw [wr1 (by simp only [List.length_cons] at hl; omega), ht, sortQ_snoc]) (by
        have ht : (w0 :: r).take (r.length + 1) = w0 :: r := List.take_of_length_le (by simp)
        unfold b_law38_pushed_L0
        rw [if_neg (by simp), ht])
      have e1 : IntKind.wrap .i64 (0 + 1) = ((0 + 1 : Nat) : Int) := by decide
      rw [e1]
      have e2 : sortQ ((w0 :: r).take (0 + 1)) = putQ [] w0 := rfl
      rw [← e2]
      exact h
    rw [key]
    rfl
theorem popped_eq {q : List S_Wait} (hl : q.length ≤ 1000) (hg : GoodQ q) : s_law38_popped q = some (q, true) := by
  unfold s_law38_popped
  cases q with
  | nil =>
    rw [Pop_eq, popA_nil]
    rfl
  | cons w0 r =>
    simp only [List.length_cons] at hl
    have e0 : decide ((0 : Int) ≤ 2000) = true := rfl
    rw [pop_good hg (by omega)]
    simp only [Option.bind_some, bne_self_eq_false, Bool.false_eq_true, if_false, List.nil_append, List.length_nil, Nat.zero_add]
    have key : ∀ (r acc : List S_Wait) (k : Nat), GoodQ r → r.length + k ≤ 1000 → acc.length + r.length ≤ 1000 → Lp b_law38_popped_L0 (acc, r, (k : Int)) = some (.inr (acc ++ r, true)) := by
      intro r
      induction r with
      | nil =>
        intro acc k _ hk ha
        refine Lp_out ?_
        unfold b_law38_popped_L0
        rw [if_pos (by simp at hk ⊢; omega)]
        simp only
        rw [Pop_eq, popA_nil]
        simp
      | cons w r ih =>
        intro acc k hg hk ha
        simp only [List.length_cons] at hk ha
        have hstep : b_law38_popped_L0 (acc, w :: r, (k : Int)) = some (.inl (acc ++ [w], r, ((k + 1 : Nat) : Int))) := by
          unfold b_law38_popped_L0
          rw [if_pos (by simp; omega)]
          simp only
          rw [pop_good hg (by omega)]
          simp only [Option.bind_some, bne_self_eq_false, Bool.false_eq_true, if_false]
          rw [if_pos (by unfold big; omega), wr1 (by omega)]
        rw [Lp_step hstep, ih (acc ++ [w]) (k + 1) (good_tail hg) (by omega) (by simp; omega)]
        simp
    have e1 : IntKind.wrap .i64 (0 + 1) = ((1 : Nat) : Int) := by decide
    rw [e1, key r [w0] 1 (good_tail hg) (by omega) (by simp; omega)]
    rfl
end Go.Proofs.Ytkhgnkfdpabflaa.Vm
