/- The reference's Push and Pop; QueueTells. -/
import Derived.Test.YtkhgnkfdpabflaaVmN3
import Derived.Test.YtkhgnkfdpabflaaVmD1QueueTells
namespace Go.Proofs.Ytkhgnkfdpabflaa.Vm
open Go
set_option linter.unusedVariables false
set_option linter.unusedSimpArgs false
theorem With_eq (q : List S_Wait) (w : S_Wait) (hl : q.length ≤ 1010) : s_ref38_With q w = some (putQ q w) := by
  unfold s_ref38_With
  rw [Lp_first (lessB w) (l := q) (f := b_ref38_With_L0 q w) (by omega) (fun i x hx => by
    unfold b_ref38_With_L0
    rw [if_pos (dec_lt (lt_len hx)), idx_nat', hx]
    simp only [Option.bind_some, Less_eq]
    cases lessB w x <;> rfl) (by
    unfold b_ref38_With_L0
    rw [dec_ge]; rfl)]
  have hp := plc_le q w
  unfold plc at hp
  simp only [Option.bind_some, Int.toNat_natCast, List.nil_append, List.length_nil, Nat.zero_add]
  have l1 : (slice 0 (q.findIdx (lessB w)) q).length = q.findIdx (lessB w) := by simp [slice]; omega
  rw [if_pos (by unfold inC; omega), if_pos (by rw [l1]; unfold big; omega), if_pos (by rw [l1]; unfold big; omega), if_pos (by unfold inC; omega),
    if_pos (by simp [slice]; unfold big; omega)]
  simp [putQ, plc, slice]
  exact List.take_of_length_le (by simp)
theorem rPush_eq (q : List S_Wait) (w : S_Wait) : s_ref38_Push q w = some (pushA q w) := by
  unfold s_ref38_Push
  rw [rCheck_eq]
  simp only [Option.bind_some, May_eq]
  by_cases hc : chkQ q = 0
  · obtain ⟨hl, hg⟩ := chkQ_0 hc
    have e0 : (chkQ q != 0) = false := by simp [hc]
    simp only [e0, Bool.false_eq_true, if_false]
    cases hm : mayB w with
    | false => rw [pushA_not hc hm]; rfl
    | true =>
      simp only [if_true]
      by_cases hf : q.length = 1000
      · rw [pushA_full hc hm hf, if_pos (by simp [hf])]
      · rw [pushA_ok hc hm hf, if_neg (by simp; omega), With_eq q w (by omega)]
        rfl
  · rw [pushA_bad hc, if_pos (by simpa using hc)]
theorem rPop_eq (q : List S_Wait) : s_ref38_Pop q = some (popA q) := by
  unfold s_ref38_Pop
  rw [rCheck_eq]
  simp only [Option.bind_some]
  by_cases hc : chkQ q = 0
  · obtain ⟨hl, hg⟩ := chkQ_0 hc
    have e0 : (chkQ q != 0) = false := by simp [hc]
    simp only [e0, Bool.false_eq_true, if_false]
    cases q with
    | nil => rw [popA_nil]; rfl
    | cons w r =>
      rw [popA_cons hc]
      simp only [List.length_cons] at hl
      have i0 : idx (w :: r) 0 = some w := by have := idx_nat' (w :: r) 0; simpa using this
      have ic : inC (w :: r).length 1 ((w :: r).length : Int) := by unfold inC; simp; omega
      rw [if_neg (by simp; omega), i0]
      simp only [Option.bind_some]
      rw [if_pos ic, if_pos (by unfold big; simp [slice]; omega)]
      simp [slice]
  · rw [popA_bad hc, if_pos (by simpa using hc)]
theorem popA_len (q : List S_Wait) : (popA q).2.1.length ≤ q.length := by
  by_cases hc : chkQ q = 0
  · cases q with
    | nil => rw [popA_nil]; simp
    | cons w r => rw [popA_cons hc]; simp
  · rw [popA_bad hc]; simp
theorem pushA_len (q : List S_Wait) (w : S_Wait) : (pushA q w).1.length ≤ q.length + 1 := by
  unfold pushA
  split
  · simp
  · split
    · split
      · simp
      · rw [putQ_length]; exact Nat.le_refl _
    · simp
theorem great38 (n : Nat) : ∃ b, s_ref38_Great (n : Int) = some b ∧ (b = false → n ≤ 1010) := by
  unfold s_ref38_Great
  by_cases h1 : decide ((n : Int) > 130) = true
  · by_cases h2 : decide ((n : Int) < 1000) = true
    · exact ⟨true, by simp [h1, h2], fun h => by cases h⟩
    · refine ⟨decide ((n : Int) > 1010), by simp [h1, h2], fun h => ?_⟩
      simp at h; omega
  · refine ⟨decide ((n : Int) > 1010), by simp [h1], fun h => ?_⟩
    simp at h; omega
theorem plain_QueueTells (q : List S_Wait) (w : S_Wait) (h1 : q.length ≤ maxLen ∧ ∀ y ∈ q, R_S_Wait y) (_ : R_S_Wait w) : s_law38_QueueTells q w = some true := by
  unfold s_law38_QueueTells
  obtain ⟨b, hb, hw⟩ := great38 q.length
  rw [hb]
  simp only [Option.bind_some]
  cases b with
  | true => rfl
  | false =>
    have hl := hw rfl
    have p1 := popA_len q
    have p2 := pushA_len q w
    simp only [Bool.false_eq_true, if_false, List.nil_append, List.length_nil, Nat.zero_add]
    rw [if_pos (by unfold big; omega)]
    simp only [Push_eq, rPush_eq, Pop_eq, rPop_eq, Check_eq, rCheck_eq, Option.bind_some, beq_self_eq_true, if_true]
    rw [Same38_self _ (by omega), Same38_self _ (by omega), Same38_self _ (by omega)]
    simp
end Go.Proofs.Ytkhgnkfdpabflaa.Vm
