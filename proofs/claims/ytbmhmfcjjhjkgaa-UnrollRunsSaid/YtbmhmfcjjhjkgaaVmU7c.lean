/- law23's own little example is as it should be. -/
import Derived.Test.YtbmhmfcjjhjkgaaVmU6
namespace Go.Proofs.Ytbmhmfcjjhjkgaa.Vm
open Go
set_option linter.unusedVariables false
set_option linter.unusedSimpArgs false
def turnsC : S_Circuit := ⟨0, [⟨3, 0⟩], [], [], []⟩
def oneC : S_Circuit := ⟨1, [⟨2, 0⟩], [], [], []⟩
theorem turns_eq : s_law23_turns = some turnsC := rfl
theorem mem1 {α : Type} {P : α → Prop} {a : α} (h : P a) : ∀ x ∈ [a], P x := fun x hx => by rw [List.mem_singleton.1 hx]; exact h
theorem mem0 {α : Type} {P : α → Prop} : ∀ x ∈ ([] : List α), P x := fun x hx => by cases hx
theorem turns_fit : Fit turnsC := ⟨⟨mem0, mem0, mem1 ⟨by decide, by decide, by decide⟩, fun i a h => by simp [turnsC] at h⟩, by decide, by decide⟩
theorem one_fit : Fit oneC := ⟨⟨mem0, mem0, mem1 ⟨by decide, by decide, by decide⟩, fun i a h => by simp [oneC] at h⟩, by decide, by decide⟩
theorem turns_rc : RC turnsC := ⟨⟨by decide, by decide⟩, mem1 ⟨⟨by decide, by decide⟩, by decide, by decide⟩, mem0, mem0, mem0⟩
theorem one_rc : RC oneC := ⟨⟨by decide, by decide⟩, mem1 ⟨⟨by decide, by decide⟩, by decide, by decide⟩, mem0, mem0, mem0⟩
theorem few1 {c : S_Circuit} (h : c.Latches.length ≤ 1) (h2 : c.Ands = []) (h3 : c.Bads = []) (h4 : c.Constraints = []) : Few c := ⟨by omega, by rw [h2]; simp, by rw [h3]; simp, by rw [h4]; simp⟩
theorem chk_of {c : S_Circuit} (h : Fit c) (h3 : c.Bads = []) (h4 : c.Constraints = []) : chk c = 0 := by
  have g1 := h.i0
  have g2 := h.size
  have g3 := h.len
  unfold chk
  rw [if_neg (by omega), if_neg (by rw [h3, h4]; simp; omega), if_pos h.valid]
theorem Of_val {c : S_Circuit} (hr : RC c) (hw : Few c) (hf : Fit c) (hc : chk c = 0) {n : Nat} (h1 : 1 ≤ n) (h8 : n ≤ 8) : s_unroll_Of c (n : Int) = some (cnfF c false n, 0) := by
  rw [unroll_Of_eq hr hw (fun _ => hf) (.inl (by omega))]
  unfold answer
  rw [if_neg (by simp [hc]), if_neg (by omega), Int.toNat_natCast]
theorem Free_val {c : S_Circuit} (hr : RC c) (hw : Few c) (hf : Fit c) (hc : chk c = 0) {n : Nat} (h1 : 1 ≤ n) (h8 : n ≤ 8) : s_unroll_Free c (n : Int) = some (cnfF c true n, 0) := by
  rw [unroll_Free_eq hr hw (fun _ => hf) (.inl (by omega))]
  unfold answer
  rw [if_neg (by simp [hc]), if_neg (by omega), Int.toNat_natCast]
theorem v1 : cnfF turnsC false 3 = ⟨0, [[0, 0], [0, 1], [0, 0]], []⟩ := by rfl
theorem v2 : cnfF turnsC true 3 = ⟨1, [[0, 2], [0, 3], [0, 2]], []⟩ := by rfl
theorem v3 : cnfF oneC false 3 = ⟨3, [[0, 2, 0], [0, 4, 2], [0, 6, 4]], []⟩ := by rfl
theorem alive_eq : s_law23_alive = some true := by
  have tw : Few turnsC := few1 (by decide) rfl rfl rfl
  have ow : Few oneC := few1 (by decide) rfl rfl rfl
  have tc := chk_of turns_fit rfl rfl
  have oc := chk_of one_fit rfl rfl
  have a : s_unroll_Of turnsC 3 = _ := Of_val turns_rc tw turns_fit tc (n := 3) (by decide) (by decide)
  have b : s_unroll_Free turnsC 3 = _ := Free_val turns_rc tw turns_fit tc (n := 3) (by decide) (by decide)
  have d : s_unroll_Of oneC 3 = _ := Of_val one_rc ow one_fit oc (n := 3) (by decide) (by decide)
  have t1 := Same22_self (cnf_tame turns_fit false (N := 3) (by decide))
  have t2 := Same22_self (cnf_tame turns_fit true (N := 3) (by decide))
  have t3 := Same22_self (cnf_tame one_fit false (N := 3) (by decide))
  rw [v1] at a t1
  rw [v2] at b t2
  rw [v3] at d t3
  unfold s_law23_alive
  rw [turns_eq]
  simp only [Option.bind_some, a, b]
  show ((s_unroll_Of oneC 3).bind _) = _
  rw [d]
  simp only [Option.bind_some, BEq.rfl, if_true, t1, t2, t3]
end Go.Proofs.Ytbmhmfcjjhjkgaa.Vm
