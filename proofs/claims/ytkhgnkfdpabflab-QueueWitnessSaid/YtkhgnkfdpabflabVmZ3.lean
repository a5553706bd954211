/- QueueChains, of typed arguments. -/
import Derived.Test.YtkhgnkfdpabflabVmZ2
import Derived.Test.YtkhgnkfdpabflabVmY13
import Derived.Test.YtkhgnkfdpabflabVmY06
import Derived.Test.YtkhgnkfdpabflabVmD1QueueWitness
namespace Go.Proofs.Ytkhgnkfdpabflab.Vm
open Go
set_option linter.unusedVariables false
set_option linter.unusedSimpArgs false
theorem RC_of {c : S_Circuit} (h : R_S_Circuit c) : RC c := by
  obtain ⟨h1, ⟨_, h2⟩, ⟨_, h3⟩, ⟨_, h4⟩, _, h5⟩ := h
  exact ⟨h1, fun l hl => h2 l hl, fun a ha => h3 a ha, fun x hx => h4 x hx, fun x hx => h5 x hx⟩
theorem RO_of {l : List S_Obligation} (h : ∀ o ∈ l, R_S_Obligation o) : RO l := fun o ho => by
  obtain ⟨⟨h1, h2⟩, ⟨h3, _⟩, h4⟩ := h o ho
  exact ⟨Nat.le_trans h1 (by decide), fun x hx => h2 x hx, h4⟩
section
variable {c : S_Circuit} {l : List S_Obligation}
theorem great02 : ∃ b, s_ref02_Great c = some b ∧ (b = false → c.Latches.length ≤ 60 ∧ Few c) := by
  unfold s_ref02_Great
  by_cases h1 : decide ((c.Latches.length : Int) > 60) = true
  · simp only [h1, if_true, Option.bind_some]; exact ⟨true, rfl, fun h => by cases h⟩
  · by_cases h2 : decide ((c.Ands.length : Int) > 120) = true
    · simp only [h1, h2, if_true, if_false, Option.bind_some]; exact ⟨true, rfl, fun h => by cases h⟩
    · by_cases h3 : decide ((c.Bads.length : Int) > 110) = true
      · simp only [h1, h2, h3, if_true, if_false, Option.bind_some]; exact ⟨true, rfl, fun h => by cases h⟩
      · by_cases h4 : decide ((c.Constraints.length : Int) > 110) = true
        · simp only [h1, h2, h3, h4, if_true, if_false, Option.bind_some]; exact ⟨true, rfl, fun h => by cases h⟩
        · simp only [h1, h2, h3, h4, if_false, Option.bind_some]
          have g1 : c.Latches.length ≤ 60 := by simp at h1; omega
          have g2 : c.Ands.length ≤ 120 := by simp at h2; omega
          have g3 : c.Bads.length ≤ 110 := by simp at h3; omega
          have g4 : c.Constraints.length ≤ 110 := by simp at h4; omega
          have hw : c.Latches.length ≤ 60 ∧ Few c := ⟨g1, by omega, by omega, by omega, by omega⟩
          by_cases h5 : decide (c.Inputs > 40) = true
          · simp only [h5, if_true, Option.bind_some]; exact ⟨_, rfl, fun _ => hw⟩
          · simp only [h5, if_false, Option.bind_some]; exact ⟨_, rfl, fun _ => hw⟩
theorem great36 (hc : RC c) : ∃ b, s_ref36_Great c = some b ∧ (b = false → c.Latches.length ≤ 60 ∧ Few c) := by
  unfold s_ref36_Great
  obtain ⟨b, hb, hw⟩ := great02 (c := c)
  rw [hb]
  simp only [Option.bind_some]
  cases b with
  | true => simp only [if_true]; exact ⟨true, rfl, fun h => by cases h⟩
  | false =>
    have hw := hw rfl
    simp only [Bool.false_eq_true, if_false, ref_Check_eq hc hw.2, Option.bind_some]
    by_cases h0 : (chk c == 0) = true
    · have hk : chk c = 0 := by simpa using h0
      have hi : 0 ≤ c.Inputs ∧ c.Inputs ≤ 1000 := by
        unfold chk at hk
        by_cases a : c.Inputs < 0
        · rw [if_pos a] at hk; cases hk
        · rw [if_neg a] at hk
          by_cases b : c.Inputs > 1000 ∨ size c > 1000 ∨ c.Bads.length > 100 ∨ c.Constraints.length > 100
          · rw [if_pos b] at hk; cases hk
          · omega
      simp only [h0, if_true, Size_eq hi.1 hi.2 hw.2, Option.bind_some]
      split
      · exact ⟨_, rfl, fun _ => hw⟩
      · split
        · exact ⟨_, rfl, fun _ => hw⟩
        · exact ⟨_, rfl, fun _ => hw⟩
    · simp only [h0, if_false, Option.bind_some]; exact ⟨_, rfl, fun _ => hw⟩
theorem inputs_of (hk : chk c = 0) : 0 ≤ c.Inputs ∧ c.Inputs ≤ 1000 := by
  unfold chk at hk
  by_cases a : c.Inputs < 0
  · rw [if_pos a] at hk; cases hk
  · rw [if_neg a] at hk
    by_cases b : c.Inputs > 1000 ∨ size c > 1000 ∨ c.Bads.length > 100 ∨ c.Constraints.length > 100
    · rw [if_pos b] at hk; cases hk
    · omega
end
end Go.Proofs.Ytkhgnkfdpabflab.Vm
