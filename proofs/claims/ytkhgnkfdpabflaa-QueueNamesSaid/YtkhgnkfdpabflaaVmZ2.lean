/- Right, Chain and Trace: both sides. -/
import Derived.Test.YtkhgnkfdpabflaaVmZ1
namespace Go.Proofs.Ytkhgnkfdpabflaa.Vm
open Go
set_option linter.unusedVariables false
set_option linter.unusedSimpArgs false
def RO (l : List S_Obligation) : Prop := ∀ o ∈ l, o.Cube.length ≤ 9223372036854775807 ∧ (∀ x ∈ o.Cube, I64 x) ∧ I64 o.Next
noncomputable def badO (c : S_Circuit) (i : Nat) (o : S_Obligation) : Bool := !okL c.Latches.length o.Cube || (((o.Inputs.length : Int) != c.Inputs) || (decide (o.Next < -1) || decide (o.Next ≥ (i : Int))))
def OkO (c : S_Circuit) (l : List S_Obligation) : Prop := ∀ (i : Nat) o, l[i]? = some o → (o.Inputs.length : Int) = c.Inputs ∧ -1 ≤ o.Next ∧ o.Next < i
section
variable {c : S_Circuit} {l : List S_Obligation}
theorem badO_ok (h : ∀ i o, l[i]? = some o → badO c i o = false) : OkO c l := fun i o ho => by
  have := h i o ho
  unfold badO at this
  simp only [Bool.or_eq_false_iff] at this
  obtain ⟨_, h1, h2, h3⟩ := this
  simp at h1 h2 h3
  exact ⟨h1, by omega, h3⟩
def inp (l : List S_Obligation) (k : Int) : List Bool := match idx l k with | some o => o.Inputs | none => []
theorem selM_eq {ks : List Int} (h : ∀ k ∈ ks, ∃ o, idx l k = some o ∧ (o.Inputs.length : Int) = c.Inputs) : selM (fun o : S_Obligation => o.Inputs) l ks = some (ks.map (inp l)) := by
  unfold selM
  induction ks with
  | nil => rfl
  | cons k ks ih =>
    obtain ⟨o, ho, _⟩ := h k (by simp)
    have : inp l k = o.Inputs := by unfold inp; rw [ho]
    rw [List.mapM_cons, ih (fun k hk => h k (by simp [hk]))]
    simp [ho, this]
end
end Go.Proofs.Ytkhgnkfdpabflaa.Vm
