/- slices.Grow of nil: an empty slice with room. -/
import Derived.Test.YtcgjebaomhfbdaaGreatVmX2
namespace Go.Proofs.YtcgjebaomhfbdaaGreat.Vm
open Go
def growX (s : Nat) : Ext := fun σ xs rm => match xs with
  | [.nil _, .d _ (.int .i64 (.ofNat n))] => if 0 < n ∧ n ≤ big then match rm with
      | none => some (.d true (.lst s []), σ)
      | some nm => (σ.new nm (.rw s [] false)).map fun σ => (.row 0 nm 0 0 s, σ)
    else none
  | _ => none
theorem growX_set {s : Nat} (σ : St) (d : Nat) (v : V) (xs : List V) (rm : Option Nat) : growX s (σ.set d v) xs rm = (growX s σ xs rm).map fun p => (p.1, p.2.set d v) := by
  unfold growX
  split
  · split
    · cases rm with
      | none => rfl
      | some nm => simp only [new_set]; cases σ.new nm _ <;> rfl
    · rfl
  · rfl
theorem growX_get {s : Nat} {σ : St} {xs : List V} {rm : Option Nat} {v : V} {σ' : St} {t : Nat} (h : growX s σ xs rm = some (v, σ')) : σ'.get t = σ.get t := by
  unfold growX at h
  split at h
  · split at h
    · cases rm with
      | none => cases h; rfl
      | some nm =>
        obtain ⟨ρ, h1, h2⟩ := map_some h
        cases h2
        obtain ⟨_, rfl⟩ := new_some h1
        exact St.get_setObj _ _ _ _ _
    · cases h
  · cases h
theorem growX_pure {s : Nat} (σ τ : St) (as : List V) (v : V) (σ' : St) (h : growX s σ as none = some (v, σ')) (_ : SimVs σ τ as) : σ' = σ ∧ growX s τ as none = some (v, τ) := by
  unfold growX at h ⊢
  split at h
  · split at h
    · rename_i hb
      cases h
      exact ⟨rfl, by simp only [if_pos hb]⟩
    · cases h
  · cases h
theorem growX_wsl {s : Nat} (σ : St) (sl : List V) (xs : List V) (rm : Option Nat) : growX s (σ.wsl sl) xs rm = (growX s σ xs rm).map fun p => (p.1, p.2.wsl sl) := by
  unfold growX
  split
  · split
    · cases rm with
      | none => rfl
      | some nm => simp only [new_wsl]; cases σ.new nm _ <;> rfl
    · rfl
  · rfl
end Go.Proofs.YtcgjebaomhfbdaaGreat.Vm
