/- Regions whose operations Go may do in another order: each order ends in the same state. -/
import Derived.Test.YtkhgnkfdpabflaaVmW0
import Derived.Test.YtkhgnkfdpabflaaVmP3
namespace Go.Proofs.Ytkhgnkfdpabflaa.Vm
open Go
section
variable {E : Env} {σ : St}
@[irreducible] def SEq (a b : St) : Prop := a = b
theorem SEq_iff {a b : St} : SEq a b ↔ a = b := by unfold SEq; exact Iff.rfl
@[irreducible] def St.nf (σ : St) : St := σ
theorem nf_eq (σ : St) : σ.nf = σ := by unfold St.nf; rfl
@[irreducible] def ins (i : Nat) (a : V) (σ : St) : St := σ.set i a
theorem ins_eq (i : Nat) (a : V) (σ : St) : ins i a σ = σ.set i a := by unfold ins; rfl
@[irreducible] def insO (n : Nat) (o : Option Ob) (σ : St) : St := σ.setObj 0 n o
theorem insO_eq (n : Nat) (o : Option Ob) (σ : St) : insO n o σ = σ.setObj 0 n o := by unfold insO; rfl
theorem SEq_nf {a b : St} : SEq a b = (a.nf = b.nf) := by rw [nf_eq, nf_eq]; exact propext SEq_iff
theorem nf_set {i : Nat} {a : V} : (σ.set i a).nf = ins i a σ.nf := by rw [nf_eq, nf_eq, ins_eq]
theorem nf_setObj {n : Nat} {o : Option Ob} : (σ.setObj 0 n o).nf = insO n o σ.nf := by rw [nf_eq, nf_eq, insO_eq]
theorem st_st {α : Type} (e : α) : ∀ (l : List α) (i : Nat) (a b : α), st e (st e l i a) i b = st e l i b
  | [], 0, _, _ => rfl
  | [], i + 1, a, b => by simp [st, st_st e [] i]
  | _ :: l, 0, _, _ => rfl
  | x :: l, i + 1, a, b => by simp [st, st_st e l i]
theorem ins_swap {i j : Nat} {a b : V} (h : Nat.ble (i + 1) j = true) : ins j b (ins i a σ) = ins i a (ins j b σ) := by
  have h := Nat.le_of_ble_eq_true h
  simp only [ins_eq, St.set]
  rw [st_comm .u σ.sl i j a b (by omega)]
theorem ins_same {i : Nat} {a b : V} : ins i b (ins i a σ) = ins i b σ := by
  simp only [ins_eq, St.set, st_st]
theorem ins_insO {i n : Nat} {a : V} {o : Option Ob} : insO n o (ins i a σ) = ins i a (insO n o σ) := by
  simp only [ins_eq, insO_eq, setObj_set]
theorem insO_swap {m n : Nat} {o p : Option Ob} (h : Nat.ble (m + 1) n = true) : insO n p (insO m o σ) = insO m o (insO n p σ) := by
  have h := Nat.le_of_ble_eq_true h
  simp only [insO_eq, St.setObj]
  rw [st_comm none σ.ob m n o p (by omega)]
theorem insO_same {n : Nat} {o p : Option Ob} : insO n p (insO n o σ) = insO n p σ := by
  simp only [insO_eq, St.setObj, st_st]
def SEqT (τ ρ : St) : Prop := SEq ρ τ
theorem SEqT_nf {a b : St} : SEqT a b = (b.nf = a.nf) := SEq_nf
def KOrd (E : Env) (is : List G) (σ : St) : List (List Nat) → St → Prop
  | [], _ => True
  | o :: os, τ => WO E (pick is o) σ (SEqT τ) ∧ KOrd E is σ os τ
theorem KOrd_all {is : List G} {τ : St} : ∀ {os : List (List Nat)}, KOrd E is σ os τ = (∀ p ∈ os, WO E (pick is p) σ (SEqT τ))
  | [] => by simp [KOrd]
  | o :: os => by simp [KOrd, KOrd_all (os := os)]
theorem KOrd_nil {is : List G} {τ : St} : KOrd E is σ [] τ = True := rfl
theorem KOrd_cons {is : List G} {τ : St} {o : List Nat} {os : List (List Nat)} : KOrd E is σ (o :: os) τ = (WO E (pick is o) σ (SEqT τ) ∧ KOrd E is σ os τ) := rfl
def KX (E : Env) (is : List G) (σ : St) (os : List (List Nat)) (Q : Ex → St → Prop) (τ : St) : Prop := KOrd E is σ os τ ∧ Q .normal τ
theorem KX_eq {is : List G} {os : List (List Nat)} {Q : Ex → St → Prop} {τ : St} : KX E is σ os Q τ = (KOrd E is σ os τ ∧ Q .normal τ) := rfl
def KRgx (E : Env) (is : List G) (os : List (List Nat)) (Q : Ex → St → Prop) (σ : St) : Prop := WO E is σ (KX E is σ os Q)
theorem KRgx_eq {is : List G} {os : List (List Nat)} {Q : Ex → St → Prop} : KRgx E is os Q σ = WO E is σ (KX E is σ os Q) := rfl
theorem WC_rgx {id : Nat} {dr : Bool} {fs : List F} {is : List G} {o : List Nat} {os : List (List Nat)} {Q : Ex → St → Prop} : WC E (.rg id dr fs is (o :: os)) σ Q = optP (pre σ fs) (KRgx E is (o :: os) Q) := by
  refine propext ⟨fun h => ?_, fun h => ?_⟩
  · obtain ⟨e, σ', h, q⟩ := h
    cases h with
    | rg hp h ho =>
      rw [hp]
      exact ⟨_, h, by rw [KOrd_all]; exact fun p hp => ⟨_, ho p hp, SEq_iff.2 rfl⟩, q⟩
  · obtain ⟨σ₁, hp, τ, h, ho, q⟩ := optP_iff.1 h
    rw [KOrd_all] at ho
    refine ⟨.normal, τ, .rg hp h (fun p hm => ?_), q⟩
    obtain ⟨ρ, h2, e⟩ := ho p hm
    have e : ρ = τ := SEq_iff.1 e
    subst e
    exact h2
theorem pick_nil {α : Type} {l : List α} : pick l [] = [] := rfl
theorem pick_cons {α : Type} {l : List α} {i : Nat} {is : List Nat} : pick l (i :: is) = (match l[i]? with | some a => a :: pick l is | none => pick l is) := by
  unfold pick
  rw [List.filterMap_cons]
  cases l[i]? <;> rfl
end
end Go.Proofs.Ytkhgnkfdpabflaa.Vm
