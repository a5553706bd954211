/- Loops along lists. -/
import Derived.Test.YtkhgnkfdpabflaaVmH2
import Derived.Test.YtkhgnkfdpabflaaVmL0a
namespace Go.Proofs.Ytkhgnkfdpabflaa.Vm
open Go
set_option linter.unusedVariables false
set_option linter.unusedSimpArgs false
theorem Lp_findL {α R : Type} {l : List α} (p : Nat → α → Bool) {f : Int → Option (Int ⊕ R)} {r0 : R} (r1 : Int → R) (hl : l.length ≤ 9223372036854775807)
    (hs : ∀ (i : Nat) (x : α), l[i]? = some x → f i = some (if p i x then .inr (r1 i) else .inl (IntKind.wrap .i64 ((i : Int) + 1)))) (he : f l.length = some (.inr r0)) :
    ∃ r, Lp f 0 = some r ∧ ((∀ i x, l[i]? = some x → p i x = false) ∧ r = r0 ∨ ∃ (i : Nat) (x : α), l[i]? = some x ∧ p i x = true ∧ r = r1 i) := by
  have key : ∀ (m : Nat) (i : Nat), i + m = l.length → (∀ j x, j < i → l[j]? = some x → p j x = false) → ∃ r, Lp f i = some r ∧ ((∀ i x, l[i]? = some x → p i x = false) ∧ r = r0 ∨ ∃ (i : Nat) (x : α), l[i]? = some x ∧ p i x = true ∧ r = r1 i) := by
    intro m
    induction m with
    | zero =>
      intro i hi hb
      have : i = l.length := by omega
      subst this
      refine ⟨r0, Lp_out he, .inl ⟨fun j x hx => hb j x ?_ hx, rfl⟩⟩
      rw [List.getElem?_eq_some_iff] at hx
      exact hx.1
    | succ m ih =>
      intro i hi hb
      obtain ⟨x, hx⟩ : ∃ x, l[i]? = some x := ⟨l[i], List.getElem?_eq_getElem (by omega)⟩
      have h := hs i x hx
      rw [wr1 (by omega)] at h
      cases hp : p i x with
      | true => rw [hp] at h; exact ⟨r1 i, Lp_out h, .inr ⟨i, x, hx, hp, rfl⟩⟩
      | false =>
        rw [hp] at h
        obtain ⟨r, h1, h2⟩ := ih (i + 1) (by omega) (fun j y hj hy => by
          by_cases e : j = i
          · subst e; rw [hx] at hy; cases hy; exact hp
          · exact hb j y (by omega) hy)
        exact ⟨r, by rw [Lp_step h]; exact h1, h2⟩
  exact key l.length 0 (by omega) (fun j _ hj => by omega)
theorem Lp_find {α R : Type} {l : List α} (p : Nat → α → Bool) {f : Int → Option (Int ⊕ R)} {r0 : R} (r1 : Int → R) (hl : l.length < 9223372036854775807)
    (hs : ∀ (i : Nat) (x : α), l[i]? = some x → f i = some (if p i x then .inr (r1 i) else .inl (IntKind.wrap .i64 ((i : Int) + 1)))) (he : f l.length = some (.inr r0)) :
    ∃ r, Lp f 0 = some r ∧ ((∀ i x, l[i]? = some x → p i x = false) ∧ r = r0 ∨ ∃ (i : Nat) (x : α), l[i]? = some x ∧ p i x = true ∧ r = r1 i) := Lp_findL p r1 (Nat.le_of_lt hl) hs he
theorem lt_len {α : Type} {l : List α} {i : Nat} {x : α} (h : l[i]? = some x) : i < l.length := by rw [List.getElem?_eq_some_iff] at h; exact h.1
theorem dec_lt {i n : Nat} (h : i < n) : decide ((i : Int) < (n : Int)) = true := by simp; omega
theorem dec_ge (n : Nat) : decide ((n : Int) < (n : Int)) = false := by simp
theorem Lp_all {α R : Type} {l : List α} {f : Int → Option (Int ⊕ R)} {r0 : R} (hl : l.length < 9223372036854775807)
    (hs : ∀ (i : Nat) (x : α), l[i]? = some x → f i = some (.inl (IntKind.wrap .i64 ((i : Int) + 1)))) (he : f l.length = some (.inr r0)) : Lp f 0 = some r0 := by
  obtain ⟨r, h1, h2⟩ := Lp_find (l := l) (fun _ _ => false) (r0 := r0) (fun _ => r0) hl (fun i x hx => by rw [hs i x hx]; rfl) he
  rcases h2 with ⟨_, rfl⟩ | ⟨i, x, _, h, _⟩
  · exact h1
  · cases h
end Go.Proofs.Ytkhgnkfdpabflaa.Vm
