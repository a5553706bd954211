/- Loops along lists. -/
import Derived.Test.YtkhgnkfdpabflaaVmH2
import Derived.Test.YtkhgnkfdpabflaaVmL0a
namespace Go.Proofs.Ytkhgnkfdpabflaa.Vm
open Go
set_option linter.unusedVariables false
set_option linter.unusedSimpArgs false
theorem Lp_findL {α R : Type} {l : List α} (p : Nat → α → Bool) {f : Int → Option (Int ⊕ R)} {r0 : R} (r1 : Int → R) (hl : l.length ≤ 9223372036854775807)
    (hs : ∀ (i : Nat) (x : α), l[i]? = some x → f i = some (if p i x then .inr (r1 i) else .inl (IntKind.wrap .i64 ((i : Int) + 1)))) (he : f l.length = some (.inr r0)) :
    ∃ r, Lp f 0 = some r ∧ ((∀ i x, l[i]? = some x → p i x = false) ∧ r = r0 ∨ ∃ (i : Nat) (x : α), l[i]? = some x ∧ p i x = true ∧ r = r1 i) := by
  have key : ∀ (m : Nat) (i : Nat), i + m = l.length → (∀ j x, j < i → l[j]? = some x → p j x = false) → ∃ r, Lp f i = some r ∧ ((∀ i x, l[i]? = some x → p i x = false) ∧ r = r0 ∨ ∃ (i : Nat) (x : α), l[i]? = some x ∧ p i x = true ∧ r = r1 i) := by
    intro m
    induction m with
    | zero =>
      intro i hi hb
      have : i = l.length := by omega
      subst this
      refine ⟨r0, Lp_out he, .inl ⟨fun j x hx => hb j x ?_ hx, rfl⟩⟩
      rw [List.getElem?_eq_some_iff] at hx
      exact hx.1
    | succ m ih =>
      intro i hi hb
      obtain ⟨x, hx⟩ : ∃ x, l[i]? = some x := ⟨l[i], List.getElem?_eq_getElem (by omega)⟩
      have h := hs i x hx
      rw [wr1 (by omega)] at h
      cases hp : p i x with
      | true => rw [hp] at h; exact ⟨r1 i, Lp_out h, .inr ⟨i, x, hx, hp, rfl⟩⟩
      | false =>
        rw [hp] at h
        obtain ⟨r, h1, h2⟩ := ih (i + 1) (by omega) (fun j y hj hy => by
          by_cases e : j = i
          · subst e; rw [hx] at hy; cases hy; exact hp
          · exact hb j y (by omega) hy)
        exact ⟨r, by rw [Lp_step h]; exact h1, h2⟩
  exact key l.length 0 (by omega) (fun j _ hj => by omega)
theorem Lp_find {α R : Type} {l : List α} (p : Nat → α → Bool) {f : Int → Option (Int ⊕ R)} {r0 : R} (r1 : Int → R) (hl : l.length < 9223372036854775807)
    (hs : ∀ (i : Nat) (x : α), l[i]? = some x → f i = some (if p i x then .inr (r1 i) else .inl (IntKind.wrap .i64 ((i : Int) + 1)))) (he : f l.length = some (.inr r0)) :
    ∃ r, Lp f 0 = some r ∧ ((∀ i x, l[i]? = some x → p i x = false) ∧ r = r0 ∨ ∃ (i : Nat) (x : α), l[i]? = some x ∧ p i x = true ∧ r = r1 i) := Lp_findL p r1 (Nat.le_of_lt hl) hs he
theorem Lp_run {α β S R : Type} {l : List α} (g : β → α → β) (P : Nat → β → Prop) (st : Nat → β → S) {f : S → Option (S ⊕ R)}
    (hs : ∀ (i : Nat) (x : α) (b : β), l[i]? = some x → P i b → f (st i b) = some (.inl (st (i + 1) (g b x))) ∧ P (i + 1) (g b x)) (b0 : β) (h0 : P 0 b0) :
    Lp f (st 0 b0) = Lp f (st l.length (l.foldl g b0)) ∧ P l.length (l.foldl g b0) := by
  have key : ∀ (m : Nat) (i : Nat) (b : β), i + m = l.length → P i b → Lp f (st i b) = Lp f (st l.length ((l.drop i).foldl g b)) ∧ P l.length ((l.drop i).foldl g b) := by
    intro m
    induction m with
    | zero =>
      intro i b hi hP
      have : i = l.length := by omega
      subst this
      rw [List.drop_length, List.foldl_nil]
      exact ⟨rfl, hP⟩
    | succ m ih =>
      intro i b hi hP
      obtain ⟨x, hx⟩ : ∃ x, l[i]? = some x := ⟨l[i], List.getElem?_eq_getElem (by omega)⟩
      have hd : l.drop i = x :: l.drop (i + 1) := by
        rw [List.drop_eq_getElem_cons (by omega)]
        congr 1
        have := List.getElem?_eq_getElem (l := l) (i := i) (by omega)
        rw [hx] at this
        exact (Option.some.inj this).symm
      obtain ⟨h, hP'⟩ := hs i x b hx hP
      obtain ⟨q1, q2⟩ := ih (i + 1) (g b x) (by omega) hP'
      rw [hd, List.foldl_cons, Lp_step h]
      exact ⟨q1, q2⟩
  have := key l.length 0 b0 (by omega) h0
  simpa using this
theorem lt_len {α : Type} {l : List α} {i : Nat} {x : α} (h : l[i]? = some x) : i < l.length := by rw [List.getElem?_eq_some_iff] at h; exact h.1
theorem dec_lt {i n : Nat} (h : i < n) : decide ((i : Int) < (n : Int)) = true := by simp; omega
theorem dec_ge (n : Nat) : decide ((n : Int) < (n : Int)) = false := by simp
theorem Lp_all {α R : Type} {l : List α} {f : Int → Option (Int ⊕ R)} {r0 : R} (hl : l.length < 9223372036854775807)
    (hs : ∀ (i : Nat) (x : α), l[i]? = some x → f i = some (.inl (IntKind.wrap .i64 ((i : Int) + 1)))) (he : f l.length = some (.inr r0)) : Lp f 0 = some r0 := by
  obtain ⟨r, h1, h2⟩ := Lp_find (l := l) (fun _ _ => false) (r0 := r0) (fun _ => r0) hl (fun i x hx => by rw [hs i x hx]; rfl) he
  rcases h2 with ⟨_, rfl⟩ | ⟨i, x, _, h, _⟩
  · exact h1
  · cases h
end Go.Proofs.Ytkhgnkfdpabflaa.Vm
