/- Plain laws of typed loops and lists: no program in sight. -/
import Derived.Test.YtkhgnkfdpabflaaVmW0
namespace Go.Proofs.Ytkhgnkfdpabflaa.Vm
open Go
set_option linter.unusedVariables false
set_option linter.unusedSimpArgs false
theorem idx_nat' {α : Type} (l : List α) (i : Nat) : idx l (i : Int) = l[i]? := by
  unfold idx
  by_cases h : i < l.length
  · have : (0 : Int) ≤ (i : Int) ∧ (i : Int) < (l.length : Int) := by omega
    rw [if_pos this]; simp
  · have : ¬ ((0 : Int) ≤ (i : Int) ∧ (i : Int) < (l.length : Int)) := by omega
    rw [if_neg this, List.getElem?_eq_none (by omega)]
theorem idx_of {α : Type} {l : List α} {i : Int} {x : α} (h0 : 0 ≤ i) (h : l[i.toNat]? = some x) : idx l i = some x := by
  have : i = ((i.toNat : Nat) : Int) := by omega
  rw [this, idx_nat']; exact h
theorem wr {n : Int} (h1 : -9223372036854775808 ≤ n) (h2 : n ≤ 9223372036854775807) : IntKind.wrap .i64 n = n := by
  simp [IntKind.wrap, IntKind.bits, IntKind.signed]; omega
theorem wr1 {n : Nat} (h : n < 9223372036854775807) : IntKind.wrap .i64 ((n : Int) + 1) = ((n + 1 : Nat) : Int) := by rw [wr (by omega) (by omega)]; omega
theorem Lp_to {S R : Type} {f : S → Option (S ⊕ R)} (st : Nat → S) (k : Nat) {r : R} (h : ∀ i, i < k → f (st i) = some (.inl (st (i + 1)))) (he : f (st k) = some (.inr r)) : Lp f (st 0) = some r := by
  induction k generalizing st with
  | zero => exact Lp_out he
  | succ k ih =>
    rw [Lp_step (h 0 (by omega))]
    exact ih (fun i => st (i + 1)) (fun i hi => h (i + 1) (by omega)) he
theorem Lp_any {α R : Type} {l : List α} (p : α → Bool) {f : Int → Option (Int ⊕ R)} {r0 : R} (r1 : Int → R) (hl : l.length < 9223372036854775807)
    (hs : ∀ (i : Nat) (x : α), l[i]? = some x → f i = some (if p x then .inr (r1 i) else .inl (IntKind.wrap .i64 ((i : Int) + 1)))) (he : f l.length = some (.inr r0)) :
    ∃ r, Lp f 0 = some r ∧ (l.any p = false ∧ r = r0 ∨ l.any p = true ∧ ∃ i : Nat, r = r1 i) := by
  have key : ∀ (m : Nat) (i : Nat), i + m = l.length → ∃ r, Lp f i = some r ∧ ((l.drop i).any p = false ∧ r = r0 ∨ (l.drop i).any p = true ∧ ∃ i : Nat, r = r1 i) := by
    intro m
    induction m with
    | zero =>
      intro i hi
      have : i = l.length := by omega
      subst this
      exact ⟨r0, Lp_out he, .inl ⟨by simp, rfl⟩⟩
    | succ m ih =>
      intro i hi
      obtain ⟨x, hx⟩ : ∃ x, l[i]? = some x := ⟨l[i], List.getElem?_eq_getElem (by omega)⟩
      have hd : l.drop i = x :: l.drop (i + 1) := by
        rw [List.drop_eq_getElem_cons (by omega)]
        congr 1
        have := List.getElem?_eq_getElem (l := l) (i := i) (by omega)
        rw [hx] at this
        exact (Option.some.inj this).symm
      have h := hs i x hx
      rw [wr1 (by omega)] at h
      rw [hd, List.any_cons]
      cases hp : p x with
      | true => rw [hp] at h; exact ⟨r1 i, Lp_out h, .inr ⟨rfl, i, rfl⟩⟩
      | false =>
        rw [hp] at h
        obtain ⟨r, h1, h2⟩ := ih (i + 1) (by omega)
        refine ⟨r, ?_, by simpa using h2⟩
        rw [Lp_step h]; exact h1
  have := key l.length 0 (by omega)
  simpa using this
theorem tdiv2 {x : Int} (h : 0 ≤ x) : Int.tdiv x 2 = x / 2 := Int.tdiv_eq_ediv_of_nonneg h
theorem shr1 {x : Int} (h : 0 ≤ x) : shrI .i64 x 1 = x / 2 := by
  unfold shrI
  have : (min (Int.toNat 1) IntKind.i64.bits) = 1 := by rfl
  rw [this]
  simp [Int.fdiv_eq_ediv_of_nonneg]
def Up : List Int → Prop
  | [] => True
  | [_] => True
  | x :: y :: l => x < y ∧ Up (y :: l)
theorem Up.tail {x : Int} {l : List Int} (h : Up (x :: l)) : Up l := by cases l with
  | nil => trivial
  | cons y l => exact h.2
theorem Up.lt {x : Int} : ∀ {l : List Int}, Up (x :: l) → ∀ y ∈ l, x < y
  | [], _, y, hy => by cases hy
  | z :: l, h, y, hy => by
    rcases List.mem_cons.1 hy with rfl | hy
    · exact h.1
    · exact Int.lt_trans h.1 (Up.lt h.2 y hy)
theorem Up.ext : ∀ {a b : List Int}, Up a → Up b → (∀ x, x ∈ a ↔ x ∈ b) → a = b
  | [], [], _, _, _ => rfl
  | [], y :: b, _, _, h => by have := (h y).2 (by simp); cases this
  | x :: a, [], _, _, h => by have := (h x).1 (by simp); cases this
  | x :: a, y :: b, ha, hb, h => by
    have hxy : x = y := by
      rcases List.mem_cons.1 ((h x).1 (by simp)) with e | e
      · exact e
      · rcases List.mem_cons.1 ((h y).2 (by simp)) with e' | e'
        · exact e'.symm
        · have h1 := Up.lt hb x e
          have h2 := Up.lt ha y e'
          omega
    subst hxy
    rw [Up.ext ha.tail hb.tail fun z => ?_]
    constructor
    · intro hz
      rcases List.mem_cons.1 ((h z).1 (List.mem_cons_of_mem _ hz)) with e | e
      · subst e; have := Up.lt ha z hz; omega
      · exact e
    · intro hz
      rcases List.mem_cons.1 ((h z).2 (List.mem_cons_of_mem _ hz)) with e | e
      · subst e; have := Up.lt hb z hz; omega
      · exact e
def UpW : List Int → Prop
  | [] => True
  | [_] => True
  | x :: y :: l => x ≤ y ∧ UpW (y :: l)
theorem UpW.get : ∀ {l : List Int}, UpW l ↔ ∀ i, i + 1 < l.length → l.getD i 0 ≤ l.getD (i + 1) 0
  | [] => ⟨fun _ i h => by simp at h, fun _ => trivial⟩
  | [x] => ⟨fun _ i h => by simp at h, fun _ => trivial⟩
  | x :: y :: l => by
    have ih := UpW.get (l := y :: l)
    constructor
    · intro h i hi
      cases i with
      | zero => exact h.1
      | succ i => exact ih.1 h.2 i (by simpa using hi)
    · intro h
      exact ⟨h 0 (by simp), ih.2 fun i hi => h (i + 1) (by simp at hi ⊢; omega)⟩
end Go.Proofs.Ytkhgnkfdpabflaa.Vm
