/- Plain laws of typed loops and lists: no program in sight. -/
import Derived.Test.YtbmhmfcjjhjkgaaVmW2
namespace Go.Proofs.Ytbmhmfcjjhjkgaa.Vm
open Go
set_option linter.unusedVariables false
set_option linter.unusedSimpArgs false
theorem idx_nat' {α : Type} (l : List α) (i : Nat) : idx l (i : Int) = l[i]? := by
  unfold idx
  by_cases h : i < l.length
  · have : (0 : Int) ≤ (i : Int) ∧ (i : Int) < (l.length : Int) := by omega
    rw [if_pos this]; simp
  · have : ¬ ((0 : Int) ≤ (i : Int) ∧ (i : Int) < (l.length : Int)) := by omega
    rw [if_neg this, List.getElem?_eq_none (by omega)]
theorem idx_of {α : Type} {l : List α} {i : Int} {x : α} (h0 : 0 ≤ i) (h : l[i.toNat]? = some x) : idx l i = some x := by
  have : i = ((i.toNat : Nat) : Int) := by omega
  rw [this, idx_nat']; exact h
theorem wr {n : Int} (h1 : -9223372036854775808 ≤ n) (h2 : n ≤ 9223372036854775807) : IntKind.wrap .i64 n = n := w64 h1 h2
theorem wr1 {n : Nat} (h : n < 9223372036854775807) : IntKind.wrap .i64 ((n : Int) + 1) = ((n + 1 : Nat) : Int) := by rw [wr (by omega) (by omega)]; omega
theorem Lp_fold {α β S R : Type} {l : List α} (g : β → α → β) (P : Nat → β → Prop) (st : β → Int → S) {f : S → Option (S ⊕ R)} (out : β → R) (hl : l.length < 9223372036854775807)
    (hs : ∀ (i : Nat) (x : α) (b : β), l[i]? = some x → P i b → f (st b i) = some (.inl (st (g b x) (IntKind.wrap .i64 ((i : Int) + 1)))) ∧ P (i + 1) (g b x)) (he : ∀ b, P l.length b → f (st b l.length) = some (.inr (out b)))
    (b0 : β) (h0 : P 0 b0) : Lp f (st b0 0) = some (out (l.foldl g b0)) ∧ P l.length (l.foldl g b0) := by
  have key : ∀ (m : Nat) (i : Nat) (b : β), i + m = l.length → P i b → Lp f (st b i) = some (out ((l.drop i).foldl g b)) ∧ P l.length ((l.drop i).foldl g b) := by
    intro m
    induction m with
    | zero =>
      intro i b hi hP
      have : i = l.length := by omega
      subst this
      simp only [List.drop_length, List.foldl_nil]
      exact ⟨Lp_out (he b hP), hP⟩
    | succ m ih =>
      intro i b hi hP
      obtain ⟨x, hx⟩ : ∃ x, l[i]? = some x := ⟨l[i], List.getElem?_eq_getElem (by omega)⟩
      have hd : l.drop i = x :: l.drop (i + 1) := by
        rw [List.drop_eq_getElem_cons (by omega)]
        congr 1
        have := List.getElem?_eq_getElem (l := l) (i := i) (by omega)
        rw [hx] at this
        exact (Option.some.inj this).symm
      obtain ⟨h, hP'⟩ := hs i x b hx hP
      rw [wr1 (by omega)] at h
      obtain ⟨q1, q2⟩ := ih (i + 1) (g b x) (by omega) hP'
      rw [hd, List.foldl_cons, Lp_step h]
      exact ⟨q1, q2⟩
  have := key l.length 0 b0 (by omega) h0
  simpa using this
theorem tdiv2 {x : Int} (h : 0 ≤ x) : Int.tdiv x 2 = x / 2 := Int.tdiv_eq_ediv_of_nonneg h
theorem tmod2 {x : Int} (h : 0 ≤ x) : Int.tmod x 2 = x % 2 := Int.tmod_eq_emod_of_nonneg h
theorem shr1 {x : Int} (h : 0 ≤ x) : shrI .i64 x 1 = x / 2 := by
  unfold shrI
  have : (min (Int.toNat 1) IntKind.i64.bits) = 1 := by rfl
  rw [this]
  simp [Int.fdiv_eq_ediv_of_nonneg]
def Up : List Int → Prop
  | [] => True
  | [_] => True
  | x :: y :: l => x < y ∧ Up (y :: l)
theorem Up.tail {x : Int} {l : List Int} (h : Up (x :: l)) : Up l := by cases l with
  | nil => trivial
  | cons y l => exact h.2
theorem Up.lt {x : Int} : ∀ {l : List Int}, Up (x :: l) → ∀ y ∈ l, x < y
  | [], _, y, hy => by cases hy
  | z :: l, h, y, hy => by
    rcases List.mem_cons.1 hy with rfl | hy
    · exact h.1
    · exact Int.lt_trans h.1 (Up.lt h.2 y hy)
theorem Up.ext : ∀ {a b : List Int}, Up a → Up b → (∀ x, x ∈ a ↔ x ∈ b) → a = b
  | [], [], _, _, _ => rfl
  | [], y :: b, _, _, h => by have := (h y).2 (by simp); cases this
  | x :: a, [], _, _, h => by have := (h x).1 (by simp); cases this
  | x :: a, y :: b, ha, hb, h => by
    have hxy : x = y := by
      rcases List.mem_cons.1 ((h x).1 (by simp)) with e | e
      · exact e
      · rcases List.mem_cons.1 ((h y).2 (by simp)) with e' | e'
        · exact e'.symm
        · have h1 := Up.lt hb x e
          have h2 := Up.lt ha y e'
          omega
    subst hxy
    rw [Up.ext ha.tail hb.tail fun z => ?_]
    constructor
    · intro hz
      rcases List.mem_cons.1 ((h z).1 (List.mem_cons_of_mem _ hz)) with e | e
      · subst e; have := Up.lt ha z hz; omega
      · exact e
    · intro hz
      rcases List.mem_cons.1 ((h z).2 (List.mem_cons_of_mem _ hz)) with e | e
      · subst e; have := Up.lt hb z hz; omega
      · exact e
theorem Up.snoc : ∀ {a : List Int} {x : Int}, Up a → (∀ y ∈ a, y < x) → Up (a ++ [x])
  | [], _, _, _ => trivial
  | [y], x, _, h => ⟨h y (by simp), trivial⟩
  | y :: z :: a, x, ha, h => ⟨ha.1, Up.snoc (a := z :: a) ha.2 fun w hw => h w (List.mem_cons_of_mem _ hw)⟩
def UpW : List Int → Prop
  | [] => True
  | [_] => True
  | x :: y :: l => x ≤ y ∧ UpW (y :: l)
theorem UpW.get : ∀ {l : List Int}, UpW l ↔ ∀ i, i + 1 < l.length → l.getD i 0 ≤ l.getD (i + 1) 0
  | [] => ⟨fun _ i h => by simp at h, fun _ => trivial⟩
  | [x] => ⟨fun _ i h => by simp at h, fun _ => trivial⟩
  | x :: y :: l => by
    have ih := UpW.get (l := y :: l)
    constructor
    · intro h i hi
      cases i with
      | zero => exact h.1
      | succ i => exact ih.1 h.2 i (by simpa using hi)
    · intro h
      exact ⟨h 0 (by simp), ih.2 fun i hi => h (i + 1) (by simp at hi ⊢; omega)⟩
def UpTo (l : List Int) (n : Nat) : Prop := ∀ i, i + 1 < n → l.getD i 0 ≤ l.getD (i + 1) 0
theorem swap_getD (es : List Int) (j k : Nat) (hj : j + 1 < es.length) : ((es.set (j + 1) (es.getD j 0)).set j (es.getD (j + 1) 0)).getD k 0 = if k = j then es.getD (j + 1) 0 else if k = j + 1 then es.getD j 0 else es.getD k 0 := by
  simp only [List.getD_eq_getElem?_getD, List.getElem?_set, List.length_set]
  by_cases h1 : k = j
  · subst h1
    rw [if_pos rfl, if_pos (by omega), if_pos rfl]; rfl
  · by_cases h2 : k = j + 1
    · subst h2
      rw [if_neg (by omega), if_pos rfl, if_pos hj, if_neg (by omega), if_pos rfl]; rfl
    · rw [if_neg (by omega), if_neg (by omega), if_neg h1, if_neg h2]
theorem swap_perm (es : List Int) (j : Nat) (hj : j + 1 < es.length) : ((es.set (j + 1) (es.getD j 0)).set j (es.getD (j + 1) 0)).Perm es := by
  induction es generalizing j with
  | nil => simp at hj
  | cons a es ih =>
    cases j with
    | zero =>
      cases es with
      | nil => simp at hj
      | cons b es => simp [List.getD]; exact List.Perm.swap a b es
    | succ j =>
      simp only [List.set_cons_succ]
      have := ih j (by simpa using hj)
      exact List.Perm.cons a (by simpa [List.getD] using this)
theorem sink_perm : ∀ (j : Nat) (es : List Int), j < es.length → (sink es j).Perm es
  | 0, es, _ => List.Perm.refl _
  | j + 1, es, h => by
    unfold sink
    split
    · exact (sink_perm j _ (by simp; omega)).trans (swap_perm es j h)
    · exact List.Perm.refl _
theorem sink_up : ∀ (j n : Nat) (es : List Int), j < n → n ≤ es.length → (∀ i, i + 1 < n → i + 1 ≠ j → i ≠ j → es.getD i 0 ≤ es.getD (i + 1) 0) → (0 < j → j + 1 < n → es.getD (j - 1) 0 ≤ es.getD (j + 1) 0) → (j + 1 < n → es.getD j 0 ≤ es.getD (j + 1) 0) → UpTo (sink es j) n
  | 0, n, es, hj, hn, h, h1, h2 => by
    intro i hi
    cases i with
    | zero => exact h2 hi
    | succ i => exact h (i + 1) hi (by omega) (by omega)
  | j + 1, n, es, hj, hn, h, h1, h2 => by
    unfold sink
    split
    · rename_i hlt
      refine sink_up j n _ (by omega) (by simp; omega) (fun i hi a b => ?_) (fun a b => ?_) (fun b => ?_)
      · simp only [swap_getD es j _ (by omega)]
        by_cases e : i = j + 1
        · subst e
          rw [if_neg (by omega), if_pos rfl, if_neg (by omega), if_neg (by omega)]
          exact h1 (by omega) (by omega)
        · rw [if_neg (by omega), if_neg e, if_neg (by omega), if_neg (by omega)]
          exact h i hi (by omega) (by omega)
      · simp only [swap_getD es j _ (by omega)]
        rw [if_neg (by omega), if_neg (by omega), if_neg (by omega), if_pos trivial]
        have := h (j - 1) (by omega) (by omega) (by omega)
        rwa [show j - 1 + 1 = j by omega] at this
      · simp only [swap_getD es j _ (by omega)]
        rw [if_pos trivial, if_neg (by omega), if_pos trivial]
        omega
    · rename_i hge
      intro i hi
      by_cases e : i = j
      · subst e; omega
      · by_cases e2 : i = j + 1
        · subst e2; exact h2 hi
        · exact h i hi (by omega) (by omega)
theorem isortF_spec : ∀ (k i : Nat) (es : List Int), i + k = es.length → 0 < i → UpTo es i → (isortF k i es).Perm es ∧ UpTo (isortF k i es) es.length
  | 0, i, es, h, _, hu => ⟨List.Perm.refl _, by rw [← h]; exact hu⟩
  | k + 1, i, es, h, hi, hu => by
    have hup : UpTo (sink es i) (i + 1) := sink_up i (i + 1) es (by omega) (by omega) (fun j hj a b => hu j (by omega)) (fun a b => by omega) (fun b => by omega)
    obtain ⟨q1, q2⟩ := isortF_spec k (i + 1) (sink es i) (by rw [sink_length]; omega) (by omega) hup
    rw [isortF]
    refine ⟨q1.trans (sink_perm i es (by omega)), ?_⟩
    rw [sink_length] at q2; exact q2
theorem isort_spec (es : List Int) : (isort es).Perm es ∧ UpW (isort es) := by
  cases es with
  | nil => exact ⟨List.Perm.refl _, trivial⟩
  | cons a es =>
    obtain ⟨h1, h2⟩ := isortF_spec ((a :: es).length - 1) 1 (a :: es) (by simp; omega) (by omega) (fun i hi => by omega)
    refine ⟨h1, UpW.get.2 fun i hi => h2 i ?_⟩
    have := isort_length (a :: es)
    unfold isort at hi this
    rw [this] at hi
    exact hi
theorem ddS_spec (o : List Int) (hu : UpW o) : ∀ p, p ≤ o.length → Up (ddS o p) ∧ (∀ x, x ∈ ddS o p ↔ x ∈ o.take p) ∧ (∀ x ∈ ddS o p, 0 < p → x ≤ o.getD (p - 1) 0)
  | 0, _ => ⟨trivial, by simp [ddS], by simp [ddS]⟩
  | p + 1, h => by
    obtain ⟨h1, h2, h3⟩ := ddS_spec o hu p (by omega)
    have hg := UpW.get.1 hu
    have hm : ∀ x, x ∈ o.take (p + 1) ↔ x ∈ o.take p ∨ x = o.getD p 0 := fun x => by
      rw [take_snoc (by omega)]; simp
    unfold ddS
    split
    · rename_i hc
      refine ⟨h1, fun x => ?_, fun x hx _ => ?_⟩
      · rw [hm, h2]
        constructor
        · exact .inl
        · rintro (hx | rfl)
          · exact hx
          · rw [hc.2, List.mem_take_iff_getElem]
            exact ⟨p - 1, by omega, by simp [List.getD, List.getElem?_eq_getElem (show p - 1 < o.length by omega)]⟩
      · have := h3 x hx hc.1
        rw [Nat.add_sub_cancel, hc.2]; exact this
    · rename_i hc
      refine ⟨Up.snoc h1 fun y hy => ?_, fun x => ?_, fun x hx _ => ?_⟩
      · by_cases hp : 0 < p
        · have a := h3 y hy hp
          have b := hg (p - 1) (by omega)
          rw [show p - 1 + 1 = p by omega] at b
          have c : o.getD p 0 ≠ o.getD (p - 1) 0 := fun e => hc ⟨hp, e⟩
          omega
        · have : p = 0 := by omega
          subst this
          simp [ddS] at hy
      · rw [hm, List.mem_append, h2]; simp
      · rw [Nat.add_sub_cancel]
        rcases List.mem_append.1 hx with hx | hx
        · by_cases hp : 0 < p
          · have a := h3 x hx hp
            have b := hg (p - 1) (by omega)
            rw [show p - 1 + 1 = p by omega] at b
            omega
          · have : p = 0 := by omega
            subst this
            simp [ddS] at hx
        · rw [List.mem_singleton.1 hx]; exact Int.le_refl _
def norm (l : List Int) : List Int := dd (isort l)
theorem norm_up (l : List Int) : Up (norm l) := (ddS_spec _ (isort_spec l).2 _ (Nat.le_refl _)).1
theorem norm_mem (l : List Int) (x : Int) : x ∈ norm l ↔ x ∈ l := by
  unfold norm dd
  rw [(ddS_spec _ (isort_spec l).2 _ (Nat.le_refl _)).2.1, List.take_length]
  exact (isort_spec l).1.mem_iff
theorem norm_eq {l m : List Int} (h : Up m) (hm : ∀ x, x ∈ m ↔ x ∈ l) : norm l = m := Up.ext (norm_up l) h fun x => (norm_mem l x).trans (hm x).symm
end Go.Proofs.Ytbmhmfcjjhjkgaa.Vm
