/- What the small functions answer: literals, lists of literals. -/
import Derived.Test.YtbmhmfcjjhjkgaaVmH4
import Derived.Test.YtbmhmfcjjhjkgaaVmL0
namespace Go.Proofs.Ytbmhmfcjjhjkgaa.Vm
open Go
set_option linter.unusedVariables false
set_option linter.unusedSimpArgs false
theorem Lp_find {α R : Type} {l : List α} (p : Nat → α → Bool) {f : Int → Option (Int ⊕ R)} {r0 : R} (r1 : Int → R) (hl : l.length < 9223372036854775807)
    (hs : ∀ (i : Nat) (x : α), l[i]? = some x → f i = some (if p i x then .inr (r1 i) else .inl (IntKind.wrap .i64 ((i : Int) + 1)))) (he : f l.length = some (.inr r0)) :
    ∃ r, Lp f 0 = some r ∧ ((∀ i x, l[i]? = some x → p i x = false) ∧ r = r0 ∨ ∃ (i : Nat) (x : α), l[i]? = some x ∧ p i x = true ∧ r = r1 i) := by
  have key : ∀ (m : Nat) (i : Nat), i + m = l.length → (∀ j x, j < i → l[j]? = some x → p j x = false) → ∃ r, Lp f i = some r ∧ ((∀ i x, l[i]? = some x → p i x = false) ∧ r = r0 ∨ ∃ (i : Nat) (x : α), l[i]? = some x ∧ p i x = true ∧ r = r1 i) := by
    intro m
    induction m with
    | zero =>
      intro i hi hb
      have : i = l.length := by omega
      subst this
      refine ⟨r0, Lp_out he, .inl ⟨fun j x hx => hb j x ?_ hx, rfl⟩⟩
      rw [List.getElem?_eq_some_iff] at hx
      exact hx.1
    | succ m ih =>
      intro i hi hb
      obtain ⟨x, hx⟩ : ∃ x, l[i]? = some x := ⟨l[i], List.getElem?_eq_getElem (by omega)⟩
      have h := hs i x hx
      rw [wr1 (by omega)] at h
      cases hp : p i x with
      | true => rw [hp] at h; exact ⟨r1 i, Lp_out h, .inr ⟨i, x, hx, hp, rfl⟩⟩
      | false =>
        rw [hp] at h
        obtain ⟨r, h1, h2⟩ := ih (i + 1) (by omega) (fun j y hj hy => by
          by_cases e : j = i
          · subst e; rw [hx] at hy; cases hy; exact hp
          · exact hb j y (by omega) hy)
        exact ⟨r, by rw [Lp_step h]; exact h1, h2⟩
  exact key l.length 0 (by omega) (fun j _ hj => by omega)
theorem Lp_run {α β S R : Type} {l : List α} (g : β → α → β) (P : Nat → β → Prop) (st : Nat → β → S) {f : S → Option (S ⊕ R)}
    (hs : ∀ (i : Nat) (x : α) (b : β), l[i]? = some x → P i b → f (st i b) = some (.inl (st (i + 1) (g b x))) ∧ P (i + 1) (g b x)) (b0 : β) (h0 : P 0 b0) :
    Lp f (st 0 b0) = Lp f (st l.length (l.foldl g b0)) ∧ P l.length (l.foldl g b0) := by
  have key : ∀ (m : Nat) (i : Nat) (b : β), i + m = l.length → P i b → Lp f (st i b) = Lp f (st l.length ((l.drop i).foldl g b)) ∧ P l.length ((l.drop i).foldl g b) := by
    intro m
    induction m with
    | zero =>
      intro i b hi hP
      have : i = l.length := by omega
      subst this
      rw [List.drop_length, List.foldl_nil]
      exact ⟨rfl, hP⟩
    | succ m ih =>
      intro i b hi hP
      obtain ⟨x, hx⟩ : ∃ x, l[i]? = some x := ⟨l[i], List.getElem?_eq_getElem (by omega)⟩
      have hd : l.drop i = x :: l.drop (i + 1) := by
        rw [List.drop_eq_getElem_cons (by omega)]
        congr 1
        have := List.getElem?_eq_getElem (l := l) (i := i) (by omega)
        rw [hx] at this
        exact (Option.some.inj this).symm
      obtain ⟨h, hP'⟩ := hs i x b hx hP
      obtain ⟨q1, q2⟩ := ih (i + 1) (g b x) (by omega) hP'
      rw [hd, List.foldl_cons, Lp_step h]
      exact ⟨q1, q2⟩
  have := key l.length 0 b0 (by omega) h0
  simpa using this
theorem lt_len {α : Type} {l : List α} {i : Nat} {x : α} (h : l[i]? = some x) : i < l.length := by rw [List.getElem?_eq_some_iff] at h; exact h.1
theorem dec_lt {i n : Nat} (h : i < n) : decide ((i : Int) < (n : Int)) = true := by simp; omega
theorem dec_ge (n : Nat) : decide ((n : Int) < (n : Int)) = false := by simp
def notI (x : Int) : Int := if x % 2 = 0 then x + 1 else x - 1
theorem notI_nat (n : Nat) : ((n ^^^ 1 : Nat) : Int) = notI n := by
  unfold notI
  have h1 : (n ^^^ 1) / 2 = n / 2 := by
    have := Nat.xor_div_two (a := n) (b := 1)
    simpa using this
  have h2 := Nat.xor_mod_two_eq_one (a := n) (b := 1)
  have h3 : (1 : Nat) % 2 = 1 := rfl
  have h4 : (n ^^^ 1) % 2 = (n + 1) % 2 := by
    by_cases h : n % 2 = 1
    · have : ¬ (n ^^^ 1) % 2 = 1 := fun e => (h2.1 e) ⟨fun _ => h3, fun _ => h⟩
      omega
    · have : (n ^^^ 1) % 2 = 1 := h2.2 fun e => h (e.2 h3)
      omega
  split <;> omega
theorem bv_of {x : Int} (h0 : 0 ≤ x) (h1 : x < 4611686018427387904) : (BitVec.ofInt 64 x).toNat = x.toNat := by
  rw [BitVec.toNat_ofInt]
  have e : ((2 ^ 64 : Nat) : Int) = 18446744073709551616 := rfl
  have : x % ((2 ^ 64 : Nat) : Int) = x := Int.emod_eq_of_lt h0 (by rw [e]; omega)
  rw [this]
theorem wrap_nat {n : Nat} (h : n < 9223372036854775807) : IntKind.wrap .i64 (n : Int) = n := wr (by omega) (by omega)
theorem xor_one {x : Int} (h0 : 0 ≤ x) (h1 : x < 4611686018427387904) : xorI .i64 x 1 = notI x := by
  have e : (BitVec.ofInt IntKind.i64.bits x ^^^ BitVec.ofInt IntKind.i64.bits 1).toNat = x.toNat ^^^ 1 := by
    show (BitVec.ofInt 64 x ^^^ BitVec.ofInt 64 1).toNat = _
    rw [BitVec.toNat_xor, bv_of h0 h1, bv_of (by decide) (by decide)]; rfl
  unfold xorI
  rw [e]
  have hx : ((x.toNat : Nat) : Int) = x := by omega
  have h2 := notI_nat x.toNat
  rw [hx] at h2
  rw [h2]
  unfold notI
  split <;> exact wr (by omega) (by omega)
theorem xor_zero {x : Int} (h0 : 0 ≤ x) (h1 : x < 4611686018427387904) : xorI .i64 x 0 = x := by
  have e : (BitVec.ofInt IntKind.i64.bits x ^^^ BitVec.ofInt IntKind.i64.bits 0).toNat = x.toNat := by
    show (BitVec.ofInt 64 x ^^^ BitVec.ofInt 64 0).toNat = _
    rw [BitVec.toNat_xor, bv_of h0 h1, bv_of (by decide) (by decide)]; simp
  unfold xorI
  rw [e]
  have hx : ((x.toNat : Nat) : Int) = x := by omega
  rw [hx]
  exact wr (by omega) (by omega)
theorem and_one {x : Int} (h0 : 0 ≤ x) (h1 : x < 4611686018427387904) : andI .i64 x 1 = x % 2 := by
  have e : (BitVec.ofInt IntKind.i64.bits x &&& BitVec.ofInt IntKind.i64.bits 1).toNat = x.toNat % 2 := by
    show (BitVec.ofInt 64 x &&& BitVec.ofInt 64 1).toNat = _
    rw [BitVec.toNat_and, bv_of h0 h1, bv_of (by decide) (by decide)]
    exact Nat.and_one_is_mod _
  unfold andI
  rw [e, wrap_nat (by omega)]
  omega
theorem Not_eq {x : Int} (h0 : 0 ≤ x) (h1 : x < 4611686018427387904) : s_ref13_Not x = some (notI x) := by
  unfold s_ref13_Not notI
  rw [tmod2 h0]
  by_cases h : x % 2 = 0
  · simp only [h, BEq.rfl, if_true]; rw [wr (by omega) (by omega)]
  · have : (x % 2 == 0) = false := by simpa using h
    simp only [this, h, if_false, Bool.false_eq_true]; rw [wr (by omega) (by omega)]
theorem Not22_eq {x : Int} (h0 : 0 ≤ x) (h1 : x < 4611686018427387904) : s_ref22_Not x = some (notI x) := by
  unfold s_ref22_Not
  rw [Not_eq h0 h1]; rfl
theorem notI_range {x : Int} (h0 : 0 ≤ x) : 0 ≤ notI x ∧ notI x / 2 = x / 2 := by unfold notI; split <;> omega
def litx (row : List Int) (l : Int) : Int := if l % 2 = 1 then notI (row.getD (l / 2).toNat 0) else row.getD (l / 2).toNat 0
theorem idx_half {row : List Int} {l : Int} (h0 : 0 ≤ l) (h1 : l < 4611686018427387904) (hr : (l / 2).toNat < row.length) : idx row (IntKind.wrap .i64 (Int.tdiv l 2)) = some (row.getD (l / 2).toNat 0) := by
  rw [tdiv2 h0, wr (by omega) (by omega)]
  exact idx_of (by omega) (getD_some hr)
def RowOk (row : List Int) : Prop := ∀ x ∈ row, 0 ≤ x ∧ x < 4611686018427387904
theorem getD_ok {row : List Int} (h : RowOk row) (j : Nat) : 0 ≤ row.getD j 0 ∧ row.getD j 0 < 4611686018427387904 := by
  by_cases hj : j < row.length
  · exact h _ (List.mem_of_getElem? (getD_some hj))
  · simp [List.getD, List.getElem?_eq_none (show row.length ≤ j by omega)]
theorem unroll_lit_eq {row : List Int} {l : Int} (h0 : 0 ≤ l) (h1 : l < 4611686018427387904) (hr : (l / 2).toNat < row.length) (hrow : RowOk row) : s_unroll_lit row l = some (litx row l) := by
  unfold s_unroll_lit
  rw [idx_half h0 h1 hr, and_one h0 h1]
  obtain ⟨a, b⟩ := getD_ok hrow (l / 2).toNat
  show some _ = _
  unfold litx
  by_cases h : l % 2 = 1
  · rw [h, if_pos rfl, xor_one a b]
  · have h' : l % 2 = 0 := by omega
    rw [h', if_neg (by decide), xor_zero a b]
theorem ref_lit_eq {row : List Int} {l : Int} (h0 : 0 ≤ l) (h1 : l < 4611686018427387904) (hr : (l / 2).toNat < row.length) (hrow : RowOk row) : s_ref22_Lit row l = some (litx row l) := by
  unfold s_ref22_Lit litx
  rw [tmod2 h0, idx_half h0 h1 hr]
  obtain ⟨a, b⟩ := getD_ok hrow (l / 2).toNat
  by_cases h : l % 2 = 1
  · simp only [h, BEq.rfl, if_true]
    show (s_ref22_Not _).bind _ = _
    rw [Not22_eq a b]; rfl
  · have : (l % 2 == 1) = false := by simpa using h
    simp only [this, h, if_false, Bool.false_eq_true]; rfl
theorem Has_eq (l : List Int) (x : Int) (hl : l.length < 9223372036854775807) : s_ref13_Has l x = some (decide (x ∈ l)) := by
  unfold s_ref13_Has
  obtain ⟨r, h1, h2⟩ := Lp_find (l := l) (fun _ y => y == x) (f := b_ref13_Has_L0 l x) (r0 := Sum.inl ()) (fun _ => Sum.inr ()) hl (fun i y hy => by
    unfold b_ref13_Has_L0
    rw [dec_lt (lt_len hy), idx_nat', hy]
    simp only [if_true]
    show (if (y == x) = true then _ else _) = _
    cases y == x <;> rfl) (by unfold b_ref13_Has_L0; rw [dec_ge]; rfl)
  rw [h1]
  rcases h2 with ⟨h, rfl⟩ | ⟨i, y, hy, hp, rfl⟩
  · have : ¬ x ∈ l := fun hm => by
      obtain ⟨i, hi⟩ := List.mem_iff_getElem?.1 hm
      have := h i x hi
      simp at this
    simp [this]
  · have : x ∈ l := by
      have : y = x := by simpa using hp
      subst this
      exact List.mem_of_getElem? hy
    simp [this]
theorem Without_eq (l : List Int) (x : Int) (hl : l.length < big) : s_ref13_Without l x = some (l.filter (· != x)) := by
  unfold s_ref13_Without
  have hb : big < 9223372036854775807 := by decide
  obtain ⟨h, _⟩ := Lp_fold (l := l) (fun (b : List Int) y => if (y != x) = true then b ++ [y] else b) (fun i b => b = (l.take i).filter (· != x) ∧ b.length ≤ i) (fun b i => (b, i)) (f := b_ref13_Without_L0 l x) (fun b => b) (by omega) (fun i y b hy hP => by
    have hi := lt_len hy
    refine ⟨?_, ?_, ?_⟩
    · unfold b_ref13_Without_L0
      simp only [dec_lt hi, if_true, idx_nat', hy]
      show ((if (y != x) = true then if b.length + 1 ≤ big then some (b ++ [y]) else none else some b).bind fun x0 => some (Sum.inl (x0, IntKind.wrap .i64 ((i : Int) + 1)))) = _
      cases y != x with
      | true => rw [if_pos rfl, if_pos (by have := hP.2; omega)]; rfl
      | false => rfl
    · have := List.take_succ_eq_append_getElem hi
      have hy' : l[i] = y := by rw [List.getElem?_eq_getElem hi] at hy; exact Option.some.inj hy
      rw [this, hy', List.filter_append, ← hP.1]
      cases hq : y != x <;> simp [List.filter, hq]
    · have := hP.2
      cases y != x <;> simp <;> omega) (fun b hP => by unfold b_ref13_Without_L0; simp only [dec_ge]; rfl) [] ⟨by simp, by simp⟩
  rw [h]
  show some _ = _
  congr 1
  have : ∀ (m : List Int) (b : List Int), m.foldl (fun (b : List Int) y => if (y != x) = true then b ++ [y] else b) b = b ++ m.filter (· != x) := by
    intro m
    induction m with
    | nil => intro b; simp
    | cons y m ih =>
      intro b
      rw [List.foldl_cons, ih, List.filter_cons]
      cases y != x <;> simp
  simpa using this l []
def alw (l : List Int) : Bool := l.any fun x => decide (notI x ∈ l)
theorem Always_eq (l : List Int) (hl : l.length < 9223372036854775807) (hr : RowOk l) : s_ref13_Always l = some (alw l) := by
  unfold s_ref13_Always
  obtain ⟨r, h1, h2⟩ := Lp_find (l := l) (fun _ y => decide (notI y ∈ l)) (f := b_ref13_Always_L0 l) (r0 := Sum.inl ()) (fun _ => Sum.inr ()) hl (fun i y hy => by
    obtain ⟨a, b⟩ := hr y (List.mem_of_getElem? hy)
    unfold b_ref13_Always_L0
    rw [dec_lt (lt_len hy), idx_nat', hy]
    simp only [if_true]
    show ((s_ref13_Not y).bind _) = _
    rw [Not_eq a b]
    show ((s_ref13_Has l (notI y)).bind _) = _
    rw [Has_eq l _ hl]
    show (if decide (notI y ∈ l) = true then _ else _) = _
    cases decide (notI y ∈ l) <;> rfl) (by unfold b_ref13_Always_L0; rw [dec_ge]; rfl)
  rw [h1]
  rcases h2 with ⟨h, rfl⟩ | ⟨i, y, hy, hp, rfl⟩
  · have : alw l = false := by
      unfold alw
      rw [List.any_eq_false]
      intro x hx
      obtain ⟨i, hi⟩ := List.mem_iff_getElem?.1 hx
      have := h i x hi
      simpa using this
    rw [this]; rfl
  · have : alw l = true := by
      unfold alw
      rw [List.any_eq_true]
      exact ⟨y, List.mem_of_getElem? hy, hp⟩
    rw [this]; rfl
theorem UpW.up : ∀ {l : List Int}, UpW l → l.Nodup → Up l
  | [], _, _ => trivial
  | [_], _, _ => trivial
  | x :: y :: l, h, hn => by
    have hn' := List.nodup_cons.1 hn
    refine ⟨?_, UpW.up h.2 hn'.2⟩
    have : x ≠ y := fun e => hn'.1 (by rw [e]; simp)
    have := h.1
    omega
theorem Up.w : ∀ {l : List Int}, Up l → UpW l
  | [], _ => trivial
  | [_], _ => trivial
  | x :: y :: l, h => ⟨by have := h.1; omega, Up.w h.2⟩
theorem Up.nodup : ∀ {l : List Int}, Up l → l.Nodup
  | [], _ => List.nodup_nil
  | x :: l, h => List.nodup_cons.2 ⟨fun hx => by have := Up.lt h x hx; omega, Up.nodup h.tail⟩
theorem getD_snoc (a : List Int) (x : Int) (i : Nat) : (a ++ [x]).getD i 0 = if i < a.length then a.getD i 0 else if i = a.length then x else 0 := by
  simp only [List.getD_eq_getElem?_getD]
  by_cases h : i < a.length
  · rw [if_pos h, List.getElem?_append_left h]
  · rw [if_neg h, List.getElem?_append_right (by omega)]
    by_cases e : i = a.length
    · subst e; simp
    · rw [if_neg e, List.getElem?_eq_none (by simp; omega)]; rfl
theorem ins_up {a : List Int} {x : Int} (ha : Up a) (hx : x ∉ a) : Up (sink (a ++ [x]) a.length) ∧ ∀ y, y ∈ sink (a ++ [x]) a.length ↔ y ∈ a ∨ y = x := by
  have hp := sink_perm a.length (a ++ [x]) (by simp)
  have hg := UpW.get.1 ha.w
  have hu := sink_up a.length (a.length + 1) (a ++ [x]) (by omega) (by simp) (fun i hi h1 h2 => by
    rw [getD_snoc, getD_snoc, if_pos (by omega), if_pos (by omega)]
    exact hg i (by omega)) (fun h1 h2 => by omega) (fun h => by omega)
  refine ⟨UpW.up (UpW.get.2 fun i hi => hu i ?_) ?_, fun y => ?_⟩
  · rw [sink_length] at hi; simpa using hi
  · rw [hp.nodup_iff, List.nodup_append]
    refine ⟨ha.nodup, by simp, fun y hy z hz => ?_⟩
    rw [List.mem_singleton.1 hz]
    exact fun e => hx (e ▸ hy)
  · rw [hp.mem_iff, List.mem_append, List.mem_singleton]
theorem Sorted_L1 (p0 : List Int) (s0 : List Int × Int) : ∀ (j : Nat) (l : List Int), j < l.length → l.length < 4611686018427387904 → Lp (b_ref13_Sorted_L1 p0 s0) (l, (j : Int)) = some (sink l j)
  | 0, l, hj, _ => by
    refine Lp_out ?_
    unfold b_ref13_Sorted_L1
    have : decide (((0 : Nat) : Int) > 0) = false := by decide
    simp only [this]; rfl
  | j + 1, l, hj, hl => by
    have e1 : decide (((j + 1 : Nat) : Int) > 0) = true := by rw [decide_eq_true_eq]; omega
    have w1 : IntKind.wrap .i64 (((j + 1 : Nat) : Int) - 1) = (j : Int) := by rw [wr (by omega) (by omega)]; omega
    have x1 : l[j + 1]? = some (l.getD (j + 1) 0) := getD_some hj
    have x2 : l[j]? = some (l.getD j 0) := getD_some (by omega)
    by_cases h : l.getD (j + 1) 0 < l.getD j 0
    · have hs : b_ref13_Sorted_L1 p0 s0 (l, ((j + 1 : Nat) : Int)) = some (.inl ((l.set (j + 1) (l.getD j 0)).set j (l.getD (j + 1) 0), (j : Int))) := by
        unfold b_ref13_Sorted_L1
        have hd : decide (l.getD (j + 1) 0 < l.getD j 0) = true := by simpa using h
        have x3 : (l.set (j + 1) (l.getD j 0))[j]? = some (l.getD j 0) := by rw [List.getElem?_set_ne (by omega)]; exact x2
        simp only [e1, if_true, w1, idx_nat', x1, x2, Option.bind_some, hd, Int.toNat_natCast, x3]
      rw [Lp_step hs, Sorted_L1 p0 s0 j _ (by simp; omega) (by simpa using hl)]
      rw [sink, if_pos h]
    · have hs : b_ref13_Sorted_L1 p0 s0 (l, ((j + 1 : Nat) : Int)) = some (.inr l) := by
        unfold b_ref13_Sorted_L1
        have hd : decide (l.getD (j + 1) 0 < l.getD j 0) = false := by simpa using h
        simp only [e1, if_true, w1, idx_nat', x1, x2, Option.bind_some, hd, if_false, Bool.false_eq_true]
      rw [Lp_out hs, sink, if_neg h]
theorem Sorted_eq (l : List Int) (hl : l.length < big) : s_ref13_Sorted l = some (norm l) := by
  unfold s_ref13_Sorted
  have hb : big < 4611686018427387904 := by decide
  obtain ⟨h, hP⟩ := Lp_fold (l := l) (fun (b : List Int) y => if y ∈ b then b else sink (b ++ [y]) b.length) (fun i b => Up b ∧ (∀ x, x ∈ b ↔ x ∈ l.take i) ∧ b.length ≤ i) (fun b i => (b, i)) (f := b_ref13_Sorted_L0 l) (fun b => b) (by omega) (fun i y b hy hP => by
    have hi := lt_len hy
    obtain ⟨h1, h2, h3⟩ := hP
    have hm : ∀ x, x ∈ l.take (i + 1) ↔ x ∈ l.take i ∨ x = y := fun x => by
      have hy' : l[i] = y := by rw [List.getElem?_eq_getElem hi] at hy; exact Option.some.inj hy
      rw [List.take_succ_eq_append_getElem hi, hy']; simp
    by_cases hc : y ∈ b
    · refine ⟨?_, ?_⟩
      · unfold b_ref13_Sorted_L0
        simp only [dec_lt hi, if_true, idx_nat', hy, Option.bind_some, Has_eq b y (by omega), hc, decide_true]
      · simp only [hc, if_true]
        refine ⟨h1, fun x => ?_, by omega⟩
        rw [hm, h2]
        constructor
        · exact .inl
        · rintro (hx | rfl)
          · exact hx
          · exact (h2 x).1 hc
    · obtain ⟨q1, q2⟩ := ins_up h1 hc
      refine ⟨?_, ?_⟩
      · unfold b_ref13_Sorted_L0
        have e1 : ((b ++ [y]).length : Int) - 1 = (b.length : Int) := by simp
        have e2 : (b ++ [y]) ≠ [] := by simp
        simp only [dec_lt hi, if_true, idx_nat', hy, Option.bind_some, Has_eq b y (by omega), hc, decide_false, Bool.false_eq_true, if_false]
        rw [if_pos (by omega), e1, wrap_nat (by omega), Sorted_L1 l (b, i) b.length (b ++ [y]) (by simp) (by simp; omega)]
        rfl
      · simp only [hc, if_false]
        refine ⟨q1, fun x => ?_, by rw [sink_length]; simp; omega⟩
        rw [q2, hm, h2]) (fun b hP => by unfold b_ref13_Sorted_L0; simp only [dec_ge]; rfl) [] ⟨trivial, by simp, by simp⟩
  rw [h]
  show some _ = _
  congr 1
  refine (norm_eq hP.1 fun x => ?_).symm
  rw [hP.2.1, List.take_length]
end Go.Proofs.Ytbmhmfcjjhjkgaa.Vm
