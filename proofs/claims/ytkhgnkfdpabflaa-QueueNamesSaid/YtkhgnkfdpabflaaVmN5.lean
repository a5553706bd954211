/- Queues: sorted, and with one more. No program in sight. -/
import Derived.Test.YtkhgnkfdpabflaaVmN1
namespace Go.Proofs.Ytkhgnkfdpabflaa.Vm
open Go
set_option linter.unusedVariables false
set_option linter.unusedSimpArgs false
def leQ (a b : S_Wait) : Prop := lessB b a = false
theorem leQ_iff {a b : S_Wait} : leQ a b ↔ ¬ (b.Frame < a.Frame ∨ b.Frame = a.Frame ∧ b.Number < a.Number) := by unfold leQ lessB; simp
theorem leQ_trans {a b c : S_Wait} (h : leQ a b) (k : leQ b c) : leQ a c := by rw [leQ_iff] at *; omega
theorem leQ_asymm {a b : S_Wait} (h : lessB a b = true) : leQ a b := by
  rw [leQ_iff]; unfold lessB at h; simp at h; omega
theorem pw_of_adj : ∀ {q : List S_Wait}, (∀ (i : Nat) x y, q[i]? = some x → q[i + 1]? = some y → leQ x y) → q.Pairwise leQ
  | [], _ => .nil
  | a :: r, h => by
    have ih := pw_of_adj (q := r) fun i x y hx hy => h (i + 1) x y (by simpa using hx) (by simpa using hy)
    refine .cons (fun b hb => ?_) ih
    cases r with
    | nil => simp at hb
    | cons b0 r' =>
      have h0 : leQ a b0 := h 0 a b0 (by simp) (by simp)
      rcases List.mem_cons.1 hb with rfl | hb
      · exact h0
      · exact leQ_trans h0 ((List.pairwise_cons.1 ih).1 b hb)
theorem adj_of_pw {q : List S_Wait} (h : q.Pairwise leQ) (i : Nat) (x y : S_Wait) (hx : q[i]? = some x) (hy : q[i + 1]? = some y) : leQ x y := by
  rw [List.pairwise_iff_getElem] at h
  obtain ⟨h1, e1⟩ := List.getElem?_eq_some_iff.1 hx
  obtain ⟨h2, e2⟩ := List.getElem?_eq_some_iff.1 hy
  have := h i (i + 1) h1 h2 (by omega)
  rwa [e1, e2] at this
theorem GoodQ_iff {q : List S_Wait} : GoodQ q ↔ (∀ w ∈ q, mayB w = true) ∧ q.Pairwise leQ := ⟨fun h => ⟨h.1, pw_of_adj h.2⟩, fun h => ⟨h.1, adj_of_pw h.2⟩⟩
theorem putQ_perm (q : List S_Wait) (w : S_Wait) : (putQ q w).Perm (w :: q) := by
  unfold putQ
  refine List.perm_middle.trans ?_
  rw [List.take_append_drop]
theorem putQ_sorted {q : List S_Wait} (w : S_Wait) (h : q.Pairwise leQ) : (putQ q w).Pairwise leQ := by
  unfold putQ
  have hs : (q.take (plc q w) ++ q.drop (plc q w)).Pairwise leQ := by rw [List.take_append_drop]; exact h
  obtain ⟨h1, h2, h3⟩ := List.pairwise_append.1 hs
  have hw : ∀ a ∈ q.take (plc q w), leQ a w := fun a ha => by
    obtain ⟨i, hi⟩ := List.getElem?_of_mem ha
    have hlt := lt_len hi
    rw [List.length_take] at hlt
    rw [List.getElem?_take_of_lt (by omega)] at hi
    obtain ⟨hb, e⟩ := List.getElem?_eq_some_iff.1 hi
    have := List.not_of_lt_findIdx (p := lessB w) (xs := q) (i := i) (by unfold plc at hlt; omega)
    rw [e] at this
    simpa [leQ] using this
  have hd : ∀ b ∈ q.drop (plc q w), leQ w b := fun b hb => by
    have hlt : plc q w < q.length := by
      rcases Nat.lt_or_ge (plc q w) q.length with h | h
      · exact h
      · rw [List.drop_eq_nil_of_le h] at hb; simp at hb
    have hc : lessB w q[plc q w] = true := List.findIdx_getElem (w := hlt)
    rw [List.drop_eq_getElem_cons hlt] at hb h2
    rcases List.mem_cons.1 hb with rfl | hb
    · exact leQ_asymm hc
    · exact leQ_trans (leQ_asymm hc) ((List.pairwise_cons.1 h2).1 b hb)
  refine List.pairwise_append.2 ⟨h1, .cons hd h2, fun a ha b hb => ?_⟩
  rcases List.mem_cons.1 hb with rfl | hb
  · exact hw a ha
  · exact h3 a ha b hb
theorem putQ_good {q : List S_Wait} {w : S_Wait} (h : GoodQ q) (hm : mayB w = true) : GoodQ (putQ q w) := by
  rw [GoodQ_iff] at *
  refine ⟨fun x hx => ?_, putQ_sorted w h.2⟩
  rcases List.mem_cons.1 ((putQ_perm q w).mem_iff.1 hx) with rfl | hx
  · exact hm
  · exact h.1 x hx
theorem good_nil : GoodQ [] := ⟨fun w hw => by simp at hw, fun i x y hx => by simp at hx⟩
theorem good_tail {w : S_Wait} {r : List S_Wait} (h : GoodQ (w :: r)) : GoodQ r := by
  rw [GoodQ_iff] at *
  exact ⟨fun x hx => h.1 x (List.mem_cons_of_mem _ hx), (List.pairwise_cons.1 h.2).2⟩
def sortQ (l : List S_Wait) : List S_Wait := l.foldl putQ []
theorem foldQ_perm : ∀ (l q : List S_Wait), (l.foldl putQ q).Perm (l ++ q)
  | [], q => List.Perm.refl _
  | w :: l, q => by
    refine (foldQ_perm l (putQ q w)).trans ?_
    refine ((putQ_perm q w).append_left l).trans ?_
    rw [List.cons_append]
    exact List.perm_middle
theorem sortQ_perm (l : List S_Wait) : (sortQ l).Perm l := by have := foldQ_perm l []; rwa [List.append_nil] at this
theorem foldQ_good : ∀ (l q : List S_Wait), (∀ w ∈ l, mayB w = true) → GoodQ q → GoodQ (l.foldl putQ q)
  | [], q, _, h => h
  | w :: l, q, hm, h => foldQ_good l _ (fun x hx => hm x (List.mem_cons_of_mem _ hx)) (putQ_good h (hm w (List.mem_cons_self ..)))
theorem sortQ_good {l : List S_Wait} (h : ∀ w ∈ l, mayB w = true) : GoodQ (sortQ l) := foldQ_good l [] h good_nil
theorem sortQ_snoc (l : List S_Wait) (w : S_Wait) : sortQ (l ++ [w]) = putQ (sortQ l) w := by simp [sortQ]
theorem sortQ_length (l : List S_Wait) : (sortQ l).length = l.length := (sortQ_perm l).length_eq
end Go.Proofs.Ytkhgnkfdpabflaa.Vm
