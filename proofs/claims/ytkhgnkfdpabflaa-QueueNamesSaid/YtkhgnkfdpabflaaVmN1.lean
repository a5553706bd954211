/- queue.Check, Push and Pop: what they answer. -/
import Derived.Test.YtkhgnkfdpabflaaVmU1a
namespace Go.Proofs.Ytkhgnkfdpabflaa.Vm
open Go
set_option linter.unusedVariables false
set_option linter.unusedSimpArgs false
def mayB (w : S_Wait) : Bool := decide (0 ≤ w.Frame ∧ w.Frame ≤ 60 ∧ 0 ≤ w.Number ∧ w.Number < 1000)
def lessB (a b : S_Wait) : Bool := decide (a.Frame < b.Frame ∨ a.Frame = b.Frame ∧ a.Number < b.Number)
def GoodQ (q : List S_Wait) : Prop := (∀ w ∈ q, mayB w = true) ∧ ∀ (i : Nat) x y, q[i]? = some x → q[i + 1]? = some y → lessB y x = false
theorem may_eq (w : S_Wait) : s_queue_may w = some (mayB w) := by
  unfold s_queue_may mayB
  by_cases h1 : 0 ≤ w.Frame <;> by_cases h2 : w.Frame ≤ 60 <;> by_cases h3 : 0 ≤ w.Number <;> simp [h1, h2, h3]
def cmpI (a b : Int) : Int := if a < b then -1 else if b < a then 1 else 0
theorem Compare_eq (a b : Int) : s_cmp_Compare_of_int a b = some (cmpI a b) := by
  unfold s_cmp_Compare_of_int s_cmp_isNaN_of_int cmpI
  simp only [bne_self_eq_false, Option.bind_some, Bool.false_eq_true, if_false]
  by_cases h : a < b
  · simp [h]
  · by_cases h2 : b < a
    · simp [h, h2]
    · simp [h, h2]
theorem Or_eq (a b : Int) : s_cmp_Or_of_int [a, b] = some (if a = 0 then b else a) := by
  unfold s_cmp_Or_of_int
  have h0 : b_cmp_Or_of_int_L0 [a, b] 0 = if a = 0 then some (.inl 1) else some (.inr (.inr a)) := by
    have e : IntKind.wrap .i64 (0 + 1) = 1 := by decide
    have i0 : idx [a, b] 0 = some a := rfl
    unfold b_cmp_Or_of_int_L0
    rw [i0, e]
    by_cases h : a = 0 <;> simp [h]
  have h1 : b_cmp_Or_of_int_L0 [a, b] 1 = if b = 0 then some (.inl 2) else some (.inr (.inr b)) := by
    have e : IntKind.wrap .i64 (1 + 1) = 2 := by decide
    have i1 : idx [a, b] 1 = some b := rfl
    unfold b_cmp_Or_of_int_L0
    rw [i1, e]
    by_cases h : b = 0 <;> simp [h]
  have h2 : b_cmp_Or_of_int_L0 [a, b] 2 = some (.inr (.inl ())) := by
    unfold b_cmp_Or_of_int_L0
    simp
  by_cases ha : a = 0
  · rw [if_pos ha] at h0 ⊢
    rw [Lp_step h0]
    by_cases hb : b = 0
    · rw [if_pos hb] at h1
      rw [Lp_step h1, Lp_out h2, hb]; rfl
    · rw [if_neg hb] at h1
      rw [Lp_out h1]; rfl
  · rw [if_neg ha] at h0 ⊢
    rw [Lp_out h0]; rfl
theorem ord_neg (a b : S_Wait) : decide ((if cmpI a.Frame b.Frame = 0 then cmpI a.Number b.Number else cmpI a.Frame b.Frame) < 0) = lessB a b := by
  unfold cmpI lessB
  by_cases h1 : a.Frame < b.Frame
  · simp [h1]
  · by_cases h2 : b.Frame < a.Frame
    · have : ¬ a.Frame = b.Frame := by omega
      simp [h1, h2, this]
    · have : a.Frame = b.Frame := by omega
      by_cases h3 : a.Number < b.Number
      · simp [this, h3]
      · by_cases h4 : b.Number < a.Number <;> simp [this, h3, h4]
theorem Lp_down {R : Type} (p : Nat → Bool) {f : Int → Option (Int ⊕ R)} {r0 r1 : R} : ∀ (n : Nat), (∀ i : Nat, 0 < i → i ≤ n → f i = some (if p i then .inr r1 else .inl ((i - 1 : Nat) : Int))) → f 0 = some (.inr r0) →
    ∃ r, Lp f n = some r ∧ ((∀ i, 0 < i → i ≤ n → p i = false) ∧ r = r0 ∨ (∃ i, 0 < i ∧ i ≤ n ∧ p i = true) ∧ r = r1)
  | 0, _, h0 => ⟨r0, Lp_out h0, .inl ⟨fun i h1 h2 => by omega, rfl⟩⟩
  | n + 1, hs, h0 => by
    have h := hs (n + 1) (by omega) (by omega)
    cases hp : p (n + 1) with
    | true => rw [hp] at h; exact ⟨r1, Lp_out h, .inr ⟨⟨n + 1, by omega, by omega, hp⟩, rfl⟩⟩
    | false =>
      rw [hp] at h
      obtain ⟨r, e, hr⟩ := Lp_down p n (fun i h1 h2 => hs i h1 (by omega)) h0
      refine ⟨r, by rw [Lp_step h]; exact e, ?_⟩
      rcases hr with ⟨h1, h2⟩ | ⟨⟨i, h1, h2, h3⟩, h4⟩
      · refine .inl ⟨fun i q1 q2 => ?_, h2⟩
        by_cases e : i = n + 1
        · subst e; exact hp
        · exact h1 i q1 (by omega)
      · exact .inr ⟨⟨i, h1, by omega, h3⟩, h4⟩
open Classical in
noncomputable def chkQ (q : List S_Wait) : Int := if 1000 < q.length then 4 else if GoodQ q then 0 else 8
theorem chkQ_good {q : List S_Wait} (h : q.length ≤ 1000) (hg : GoodQ q) : chkQ q = 0 := by unfold chkQ; rw [if_neg (by omega), if_pos hg]
theorem chkQ_bad {q : List S_Wait} (h : q.length ≤ 1000) (hg : ¬ GoodQ q) : chkQ q = 8 := by unfold chkQ; rw [if_neg (by omega), if_neg hg]
theorem chkQ_0 {q : List S_Wait} (h : chkQ q = 0) : q.length ≤ 1000 ∧ GoodQ q := by
  unfold chkQ at h
  split at h
  · cases h
  · split at h
    · rename_i h1 h2; exact ⟨by omega, h2⟩
    · cases h
theorem Check_eq (q : List S_Wait) : s_queue_Check q = some (chkQ q) := by
  unfold s_queue_Check
  by_cases hl : 1000 < q.length
  · have e : decide ((q.length : Int) > 1000) = true := by simp; omega
    rw [if_pos e]
    unfold chkQ; rw [if_pos hl]
  · have e : ¬ decide ((q.length : Int) > 1000) = true := by simp; omega
    rw [if_neg e]
    obtain ⟨r, h1, h2⟩ := Lp_any (l := q) (fun w => !mayB w) (f := b_queue_Check_L0 q) (r0 := .inl ()) (fun _ => .inr ()) (by omega) (fun i x hx => by
      unfold b_queue_Check_L0
      rw [if_pos (dec_lt (lt_len hx)), idx_nat', hx]
      simp only [Option.bind_some, may_eq]
      cases mayB x <;> rfl) (by
      unfold b_queue_Check_L0
      rw [dec_ge]; rfl)
    rw [h1]
    rcases h2 with ⟨ha, rfl⟩ | ⟨ha, _, rfl⟩
    · have hmay : ∀ w ∈ q, mayB w = true := fun w hw => by
        have := List.any_eq_false.1 ha w hw
        simpa using this
      simp only [Option.bind_some]
      let p : Nat → Bool := fun i => match q[i]?, q[i - 1]? with | some x, some y => lessB x y | _, _ => false
      have hbody : ∀ i : Nat, 0 < i → i ≤ q.length - 1 → b_queue_Check_L1 q i = some (if p i then .inr (.inr ()) else .inl ((i - 1 : Nat) : Int)) := fun i h0 hi => by
        have hx : q[i]? = some q[i] := List.getElem?_eq_getElem (by omega)
        have hy : q[i - 1]? = some q[i - 1] := List.getElem?_eq_getElem (by omega)
        have e1 : IntKind.wrap .i64 ((i : Int) - 1) = ((i - 1 : Nat) : Int) := by rw [wr (by omega) (by omega)]; omega
        have e2 : decide ((i : Int) > 0) = true := by simp; omega
        unfold b_queue_Check_L1
        rw [if_pos e2, idx_nat', hx, e1, idx_nat', hy]
        simp only [Option.bind_some, Compare_eq, Or_eq, ord_neg]
        simp only [p, hx, hy]
        cases lessB q[i] q[i - 1] <;> rfl
      have h0 : b_queue_Check_L1 q 0 = some (.inr (.inl ())) := by
        unfold b_queue_Check_L1
        rw [if_neg (by simp)]
      have hstart : ∃ r, Lp (b_queue_Check_L1 q) (IntKind.wrap .i64 ((q.length : Int) - 1)) = some r ∧ ((∀ i, 0 < i → i ≤ q.length - 1 → p i = false) ∧ r = .inl () ∨ (∃ i, 0 < i ∧ i ≤ q.length - 1 ∧ p i = true) ∧ r = .inr ()) := by
        by_cases hz : q.length = 0
        · have e3 : IntKind.wrap .i64 ((q.length : Int) - 1) = -1 := by rw [hz]; decide
          rw [e3]
          refine ⟨.inl (), Lp_out ?_, .inl ⟨fun i h1 h2 => by omega, rfl⟩⟩
          unfold b_queue_Check_L1
          rfl
        · have e3 : IntKind.wrap .i64 ((q.length : Int) - 1) = ((q.length - 1 : Nat) : Int) := by rw [wr (by omega) (by omega)]; omega
          rw [e3]
          exact Lp_down p (q.length - 1) hbody h0
      obtain ⟨r, hr, h2⟩ := hstart
      rw [hr]
      rcases h2 with ⟨hn, rfl⟩ | ⟨⟨i, i0, i1, hp⟩, rfl⟩
      · have hg : GoodQ q := ⟨hmay, fun i x y hx hy => by
          have hlt := lt_len hy
          have := hn (i + 1) (by omega) (by omega)
          simpa [p, hx, hy] using this⟩
        rw [chkQ_good (by omega) hg]
        rfl
      · have hg : ¬ GoodQ q := fun hg => by
          have hx : q[i]? = some q[i] := List.getElem?_eq_getElem (by omega)
          have hy : q[i - 1]? = some q[i - 1] := List.getElem?_eq_getElem (by omega)
          have := hg.2 (i - 1) _ _ hy (by rw [show i - 1 + 1 = i by omega]; exact hx)
          simp [p, hx, hy, this] at hp
        rw [chkQ_bad (by omega) hg]
        rfl
    · have hg : ¬ GoodQ q := fun hg => by
        obtain ⟨w, hw, hm⟩ := List.any_eq_true.1 ha
        rw [hg.1 w hw] at hm; cases hm
      rw [chkQ_bad (by omega) hg]
      rfl
def plc (q : List S_Wait) (w : S_Wait) : Nat := q.findIdx (lessB w)
theorem plc_le (q : List S_Wait) (w : S_Wait) : plc q w ≤ q.length := List.findIdx_le_length
theorem Lp_first {α : Type} {l : List α} (p : α → Bool) {f : Int → Option (Int ⊕ Int)} (hl : l.length < 9223372036854775807)
    (hs : ∀ (i : Nat) (x : α), l[i]? = some x → f i = some (if p x then .inr (i : Int) else .inl (IntKind.wrap .i64 ((i : Int) + 1)))) (he : f l.length = some (.inr (l.length : Int))) :
    Lp f 0 = some ((l.findIdx p : Nat) : Int) := by
  have key : ∀ (m : Nat) (i : Nat), i + m = l.length → Lp f i = some ((i + (l.drop i).findIdx p : Nat) : Int) := by
    intro m
    induction m with
    | zero =>
      intro i hi
      have : i = l.length := by omega
      subst this
      rw [Lp_out he]; simp
    | succ m ih =>
      intro i hi
      obtain ⟨x, hx⟩ : ∃ x, l[i]? = some x := ⟨l[i], List.getElem?_eq_getElem (by omega)⟩
      have hd : l.drop i = x :: l.drop (i + 1) := by
        rw [List.drop_eq_getElem_cons (by omega)]
        congr 1
        have := List.getElem?_eq_getElem (l := l) (i := i) (by omega)
        rw [hx] at this
        exact (Option.some.inj this).symm
      have h := hs i x hx
      rw [wr1 (by omega)] at h
      rw [hd, List.findIdx_cons]
      cases hp : p x with
      | true => rw [hp] at h; rw [Lp_out h]; simp
      | false =>
        rw [hp] at h
        rw [Lp_step h, ih (i + 1) (by omega)]
        simp only [cond_false]
        congr 2; omega
  have := key l.length 0 (by omega)
  simpa using this
def putQ (q : List S_Wait) (w : S_Wait) : List S_Wait := q.take (plc q w) ++ w :: q.drop (plc q w)
open Classical in
noncomputable def pushA (q : List S_Wait) (w : S_Wait) : List S_Wait × Int :=
  if chkQ q ≠ 0 then ([], chkQ q) else if mayB w = true then (if q.length = 1000 then ([], 4) else (putQ q w, 0)) else ([], 2)
theorem pushA_bad {q : List S_Wait} {w : S_Wait} (h : chkQ q ≠ 0) : pushA q w = ([], chkQ q) := by unfold pushA; rw [if_pos h]
theorem pushA_not {q : List S_Wait} {w : S_Wait} (h : chkQ q = 0) (hm : mayB w = false) : pushA q w = ([], 2) := by unfold pushA; rw [if_neg (by simpa using h), if_neg (by simp [hm])]
theorem pushA_full {q : List S_Wait} {w : S_Wait} (h : chkQ q = 0) (hm : mayB w = true) (hf : q.length = 1000) : pushA q w = ([], 4) := by unfold pushA; rw [if_neg (by simpa using h), if_pos hm, if_pos hf]
theorem pushA_ok {q : List S_Wait} {w : S_Wait} (h : chkQ q = 0) (hm : mayB w = true) (hf : q.length ≠ 1000) : pushA q w = (putQ q w, 0) := by unfold pushA; rw [if_neg (by simpa using h), if_pos hm, if_neg hf]
theorem Push_eq (q : List S_Wait) (w : S_Wait) : s_queue_Push q w = some (pushA q w) := by
  unfold s_queue_Push
  rw [Check_eq]
  simp only [Option.bind_some, may_eq]
  by_cases hc : chkQ q = 0
  · obtain ⟨hl, hg⟩ := chkQ_0 hc
    have e0 : (chkQ q != 0) = false := by simp [hc]
    simp only [e0, Bool.false_eq_true, if_false]
    cases hm : mayB w with
    | false => rw [pushA_not hc hm]; rfl
    | true =>
      simp only [if_true]
      by_cases hf : q.length = 1000
      · rw [pushA_full hc hm hf, if_pos (by simp [hf])]
      · rw [pushA_ok hc hm hf, if_neg (by simp; omega), Lp_first (lessB w) (l := q) (f := b_queue_Push_L0 q w) (by omega) (fun i x hx => by
          unfold b_queue_Push_L0
          rw [if_pos (dec_lt (lt_len hx)), idx_nat', hx]
          simp only [Option.bind_some, Compare_eq, Or_eq, ord_neg]
          cases lessB w x <;> rfl) (by
          unfold b_queue_Push_L0
          rw [dec_ge]; rfl)]
        have hp := plc_le q w
        unfold plc at hp
        simp only [Option.bind_some]
        rw [if_pos (by unfold big; omega), if_pos (by unfold big; omega)]
        simp [insA, putQ, plc]
  · rw [pushA_bad hc, if_pos (by simpa using hc)]
noncomputable def popA (q : List S_Wait) : S_Wait × List S_Wait × Int :=
  if chkQ q ≠ 0 then (S_Wait.mk 0 0, [], chkQ q) else match q with | [] => (S_Wait.mk 0 0, [], 6) | w :: r => (w, r, 0)
theorem popA_bad {q : List S_Wait} (h : chkQ q ≠ 0) : popA q = (S_Wait.mk 0 0, [], chkQ q) := by unfold popA; rw [if_pos h]
theorem popA_nil : popA [] = (S_Wait.mk 0 0, [], 6) := by
  have : chkQ [] = 0 := chkQ_good (by simp) ⟨fun w hw => by simp at hw, fun i x y hx => by simp at hx⟩
  unfold popA; rw [if_neg (by simpa using this)]
theorem popA_cons {w : S_Wait} {r : List S_Wait} (h : chkQ (w :: r) = 0) : popA (w :: r) = (w, r, 0) := by unfold popA; rw [if_neg (by simpa using h)]
theorem Pop_eq (q : List S_Wait) : s_queue_Pop q = some (popA q) := by
  unfold s_queue_Pop
  rw [Check_eq]
  simp only [Option.bind_some]
  by_cases hc : chkQ q = 0
  · obtain ⟨hl, hg⟩ := chkQ_0 hc
    have e0 : (chkQ q != 0) = false := by simp [hc]
    simp only [e0, Bool.false_eq_true, if_false]
    cases q with
    | nil => rw [popA_nil]; rfl
    | cons w r =>
      rw [popA_cons hc]
      simp only [List.length_cons] at hl
      have i0 : idx (w :: r) 0 = some w := by have := idx_nat' (w :: r) 0; simpa using this
      have ic : inC (w :: r).length 1 ((w :: r).length : Int) := by unfold inC; simp; omega
      rw [if_neg (by simp; omega), i0]
      simp only [Option.bind_some]
      rw [if_pos ic, if_pos (by unfold big; simp [slice]; omega)]
      simp [slice]
  · rw [popA_bad hc, if_pos (by simpa using hc)]
end Go.Proofs.Ytkhgnkfdpabflaa.Vm
