/- QueueFirst. -/
import Derived.Test.YtkhgnkfdpabflaaVmN7
import Derived.Test.YtkhgnkfdpabflaaVmD1QueueFirst
namespace Go.Proofs.Ytkhgnkfdpabflaa.Vm
open Go
set_option linter.unusedVariables false
set_option linter.unusedSimpArgs false
def eqW (a b : S_Wait) : Bool := a.Frame == b.Frame && a.Number == b.Number
def cnt (x : S_Wait) (l : List S_Wait) : Nat := l.countP fun y => eqW y x
theorem cnt_snoc (x y : S_Wait) (l : List S_Wait) : cnt x (l ++ [y]) = cnt x l + if eqW y x = true then 1 else 0 := by
  unfold cnt
  rw [List.countP_append, List.countP_cons, List.countP_nil]
  simp
theorem cnt_le (x : S_Wait) (l : List S_Wait) : cnt x l ≤ l.length := List.countP_le_length
theorem count_loop {l q : List S_Wait} {r0 : Bool} {b : Bool} (i : Nat) (x : S_Wait) (hx : q[i]? = some x) (he : q.length = l.length) (hl : l.length ≤ 1000) :
    Lp (b_law38_QueueFirst_L2 l r0 (q, b) i) (0, 0) = some ((cnt x q : Int) - (cnt x l : Int)) := by
  have h := Lp_to (f := b_law38_QueueFirst_L2 l r0 (q, b) i) (fun k => ((cnt x (q.take k) : Int) - (cnt x (l.take k) : Int), (k : Int))) q.length (r := (cnt x q : Int) - (cnt x l : Int)) (fun k hk => by
    have hy : q[k]? = some q[k] := List.getElem?_eq_getElem hk
    have hz : l[k]? = some l[k] := List.getElem?_eq_getElem (by omega)
    have t1 : q.take (k + 1) = q.take k ++ [q[k]] := by rw [List.take_add_one, hy]; rfl
    have t2 : l.take (k + 1) = l.take k ++ [l[k]] := by rw [List.take_add_one, hz]; rfl
    have c1 := cnt_le x (q.take k)
    have c2 := cnt_le x (l.take k)
    rw [List.length_take] at c1 c2
    unfold b_law38_QueueFirst_L2
    rw [if_pos (by simp; omega)]
    simp only
    rw [idx_nat', hy, idx_nat', hx, idx_nat', hz]
    simp only [Option.bind_some]
    have p1 : (if (q[k].Frame == x.Frame) = true then if (q[k].Number == x.Number) = true then some true else some false else some false) = some (eqW q[k] x) := by
      unfold eqW; cases q[k].Frame == x.Frame <;> cases q[k].Number == x.Number <;> rfl
    have p2 : (if (l[k].Frame == x.Frame) = true then if (l[k].Number == x.Number) = true then some true else some false else some false) = some (eqW l[k] x) := by
      unfold eqW; cases l[k].Frame == x.Frame <;> cases l[k].Number == x.Number <;> rfl
    rw [p1, p2]
    simp only [Option.bind_some]
    rw [t1, t2, cnt_snoc, cnt_snoc]
    have w1 : IntKind.wrap .i64 ((k : Int) + 1) = ((k + 1 : Nat) : Int) := wr1 (by omega)
    cases eqW q[k] x <;> cases eqW l[k] x <;> simp only [Bool.false_eq_true, if_true, if_false, Option.bind_some, w1]
    · simp
    · rw [wr (by omega) (by omega)]; simp only [Option.some.injEq, Sum.inl.injEq, Prod.mk.injEq, and_true]; omega
    · rw [wr (by omega) (by omega)]; simp only [Option.some.injEq, Sum.inl.injEq, Prod.mk.injEq, and_true]; omega
    · rw [wr (n := _ + 1) (by omega) (by omega), wr (by omega) (by omega)]; simp only [Option.some.injEq, Sum.inl.injEq, Prod.mk.injEq, and_true]; omega) (by
    unfold b_law38_QueueFirst_L2
    rw [if_neg (by simp), List.take_of_length_le (Nat.le_refl _), List.take_of_length_le (by omega)])
  have e0 : ((cnt x (q.take 0) : Int) - (cnt x (l.take 0) : Int), ((0 : Nat) : Int)) = ((0 : Int), (0 : Int)) := by simp [cnt]
  rw [e0] at h
  exact h
theorem plain_QueueFirst (l : List S_Wait) (n : Int) (h1 : l.length ≤ maxLen ∧ ∀ y ∈ l, R_S_Wait y) (_ : RI n) : s_law38_QueueFirst l n = some true := by
  unfold s_law38_QueueFirst
  rw [alive_eq]
  simp only [Option.bind_some]
  by_cases c1 : (l.length : Int) > 60
  · simp [c1]
  · by_cases c2 : n < 0
    · simp [c1, c2]
    · by_cases c3 : n > (l.length : Int)
      · simp [c1, c2, c3]
      · have e1 : decide ((l.length : Int) > 60) = false := by simpa using c1
        have e2 : decide (n < 0) = false := by simpa using c2
        have e3 : decide (n > (l.length : Int)) = false := by simpa using c3
        simp only [e1, e2, e3, Bool.false_eq_true, if_false, Option.bind_some, Bool.not_true]
        obtain ⟨r, hr, hw⟩ := Lp_any (l := l) (fun w => !mayB w) (f := b_law38_QueueFirst_L0 l n true) (r0 := .inl ()) (fun _ => .inr ()) (by omega) (fun i x hx => by
          unfold b_law38_QueueFirst_L0
          rw [if_pos (dec_lt (lt_len hx)), idx_nat', hx]
          simp only [Option.bind_some, May_eq]
          cases mayB x <;> rfl) (by
          unfold b_law38_QueueFirst_L0
          rw [dec_ge]; rfl)
        rw [hr]
        rcases hw with ⟨ha, rfl⟩ | ⟨_, _, rfl⟩
        · have hm : ∀ w ∈ l, mayB w = true := fun w hw => by
            have := List.any_eq_false.1 ha w hw
            simpa using this
          obtain ⟨k, rfl⟩ : ∃ k : Nat, n = k := ⟨n.toNat, by omega⟩
          have hk : k ≤ l.length := by omega
          have s1 : slice k (l.length - k) l = l.drop k := by unfold slice; exact List.take_of_length_le (by simp)
          have s2 : slice 0 k l = l.take k := by simp [slice]
          simp only [Option.bind_some, Int.toNat_natCast, List.nil_append, List.length_nil, Nat.zero_add, s1, s2]
          rw [pushed_eq (by omega) hm]
          simp only [Option.bind_some]
          have hp : (l.drop k ++ l.take k).Perm l := by
            have := List.perm_append_comm (l₁ := l.drop k) (l₂ := l.take k)
            rwa [List.take_append_drop] at this
          have hm2 : ∀ w ∈ l.drop k ++ l.take k, mayB w = true := fun w hw => hm w (hp.mem_iff.1 hw)
          rw [if_pos (by unfold inC; omega), if_pos (by simp; unfold big; omega), if_pos (by unfold inC; omega), if_pos (by simp; unfold big; omega)]
          rw [pushed_eq (by rw [hp.length_eq]; omega) hm2]
          simp only [Option.bind_some]
          have hg := sortQ_good hm
          have hlen := sortQ_length l
          rw [popped_eq (by omega) hg, sortQ_eq hp hm2]
          simp only [Option.bind_some, bne_self_eq_false, Bool.false_eq_true, if_false, if_true]
          rw [Same38_self _ (by omega)]
          simp only [Option.bind_some, if_true]
          have e4 : (((sortQ l).length : Int) != (l.length : Int)) = false := by rw [hlen]; simp
          rw [Check_eq, chkQ_good (by omega) hg]
          simp only [e4, Bool.false_eq_true, if_false, Option.bind_some, bne_self_eq_false]
          rw [Lp_all (l := sortQ l) (f := b_law38_QueueFirst_L1 l true (sortQ l, true)) (r0 := .inl ()) (by omega) (fun i x hx => by
            have hlt := lt_len hx
            unfold b_law38_QueueFirst_L1
            rw [if_pos (dec_lt hlt), count_loop i x hx hlen (by omega)]
            have ec : cnt x (sortQ l) = cnt x l := (sortQ_perm l).countP_eq _
            have ez : (((cnt x (sortQ l) : Int) - (cnt x l : Int)) != 0) = false := by rw [ec]; simp
            simp only [Option.bind_some, ez, Bool.false_eq_true, if_false]
            by_cases h0 : 0 < i
            · have e5 : decide ((i : Int) > 0) = true := by simp; omega
              have e6 : IntKind.wrap .i64 ((i : Int) - 1) = ((i - 1 : Nat) : Int) := by rw [wr (by omega) (by omega)]; omega
              have hy : (sortQ l)[i - 1]? = some (sortQ l)[i - 1] := List.getElem?_eq_getElem (by omega)
              have e7 := hg.2 (i - 1) _ x hy (by rw [show i - 1 + 1 = i by omega]; exact hx)
              simp only [e5, if_true, e6, idx_nat', hx, hy, Option.bind_some, Less_eq, e7]
              rfl
            · have e5 : decide ((i : Int) > 0) = false := by simp; omega
              simp only [e5, Bool.false_eq_true, if_false, Option.bind_some]) (by
            unfold b_law38_QueueFirst_L1
            rw [dec_ge]; rfl)]
          rfl
        · rfl
end Go.Proofs.Ytkhgnkfdpabflaa.Vm
