/- QueueRest. -/
import Derived.Test.YtkhgnkfdpabflaaVmN10
import Derived.Test.YtkhgnkfdpabflaaVmD1QueueRest
namespace Go.Proofs.Ytkhgnkfdpabflaa.Vm
open Go
set_option linter.unusedVariables false
set_option linter.unusedSimpArgs false
theorem plain_QueueRest (c : S_Circuit) (l : List S_Obligation) (n : Int) (h : R_S_Circuit c) (h1 : l.length ≤ maxLen ∧ ∀ y ∈ l, R_S_Obligation y) (_ : RI n) : s_law38_QueueRest c l n = some true := by
  have hc := RC_of h
  have hr := RO_of h1.2
  unfold s_law38_QueueRest
  rw [aliveQ_eq]
  simp only [Option.bind_some]
  obtain ⟨b, hb, hw⟩ := great36 hc
  rw [hb]
  simp only [Option.bind_some]
  cases b with
  | true => rfl
  | false =>
    obtain ⟨h60, hf⟩ := hw rfl
    simp only [Bool.false_eq_true, if_false]
    by_cases c1 : (l.length : Int) > 130
    · simp [c1]
    · have e1 : decide ((l.length : Int) > 130) = false := by simpa using c1
      obtain ⟨e, hq, hR, hok⟩ := Right_eq hc hf h60 (by omega) hr
      rw [hR]
      simp only [e1, Bool.false_eq_true, if_false, Option.bind_some]
      by_cases he : e = 0
      · subst he
        obtain ⟨hO, hk⟩ := hok rfl
        by_cases c2 : n < 0
        · simp [c2]
        · by_cases c3 : n ≥ (l.length : Int)
          · simp [c2, c3]
          · have e2 : decide (n < 0) = false := by simpa using c2
            have e3 : decide (n ≥ (l.length : Int)) = false := by simpa using c3
            simp only [e2, e3, bne_self_eq_false, Bool.false_eq_true, if_false, Option.bind_some, Bool.not_true]
            have hlt : n < l.length := by omega
            have h0 : 0 ≤ n := by omega
            have ho : l[n.toNat]? = some l[n.toNat] := List.getElem?_eq_getElem (by omega)
            generalize l[n.toNat] = o at ho
            have hi : idx l n = some o := idx_of h0 ho
            obtain ⟨f1, f2, f3, f4⟩ := chain_facts hO (n.toNat + 1) n (by omega) hlt
            obtain ⟨q1, q2, q3⟩ := hO _ _ ho
            rw [qChain_eq hq hO (by omega) h0 hlt]
            have hcc := chain_cons hO h0 ho
            have hne : chain l n ≠ [] := by rw [hcc]; simp
            have hpos : 0 < (chain l n).length := List.length_pos_iff.2 hne
            have e4 : (((chain l n).length : Int) == 0) = false := by simp; exact hne
            have i0 : idx (chain l n) 0 = some n := by have := idx_nat' (chain l n) 0; rw [hcc] at this ⊢; simpa using this
            simp only [Option.bind_some, bne_self_eq_false, Bool.false_eq_true, if_false, e4, i0]
            have hloop : Lp (b_law38_QueueRest_L0 c l n true (chain l n, 0)) 1 = some (.inl ()) := by
              have := Lp_to (f := b_law38_QueueRest_L0 c l n true (chain l n, 0)) (fun i => ((i + 1 : Nat) : Int)) ((chain l n).length - 1) (r := .inl ()) (fun i hi => by
                have hx : (chain l n)[i]? = some (chain l n)[i] := List.getElem?_eq_getElem (by omega)
                have hy : (chain l n)[i + 1]? = some (chain l n)[i + 1] := List.getElem?_eq_getElem (by omega)
                have d1 := f3 i _ _ hx hy
                have d2 := f2 _ (List.mem_of_getElem? hy)
                have w1 : IntKind.wrap .i64 (((i + 1 : Nat) : Int) - 1) = (i : Int) := by rw [wr (by omega) (by omega)]; omega
                unfold b_law38_QueueRest_L0
                rw [if_pos (by simp; omega)]
                simp only
                rw [idx_nat', hy, w1, idx_nat', hx]
                simp only [Option.bind_some]
                rw [if_neg (by simp; omega)]
                have d3 : decide ((chain l n)[i + 1] < 0) = false := by simp; omega
                simp only [Option.bind_some, d3, Bool.false_eq_true, if_false]
                rw [wr1 (by omega)]) (by
                unfold b_law38_QueueRest_L0
                rw [if_neg (by simp; omega)])
              exact this
            rw [hloop]
            have w2 : IntKind.wrap .i64 (((chain l n).length : Int) - 1) = (((chain l n).length - 1 : Nat) : Int) := by rw [wr (by omega) (by omega)]; omega
            have hz : (chain l n)[(chain l n).length - 1]? = some (chain l n)[(chain l n).length - 1] := List.getElem?_eq_getElem (by omega)
            generalize hz' : (chain l n)[(chain l n).length - 1] = z at hz
            obtain ⟨oz, g1, g2⟩ := f4 z (by rw [List.getLast?_eq_getElem?]; exact hz)
            have hzm := f2 z (List.mem_of_getElem? hz)
            have hiz : idx l z = some oz := idx_of hzm.1 g1
            simp only [Option.bind_some, w2, idx_nat', hz, hi]
            by_cases hN : o.Next < 0
            · have e5 : decide (o.Next < 0) = true := by simpa using hN
              have e6 : (chain l n).length = 1 := by rw [hcc, chain_neg hN]; rfl
              simp [e5, e6]
            · have e5 : decide (o.Next < 0) = false := by simpa using hN
              rw [qChain_eq hq hO (by omega) (by omega) (by omega)]
              have s1 : slice (Int.toNat 1) ((chain l n).length - Int.toNat 1) (chain l n) = chain l o.Next := by
                rw [hcc]; simp [slice]
              have e7 : (oz.Next == -1) = true := by rw [g2]; rfl
              have e8 : inC (chain l n).length 1 ((chain l n).length : Int) := by unfold inC; omega
              simp only [e5, Bool.false_eq_true, if_false, Option.bind_some, beq_self_eq_true, if_true, hiz, e7, e8, s1]
              rw [Same_self _ (by have := (chain_facts hO (o.Next.toNat + 1) o.Next (by omega) (by omega)).1; omega)]
              rfl
      · have e2 : (e != 0) = true := by simpa using he
        simp [e2]
end Go.Proofs.Ytkhgnkfdpabflaa.Vm
