/- BmcClauses, of typed arguments. -/
import Derived.Test.YtbmhmfcjjhjkgaaVmB2
import Derived.Test.YtbmhmfcjjhjkgaaVmD1BmcClauses
namespace Go.Proofs.Ytbmhmfcjjhjkgaa.Vm
open Go
set_option linter.unusedVariables false
set_option linter.unusedSimpArgs false
theorem RC_of {c : S_Circuit} (h : R_S_Circuit c) : RC c := by
  obtain ⟨h1, ⟨_, h2⟩, ⟨_, h3⟩, ⟨_, h4⟩, _, h5⟩ := h
  exact ⟨h1, fun l hl => h2 l hl, fun a ha => h3 a ha, fun x hx => h4 x hx, fun x hx => h5 x hx⟩
theorem bmc_tame {c : S_Circuit} (hs : chk c = 0 → Small c) {n : Int} (hn : n ≤ 5 ∨ n ≥ 100) : Tame (bmcF c n).1 := by
  unfold bmcF
  split
  · exact ⟨Nat.zero_lt_succ _, Nat.zero_lt_succ _, fun r hr => (by cases hr), fun r hr => (by cases hr)⟩
  · rename_i h
    have h : chk c = 0 := Classical.not_not.1 h
    obtain ⟨fit, hbd, hcn⟩ := hs h
    split
    · exact ⟨Nat.zero_lt_succ _, Nat.zero_lt_succ _, fun r hr => (by cases hr), fun r hr => (by cases hr)⟩
    · rename_i h1
      split
      · exact ⟨Nat.zero_lt_succ _, Nat.zero_lt_succ _, fun r hr => (by cases hr), fun r hr => (by cases hr)⟩
      · rename_i h2
        obtain ⟨t1, t2, t3, t4⟩ := cnf_tame fit false (N := (n + 1).toNat) (by omega)
        have hlen : (clausesF c n).length ≤ 20000 := by simp at h2; omega
        have key : ∀ (l : List (List Int)) (b : List (List Int)), (∀ r ∈ b, r.length < 1000000) → ∀ r ∈ l.foldl (withF c) b, r.length < 1000000 := by
          intro l
          induction l with
          | nil => intro b h; exact h
          | cons x l ih =>
            intro b h
            refine ih _ ?_
            unfold withF
            have : ∀ (k : List Int) (b : List (List Int)), (∀ r ∈ b, r.length < 1000000) → ∀ r ∈ k.foldl (fun b y => addF b [litx x y]) b, r.length < 1000000 := by
              intro k
              induction k with
              | nil => intro b h; exact h
              | cons y k ih2 =>
                intro b h
                refine ih2 _ fun r hr => ?_
                rcases addF_mem hr with hr | hr
                · exact h r hr
                · simp at hr; omega
            exact this _ _ h
        refine ⟨t1, by show (clausesF c n).length < _; omega, t3, fun r hr => ?_⟩
        rcases addF_mem hr with hr | hr
        · exact key _ _ t4 r hr
        · rw [List.length_map] at hr; omega
theorem clauses {c : S_Circuit} (hr : RC c) {n : Int} (hI : RI n) : s_law36_BmcClauses c n = some true := by
  obtain ⟨b, hg, hb⟩ := great36_cases hr
  unfold s_law36_BmcClauses
  rw [hg]
  cases b with
  | true => simp only [Option.bind_some, if_true]
  | false =>
    obtain ⟨few, hs⟩ := hb rfl
    simp only [Option.bind_some, Bool.false_eq_true, if_false]
    by_cases h : n ≤ 5 ∨ n ≥ 100
    · have e : (if decide (n > 5) = true then some (decide (n < 100)) else some false) = some false := by
        by_cases h8 : n > 5
        · have : ¬ n < 100 := by omega
          simp only [h8, this, decide_true, decide_false, if_true]
        · simp only [h8, decide_false, Bool.false_eq_true, if_false]
      rw [e]
      simp only [Option.bind_some, Bool.false_eq_true, if_false, twin_eq few, bmc_eq hr few hs h hI, ref_bmc_eq hr few hs h hI, Same22_self (bmc_tame hs h), if_true, BEq.rfl, same02_self few]
    · have h8 : n > 5 := by omega
      have h9 : n < 100 := by omega
      simp only [h8, h9, decide_true, if_true, Option.bind_some]
theorem plain_BmcClauses (c : S_Circuit) (n : Int) (h : R_S_Circuit c) (hI : RI n) : s_law36_BmcClauses c n = some true := clauses (RC_of h) hI
end Go.Proofs.Ytbmhmfcjjhjkgaa.Vm
