/- Chains, as lists of numbers. -/
import Derived.Test.YtkhgnkfdpabflaaVmN7
import Derived.Test.YtkhgnkfdpabflaaVmZ3
namespace Go.Proofs.Ytkhgnkfdpabflaa.Vm
open Go
set_option linter.unusedVariables false
set_option linter.unusedSimpArgs false
def ch (l : List S_Obligation) : Nat → Int → List Int
  | 0, _ => []
  | f + 1, n => if 0 ≤ n then (match l[n.toNat]? with | some o => n :: ch l f o.Next | none => []) else []
def chain (l : List S_Obligation) (n : Int) : List Int := ch l (n.toNat + 1) n
section
variable {c : S_Circuit} {l : List S_Obligation}
theorem ch_fuel (hO : OkO c l) : ∀ (f f' : Nat) (n : Int), n < f → n < f' → 0 < f → 0 < f' → ch l f n = ch l f' n
  | 0, f', n, h1, h2, h3, h4 => by omega
  | f + 1, 0, n, h1, h2, h3, h4 => by omega
  | f + 1, f' + 1, n, h1, h2, _, _ => by
    unfold ch
    by_cases hn : 0 ≤ n
    · rw [if_pos hn, if_pos hn]
      cases ho : l[n.toNat]? with
      | none => rfl
      | some o =>
        obtain ⟨_, q2, q3⟩ := hO _ _ ho
        simp only
        rcases Nat.eq_zero_or_pos f with hf | hf
        · subst hf
          have : o.Next = -1 := by omega
          rw [this]
          cases f' with
          | zero => rfl
          | succ f' => simp [ch]
        · rcases Nat.eq_zero_or_pos f' with hf' | hf'
          · subst hf'
            have : o.Next = -1 := by omega
            rw [this]
            cases f with
            | zero => rfl
            | succ f => simp [ch]
          · rw [ch_fuel hO f f' o.Next (by omega) (by omega) hf hf']
    · rw [if_neg hn, if_neg hn]
theorem chain_neg {n : Int} (h : n < 0) : chain l n = [] := by unfold chain ch; rw [if_neg (by omega)]
theorem chain_cons (hO : OkO c l) {n : Int} {o : S_Obligation} (h0 : 0 ≤ n) (ho : l[n.toNat]? = some o) : chain l n = n :: chain l o.Next := by
  obtain ⟨_, q2, q3⟩ := hO _ _ ho
  by_cases h : o.Next < 0
  · rw [chain_neg h]
    unfold chain ch
    rw [if_pos h0, ho]
    simp only
    cases n.toNat with
    | zero => rfl
    | succ k => unfold ch; rw [if_neg (by omega)]
  · have e : chain l n = n :: ch l n.toNat o.Next := by
      show ch l (n.toNat + 1) n = _
      rw [ch, if_pos h0, ho]
    rw [e]
    unfold chain
    rw [ch_fuel hO n.toNat (o.Next.toNat + 1) o.Next (by omega) (by omega) (by omega) (by omega)]
theorem chain_chn (hO : OkO c l) : ∀ (m : Nat) (n : Int), n < m → -1 ≤ n → n < l.length → ∀ acc : List Int,
    Lp (fun s : Int × List Int => if decide (s.1 ≥ 0) = true then (idx l s.1).bind fun o => some (.inl (o.Next, s.2 ++ [s.1])) else some (.inr s.2)) (n, acc) = some (acc ++ chain l n)
  | 0, n, h1, h2, h3, acc => by
    have : decide (n ≥ 0) = false := by simp; omega
    rw [chain_neg (by omega)]
    exact Lp_out (by simp only [this, Bool.false_eq_true, if_false, List.append_nil])
  | m + 1, n, h1, h2, h3, acc => by
    by_cases hn : 0 ≤ n
    · have e : decide (n ≥ 0) = true := by simpa using hn
      have hlt : n.toNat < l.length := by omega
      have ho : l[n.toNat]? = some l[n.toNat] := List.getElem?_eq_getElem hlt
      have hi : idx l n = some l[n.toNat] := idx_of hn ho
      obtain ⟨q1, q2, q3⟩ := hO _ _ ho
      rw [Lp_step (s' := ((l[n.toNat]).Next, acc ++ [n])) (by simp only [e, if_true, hi, Option.bind_some]), chain_chn hO m _ (by omega) q2 (by omega), chain_cons hO hn ho]
      simp
    · have : decide (n ≥ 0) = false := by simp; omega
      rw [chain_neg (by omega)]
      exact Lp_out (by simp only [this, Bool.false_eq_true, if_false, List.append_nil])
theorem chn_eq (hO : OkO c l) {n : Int} (h0 : 0 ≤ n) (h1 : n < l.length) : chn (fun o : S_Obligation => o.Next) l n = some (chain l n) := by
  have := chain_chn hO (n.toNat + 1) n (by omega) (by omega) h1 []
  unfold chn
  simpa using this
theorem chain_facts (hO : OkO c l) : ∀ (m : Nat) (n : Int), n < m → n < l.length → (chain l n).length ≤ m ∧ (∀ k ∈ chain l n, 0 ≤ k ∧ k ≤ n) ∧
    (∀ (i : Nat) x y, (chain l n)[i]? = some x → (chain l n)[i + 1]? = some y → y < x) ∧ (∀ x, (chain l n).getLast? = some x → ∃ o, l[x.toNat]? = some o ∧ o.Next = -1)
  | 0, n, h1, h2 => by rw [chain_neg (by omega)]; simp
  | m + 1, n, h1, h2 => by
    by_cases hn : 0 ≤ n
    · have ho : l[n.toNat]? = some l[n.toNat] := List.getElem?_eq_getElem (by omega)
      obtain ⟨q1, q2, q3⟩ := hO _ _ ho
      obtain ⟨p1, p2, p3, p4⟩ := chain_facts hO m (l[n.toNat]).Next (by omega) (by omega)
      rw [chain_cons hO hn ho]
      refine ⟨by simp; omega, fun k hk => ?_, fun i x y hx hy => ?_, fun x hx => ?_⟩
      · rcases List.mem_cons.1 hk with rfl | hk
        · exact ⟨hn, Int.le_refl _⟩
        · have := p2 k hk; omega
      · cases i with
        | zero =>
          simp at hx hy
          subst hx
          have := p2 y (List.mem_of_getElem? (i := 0) (by simpa using hy))
          omega
        | succ i => exact p3 i x y (by simpa using hx) (by simpa using hy)
      · by_cases hN : (l[n.toNat]).Next < 0
        · rw [chain_neg hN] at hx
          simp at hx; subst hx
          exact ⟨_, ho, by omega⟩
        · have hne : chain l (l[n.toNat]).Next ≠ [] := by
            rw [chain_cons hO (by omega) (List.getElem?_eq_getElem (by omega))]; simp
          rw [List.getLast?_cons_of_ne_nil hne] at hx
          exact p4 x hx
    · rw [chain_neg (by omega)]; simp
theorem qChain_eq (hr : s_queue_Right c l = some 0) (hO : OkO c l) (hl : l.length ≤ 1010) {n : Int} (h0 : 0 ≤ n) (h1 : n < l.length) : s_queue_Chain c l n = some (chain l n, 0) := by
  unfold s_queue_Chain
  rw [hr]
  have e1 : decide (n < 0) = false := by simp; omega
  have e2 : decide (n ≥ (l.length : Int)) = false := by simp; omega
  have hlen := (chain_facts hO (n.toNat + 1) n (by omega) h1).1
  simp only [Option.bind_some, bne_self_eq_false, Bool.false_eq_true, if_false, e1, e2]
  rw [chn_eq hO h0 h1]
  simp only [Option.bind_some]
  rw [if_pos (by unfold big; omega)]
end
end Go.Proofs.Ytkhgnkfdpabflaa.Vm
