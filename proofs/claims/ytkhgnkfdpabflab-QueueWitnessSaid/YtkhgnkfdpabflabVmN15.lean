/- QueueWitness. -/
import Derived.Test.YtkhgnkfdpabflabVmN14
import Derived.Test.YtkhgnkfdpabflabVmD1QueueWitness
namespace Go.Proofs.Ytkhgnkfdpabflab.Vm
open Go
set_option linter.unusedVariables false
set_option linter.unusedSimpArgs false
theorem idx_mem {α : Type} {l : List α} {k : Int} {x : α} (h : idx l k = some x) : x ∈ l := by
  unfold idx at h
  split at h
  · exact List.mem_of_getElem? h
  · cases h
def cubeOf (l : List S_Obligation) (k : Int) : List Int := match idx l k with | some o => o.Cube | none => []
noncomputable def inSo (c : S_Circuit) (l : List S_Obligation) (ss : Nat → List Bool) (i : Nat) (k : Int) : Bool := (s_ref37_In (cubeOf l k) (ss (i + 1))).getD false && consB c (ss (i + 1)) (inp l k)
section
variable {c : S_Circuit} {l : List S_Obligation}
theorem so_eq (hn : Few c) (hk : chk c = 0) (hf : Fit c) (h60 : c.Latches.length ≤ 60) (hr : RO l) (hcu : ∀ o ∈ l, OkC c.Latches.length o.Cube) {ks : List Int} (hks : ∀ k ∈ ks, ∃ o, idx l k = some o ∧ (o.Inputs.length : Int) = c.Inputs) (h0 : 0 < ks.length) (hm : ks.length ≤ 1000)
    {ss : Nat → List Bool} (hss : ∀ j, (ss j).length = c.Latches.length) :
    ∃ b, s_law38_so c l ks ((List.range (ks.length + 1)).map ss) = some b ∧ (b = true → (∀ (i : Nat) k, ks[i]? = some k → consB c (ss (i + 1)) (inp l k) = true) ∧ ∃ k, ks[ks.length - 1]? = some k ∧ badB c (ss ks.length) (inp l k) = true) := by
  have hst : ∀ j, j ≤ ks.length → ((List.range (ks.length + 1)).map ss)[j]? = some (ss j) := fun j hj => by rw [List.getElem?_map, List.getElem?_range (by omega)]; rfl
  unfold s_law38_so
  obtain ⟨r, h1, h2⟩ := Lp_find (l := ks) (fun i k => !inSo c l ss i k) (f := b_law38_so_L0 c l ks ((List.range (ks.length + 1)).map ss)) (r0 := .inl ()) (fun _ => .inr ()) (by omega) (fun i k hx => by
    have hi := lt_len hx
    obtain ⟨o, ho, hoi⟩ := hks k (List.mem_of_getElem? hx)
    have hmem := idx_mem ho
    have e1 : cubeOf l k = o.Cube := by unfold cubeOf; rw [ho]
    have e2 : inp l k = o.Inputs := by unfold inp; rw [ho]
    obtain ⟨b, hb⟩ := In_tot (hss (i + 1)) h60 (hr o hmem).1 (hcu o hmem)
    unfold b_law38_so_L0 inSo
    rw [if_pos (dec_lt hi), idx_nat', hx]
    simp only [Option.bind_some]
    rw [ho]
    simp only [Option.bind_some]
    rw [wr1 (by omega), idx_nat', hst (i + 1) (by omega)]
    simp only [Option.bind_some]
    rw [e1, hb, e2]
    simp only [Option.bind_some, Option.getD_some]
    cases b with
    | false => rfl
    | true =>
      simp only [if_true]
      rw [Holds_eq hk hn hf (hss (i + 1)) hoi]
      simp only [Option.bind_some, Bool.true_and]
      cases consB c (ss (i + 1)) o.Inputs <;> rfl) (by
    unfold b_law38_so_L0
    rw [dec_ge]; rfl)
  rw [h1]
  rcases h2 with ⟨ha, rfl⟩ | ⟨i, k, _, _, rfl⟩
  · simp only [Option.bind_some]
    have hz : ks[ks.length - 1]? = some ks[ks.length - 1] := List.getElem?_eq_getElem (by omega)
    generalize ks[ks.length - 1] = z at hz
    obtain ⟨o, ho, hoi⟩ := hks z (List.mem_of_getElem? hz)
    have e2 : inp l z = o.Inputs := by unfold inp; rw [ho]
    obtain ⟨r, hb, hbad⟩ := Bad_eq hn hf (hss ks.length) hoi
    rw [idx_nat', hst ks.length (Nat.le_refl _)]
    simp only [Option.bind_some]
    have w1 : IntKind.wrap .i64 ((ks.length : Int) - 1) = ((ks.length - 1 : Nat) : Int) := by rw [wr (by omega) (by omega)]; omega
    rw [w1, idx_nat', hz]
    simp only [Option.bind_some]
    rw [ho]
    simp only [Option.bind_some]
    rw [hb]
    refine ⟨decide (r ≥ 0), rfl, fun hd => ⟨fun i k hx => ?_, z, rfl, by rw [e2]; exact hbad (by simpa using hd)⟩⟩
    have := ha i k hx
    simp only [inSo, Bool.not_eq_false', Bool.and_eq_true] at this
    exact this.2
  · exact ⟨false, rfl, fun h => by cases h⟩
theorem tCheck_ok (hr : RC c) (hn : Few c) (hk : chk c = 0) {st : List Bool} {iss : List (List Bool)} (hst : st.length = c.Latches.length) (hs : ∀ x ∈ iss, (x.length : Int) = c.Inputs) (h0 : 0 < iss.length) (hm : iss.length ≤ 100) (hb : s_traces_starts c st = some true) :
    s_traces_Check c (S_Trace.mk st iss) = some 0 := by
  unfold s_traces_Check
  rw [gates_Check_eq hr hn, hk]
  simp only [Option.bind_some, bne_self_eq_false, Bool.false_eq_true, if_false]
  rw [if_neg (by simp; omega)]
  have e1 : ((iss.length : Int) == 0) = false := by simp; exact List.ne_nil_of_length_pos h0
  have e2 : ((st.length : Int) != (c.Latches.length : Int)) = false := by simp [hst]
  simp only [e1, e2, Bool.false_eq_true, if_false]
  rw [hb]
  simp only [Option.bind_some, if_true]
  rw [Lp_all (l := iss) (f := b_traces_Check_L0 c (S_Trace.mk st iss)) (r0 := .inl ()) (by omega) (fun i x hx => by
    have e : ((x.length : Int) != c.Inputs) = false := by simp [hs x (List.mem_of_getElem? hx)]
    unfold b_traces_Check_L0
    simp only
    rw [if_pos (dec_lt (lt_len hx)), idx_nat', hx]
    simp only [Option.bind_some, e, Bool.false_eq_true, if_false]) (by
    unfold b_traces_Check_L0
    simp only
    rw [dec_ge]; rfl)]
  rfl
theorem Witness_ok (hr : RC c) (hn : Few c) (hk : chk c = 0) (hf : Fit c) {st : List Bool} {iss : List (List Bool)} (hst : st.length = c.Latches.length) (hs : ∀ x ∈ iss, (x.length : Int) = c.Inputs) (h0 : 0 < iss.length) (hm : iss.length ≤ 100) (hb : s_traces_starts c st = some true)
    (hcons : ∀ (i : Nat) is, iss[i]? = some is → consB c (stS c st iss i) is = true) {is1 : List Bool} (hlast : iss[iss.length - 1]? = some is1) (hbad : badB c (stS c st iss (iss.length - 1)) is1 = true) :
    ∃ r, s_traces_Witness c (S_Trace.mk st iss) = some (r, 0) := by
  obtain ⟨g3, g4, g5⟩ := hf.len
  obtain ⟨f1, f2, f3, f4⟩ := hn
  have hn : Few c := ⟨f1, f2, f3, f4⟩
  unfold s_traces_Witness
  rw [tCheck_ok hr hn hk hst hs h0 hm hb]
  simp only [Option.bind_some, bne_self_eq_false, Bool.false_eq_true, if_false]
  have m0 : mkn (st.length : Int) = some st.length := by unfold mkn; unfold big; simp; omega
  rw [m0]
  simp only [Option.bind_some]
  have hcp : cpl 0 st.length st (List.replicate st.length false) = st := by
    rw [cpl_eq (Nat.le_refl _) (by simp)]; simp
  have e0 : decide (0 < (iss.length : Int)) = true := by simp; omega
  have hx0 : iss[0]? = some iss[0] := List.getElem?_eq_getElem h0
  have i0 : idx iss 0 = some iss[0] := by have := idx_nat' iss 0; rw [hx0] at this; simpa using this
  have hi0 := hs _ (List.mem_of_getElem? hx0)
  have hc0 := hcons 0 _ hx0
  have hc0 : consB c st iss[0] = true := hc0
  simp only [e0, if_true, i0, Option.bind_some, hcp]
  rw [Props_eq hr hn hk hf hst hi0, hc0, Next_eq hr hn hk hf hst hi0]
  simp only [Option.bind_some, bne_self_eq_false, Bool.false_eq_true, if_false, if_true]
  -- the value at the end
  obtain ⟨v, hv1, hv2⟩ := Index_eq (c.Bads.map (gval (allF c (stS c st iss (iss.length - 1)) is1))) true (by simp; omega)
  have hv : 0 ≤ v := hv2.2 (by
    obtain ⟨x, hx, hxv⟩ := List.any_eq_true.1 hbad
    exact List.mem_map.2 ⟨x, hx, hxv⟩)
  have w1 : IntKind.wrap .i64 ((iss.length : Int) - 1) = ((iss.length - 1 : Nat) : Int) := by rw [wr (by omega) (by omega)]; omega
  let at_ : Nat → Int := fun i => if i < iss.length then -1 else v
  have first : ((if ((0 : Int) == IntKind.wrap .i64 ((iss.length : Int) - 1)) = true then (s_slices_Index_of_bool (c.Bads.map (gval (allF c st iss[0]))) true).bind fun r2 => some r2 else some (-1)) : Option Int) = some (at_ 1) := by
    rw [w1]
    by_cases h1 : iss.length = 1
    · have e : ((0 : Int) == ((iss.length - 1 : Nat) : Int)) = true := by simp [h1]
      rw [e]
      have hl0 : is1 = iss[0] := by
        have : iss[0]? = some is1 := by rw [← hlast, h1]
        rw [hx0] at this; exact (Option.some.inj this).symm
      have hv1' : s_slices_Index_of_bool (c.Bads.map (gval (allF c st iss[0]))) true = some v := by
        rw [← hl0]
        have : iss.length - 1 = 0 := by omega
        rw [this] at hv1
        exact hv1
      rw [hv1']
      simp [at_, h1]
    · have e : ((0 : Int) == ((iss.length - 1 : Nat) : Int)) = false := by simp; omega
      rw [e]
      have : 1 < iss.length := by omega
      simp [at_, this]
  rw [first]
  simp only [Option.bind_some]
  have loop := Lp_to (f := b_traces_Witness_L0 c (S_Trace.mk st iss)) (fun j => (at_ (j + 1), ((j + 1 : Nat) : Int), stS c st iss (j + 1))) (iss.length - 1) (r := .inl v) (fun j hj => by
    have hx : iss[j + 1]? = some iss[j + 1] := List.getElem?_eq_getElem (by omega)
    have hi := hs _ (List.mem_of_getElem? hx)
    have hlen := stS_length (c := c) (iss := iss) hst (j + 1)
    unfold b_traces_Witness_L0
    simp only
    rw [if_pos (by simp; omega), idx_nat', hx]
    simp only [Option.bind_some]
    rw [Props_eq hr hn hk hf hlen hi, hcons (j + 1) _ hx, Next_eq hr hn hk hf hlen hi]
    simp only [Option.bind_some, bne_self_eq_false, Bool.false_eq_true, if_false, if_true]
    have e3 : stS c st iss (j + 1 + 1) = nextS c (allF c (stS c st iss (j + 1)) iss[j + 1]) := by
      show nextS c (allF c (stS c st iss (j + 1)) (iss.getD (j + 1) [])) = _
      rw [getD_of hx]
    rw [w1, wr1 (by omega), e3]
    by_cases h1 : j + 1 = iss.length - 1
    · have e : (((j + 1 : Nat) : Int) == ((iss.length - 1 : Nat) : Int)) = true := by simp [h1]
      rw [e]
      have hl0 : is1 = iss[j + 1] := by
        have : iss[j + 1]? = some is1 := by rw [← hlast, h1]
        rw [hx] at this; exact (Option.some.inj this).symm
      have hv1' : s_slices_Index_of_bool (c.Bads.map (gval (allF c (stS c st iss (j + 1)) iss[j + 1]))) true = some v := by
        rw [← hl0, h1]
        exact hv1
      have a1 : at_ (j + 1 + 1) = v := by
        have : ¬ j + 1 + 1 < iss.length := by omega
        simp [at_, this]
      simp only [if_true]
      rw [hv1', a1]
      rfl
    · have e : (((j + 1 : Nat) : Int) == ((iss.length - 1 : Nat) : Int)) = false := by simp; omega
      rw [e]
      have a1 : at_ (j + 1 + 1) = -1 := by
        have : j + 1 + 1 < iss.length := by omega
        simp [at_, this]
      have a2 : at_ (j + 1) = -1 := by
        have : j + 1 < iss.length := by omega
        simp [at_, this]
      rw [a1, a2]
      rfl) (by
    have a1 : at_ (iss.length - 1 + 1) = v := by
      have : ¬ iss.length - 1 + 1 < iss.length := by omega
      simp [at_, this]
    unfold b_traces_Witness_L0
    simp only
    rw [if_neg (by simp; omega), a1])
  have e1 : IntKind.wrap .i64 (0 + 1) = ((0 + 1 : Nat) : Int) := by decide
  have e2 : nextS c (allF c st iss[0]) = stS c st iss (0 + 1) := by
    show _ = nextS c (allF c st (iss.getD 0 []))
    rw [getD_of hx0]
  rw [e1, e2]
  rw [show at_ 1 = at_ (0 + 1) from rfl, loop]
  simp only [Option.bind_some, bne_self_eq_false, Bool.false_eq_true, if_false]
  rw [if_neg (by simp; exact hv)]
  exact ⟨v, rfl⟩
end
theorem plain_QueueWitness (c : S_Circuit) (l : List S_Obligation) (n : Int) (st is : List Bool) (h : R_S_Circuit c) (h1 : l.length ≤ maxLen ∧ ∀ y ∈ l, R_S_Obligation y) (_ : RI n) (_ : st.length ≤ maxLen ∧ ∀ y ∈ st, True) (_ : is.length ≤ maxLen ∧ ∀ y ∈ is, True) :
    s_law38_QueueWitness c l n st is = some true := by
  have hc := RC_of h
  have hr := RO_of h1.2
  unfold s_law38_QueueWitness
  rw [aliveQ_eq]
  simp only [Option.bind_some]
  obtain ⟨b, hb, hw⟩ := great36 hc
  rw [hb]
  simp only [Option.bind_some]
  cases b with
  | true => rfl
  | false =>
    obtain ⟨h60, hn⟩ := hw rfl
    simp only [Bool.false_eq_true, if_false]
    rw [ref_Check_eq hc hn]
    simp only [Option.bind_some]
    by_cases hk : chk c = 0
    · have hf := fit36 hc hb hk
      have hi := inputs_of hk
      by_cases c1 : (l.length : Int) > 60
      · simp [hk, c1]
      · obtain ⟨e, hq, hR, hok⟩ := Right_eq hc hn h60 (l := l) (by omega) hr
        rw [hR]
        have e1 : decide ((l.length : Int) > 60) = false := by simpa using c1
        have e2 : (chk c != 0) = false := by simp [hk]
        simp only [e1, e2, Bool.false_eq_true, if_false, Option.bind_some]
        by_cases he : e = 0
        · subst he
          obtain ⟨hO, _⟩ := hok rfl
          by_cases c2 : n < 0
          · simp [c2]
          · by_cases c3 : n ≥ (l.length : Int)
            · simp [c2, c3]
            · by_cases c4 : st.length = c.Latches.length
              · by_cases c5 : (is.length : Int) = c.Inputs
                · have x2 : decide (n < 0) = false := by simpa using c2
                  have x3 : decide (n ≥ (l.length : Int)) = false := by simpa using c3
                  have x4 : ((st.length : Int) != (c.Latches.length : Int)) = false := by simp [c4]
                  have x5 : ((is.length : Int) != c.Inputs) = false := by simp [c5]
                  simp only [x2, x3, x4, x5, bne_self_eq_false, Bool.false_eq_true, if_false, Option.bind_some, Bool.not_true]
                  have hlt : n < l.length := by omega
                  have h0 : 0 ≤ n := by omega
                  obtain ⟨p1, _, _, _⟩ := chain_facts hO (n.toNat + 1) n (by omega) hlt
                  have hmem := chain_mem hO hlt
                  have hne : 0 < (chain l n).length := by
                    rw [chain_cons hO h0 (List.getElem?_eq_getElem (by omega))]; simp
                  rw [qTrace_ok hO hq (by omega) h0 hlt c4 c5 (by omega) (by omega) (by omega), qChain_eq hq hO (by omega) h0 hlt]
                  have x6 : (((([is] ++ (chain l n).map (inp l)).length : Nat) : Int) != IntKind.wrap .i64 (((chain l n).length : Int) + 1)) = false := by
                    rw [wr1 (by omega)]
                    simp
                  have hfirst : ∃ b, s_traces_First c st = some (b, 0) ∧ s_traces_starts c st = some b := by
                    obtain ⟨b, hb⟩ := starts_tot hf c4
                    refine ⟨b, ?_, hb⟩
                    unfold s_traces_First
                    rw [gates_Check_eq hc hn, hk]
                    simp only [Option.bind_some, bne_self_eq_false, Bool.false_eq_true, if_false, x4, hb]
                  obtain ⟨b7, hb7, hs7⟩ := hfirst
                  simp only [Option.bind_some, bne_self_eq_false, Bool.false_eq_true, if_false, x6]
                  rw [Same04_self _ (by omega)]
                  simp only [Option.bind_some, Bool.not_true, Bool.false_eq_true, if_false]
                  rw [hb7, Props_eq hc hn hk hf c4 c5]
                  simp only [Option.bind_some, bne_self_eq_false, Bool.false_eq_true, if_false]
                  cases b7 with
                  | false => rfl
                  | true =>
                    simp only [if_true]
                    rcases Bool.eq_false_or_eq_true (consB c st is) with hcons | hcons
                    · have hins : ∀ x ∈ [is] ++ (chain l n).map (inp l), (x.length : Int) = c.Inputs := fun x hx => by
                        rcases List.mem_append.1 hx with hx | hx
                        · rw [List.mem_singleton.1 hx]; exact c5
                        · obtain ⟨k, hk, rfl⟩ := List.mem_map.1 hx
                          obtain ⟨o, ho, hoi⟩ := hmem k hk
                          have : inp l k = o.Inputs := by unfold inp; rw [ho]
                          rw [this]; exact hoi
                      have hlen : ([is] ++ (chain l n).map (inp l)).length = (chain l n).length + 1 := by simp [Nat.add_comm]
                      have hcu : ∀ o ∈ l, OkC c.Latches.length o.Cube := fun o ho => by
                        rcases qRight_find hc hn h60 (l := l) (by omega) hr hk with ⟨h, _⟩ | ⟨_, h⟩
                        · obtain ⟨i, hi⟩ := List.getElem?_of_mem ho
                          have := h i o hi
                          unfold badO at this
                          simp only [Bool.or_eq_false_iff, Bool.not_eq_false'] at this
                          exact (by
                            by_cases hx : OkC c.Latches.length o.Cube
                            · exact hx
                            · rw [okL_f hx] at this; cases this.1)
                        · rw [hq] at h; cases h
                      rw [All06_eq hf c4 hins (by omega) (by omega), hlen]
                      simp only [hcons, if_true, Option.bind_some]
                      obtain ⟨b, hso, hb2⟩ := so_eq hn hk hf h60 hr hcu hmem hne (by omega) (ss := stS c st ([is] ++ (chain l n).map (inp l))) (stS_length c4)
                      rw [hso]
                      simp only [Option.bind_some]
                      cases b with
                      | false => rfl
                      | true =>
                        obtain ⟨q1, z, hz, q2⟩ := hb2 rfl
                        have hcat : ∀ i : Nat, ([is] ++ (chain l n).map (inp l))[i + 1]? = ((chain l n)[i]?).map (inp l) := fun i => by simp
                        obtain ⟨r, hwit⟩ := Witness_ok hc hn hk hf (st := st) (iss := [is] ++ (chain l n).map (inp l)) c4 hins (by omega) (by omega) hs7 (fun i x hx => by
                          cases i with
                          | zero =>
                            simp at hx; subst hx
                            exact hcons
                          | succ i =>
                            rw [hcat] at hx
                            obtain ⟨k, hk, rfl⟩ := Option.map_eq_some_iff.1 hx
                            exact q1 i k hk) (is1 := inp l z) (by
                          rw [hlen, Nat.add_sub_cancel, show (chain l n).length = ((chain l n).length - 1) + 1 by omega, hcat, hz]
                          rfl) (by rw [hlen, Nat.add_sub_cancel]; exact q2)
                        rw [hwit]
                        rfl
                    · simp [hcons]
                · simp [c2, c3, c4, c5]
              · have x4 : ((st.length : Int) != (c.Latches.length : Int)) = true := by simp; omega
                simp [c2, c3, x4]
        · have e3 : (e != 0) = true := by simpa using he
          simp [e3]
    · have e2 : (chk c != 0) = true := by simpa using hk
      simp [e2]
end Go.Proofs.Ytkhgnkfdpabflab.Vm
