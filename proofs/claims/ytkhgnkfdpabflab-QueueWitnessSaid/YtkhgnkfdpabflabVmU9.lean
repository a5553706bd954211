/- What values.All and values.Next answer. -/
import Derived.Test.YtkhgnkfdpabflabVmU8
namespace Go.Proofs.Ytkhgnkfdpabflab.Vm
open Go
set_option linter.unusedVariables false
set_option linter.unusedSimpArgs false
theorem idx_b {l : List Bool} {i : Int} (h0 : 0 ≤ i) (h1 : i.toNat < l.length) : idx l i = some (l.getD i.toNat false) := by
  unfold idx
  rw [if_pos ⟨h0, by omega⟩, List.getD_eq_getElem?_getD, List.getElem?_eq_getElem h1]; rfl
theorem values_of_eq {all : List Bool} {l : Int} (h0 : 0 ≤ l) (h1 : l < 4611686018427387904) (hl : (l / 2).toNat < all.length) : s_values_of all l = some (gval all l) := by
  unfold s_values_of gval
  rw [shr1 h0, and_one h0 h1, idx_b (by omega) hl]
  simp only [Option.bind_some]
  cases all.getD (l / 2).toNat false <;> cases (l % 2 == 1) <;> rfl
theorem gval_app {a t : List Bool} {l : Int} (hl : (l / 2).toNat < a.length) : gval (a ++ t) l = gval a l := by
  unfold gval
  rw [List.getD_eq_getElem?_getD, List.getD_eq_getElem?_getD, List.getElem?_append_left hl]
theorem cpl_eq {α : Type} {lo len : Nat} {ys es : List α} (h1 : ys.length ≤ len) (h2 : lo + ys.length ≤ es.length) : cpl lo len ys es = es.take lo ++ ys ++ es.drop (lo + ys.length) := by
  unfold cpl
  rw [List.take_of_length_le (l := ys) h1]
  refine List.take_of_length_le ?_
  simp only [List.length_append, List.length_take, List.length_drop]; omega
section
variable {c : S_Circuit}
theorem Vars_eq (hr : RC c) (hf : Few c) (hc : chk c = 0) (hfit : Fit c) : s_gates_Vars c = some (size c, 0) := by
  unfold s_gates_Vars
  have g1 := hfit.i0
  have g2 := hfit.size
  have g3 := hfit.len
  rw [gates_Check_eq hr hf, hc]
  simp only [Option.bind_some]
  rw [if_neg (by decide), starts_eq g1 (by omega) hf]
  simp only [Option.bind_some]
  have h0 : 0 ≤ size c := by unfold size; omega
  rw [wr (by omega) (by omega)]
  congr 2; omega
theorem All_loop (hf : Fit c) {st is : List Bool} (hst : st.length = c.Latches.length) (his : (is.length : Int) = c.Inputs) {m0 : Nat} (hm : (m0 : Int) = size c + 1) :
    Lp (b_values_All_L0 c st is m0) ([false] ++ is ++ st ++ List.replicate c.Ands.length false, 0) = some (allF c st is) := by
  have g1 := hf.i0
  have g2 := hf.size
  obtain ⟨g3, g4, g5⟩ := hf.len
  have hsz : size c = is.length + st.length + c.Ands.length := by unfold size; omega
  have hcp : cpn (m0 - Int.toNat 1) is = is.length := by
    unfold cpn
    rw [List.take_of_length_le (by show is.length ≤ m0 - 1; omega)]
  have main := Lp_fold (l := c.Ands) gateV (fun i b => b.length = 1 + is.length + st.length + i ∧ i ≤ c.Ands.length) (fun b i => (b ++ List.replicate (m0 - b.length) false, i)) (f := b_values_All_L0 c st is m0) (fun b => b) (by omega) (fun i x b hx hP => by
    have hi := lt_len hx
    obtain ⟨hb, _⟩ := hP
    obtain ⟨a1, a2, a3⟩ := hf.valid.ands i x hx
    have hA : (x.A / 2).toNat < b.length := by omega
    have hB : (x.B / 2).toNat < b.length := by omega
    have hrep : m0 - b.length = (m0 - (b.length + 1)) + 1 := by omega
    refine ⟨?_, by simp [gateV]; omega, by omega⟩
    unfold b_values_All_L0
    simp only [dec_lt hi, if_true, hcp]
    rw [idx_nat', hx]
    simp only [Option.bind_some]
    rw [values_of_eq (by omega) (by omega) (by rw [List.length_append]; omega), gval_app hA]
    simp only [Option.bind_some]
    have w1 : IntKind.wrap .i64 (1 + (is.length : Int)) = 1 + is.length := wr (by omega) (by omega)
    have w2 : IntKind.wrap .i64 (1 + (is.length : Int) + (st.length : Int)) = 1 + is.length + st.length := wr (by omega) (by omega)
    have w3 : IntKind.wrap .i64 (1 + (is.length : Int) + (st.length : Int) + (i : Int)) = (b.length : Int) := by rw [wr (by omega) (by omega)]; omega
    rw [w1, w2, w3, values_of_eq (by omega) (by omega) (by rw [List.length_append]; omega), gval_app hB, idx_b (by omega) (by rw [List.length_append, List.length_replicate, Int.toNat_natCast]; omega), Int.toNat_natCast, hrep, List.replicate_succ]
    simp only [Option.bind_some]
    have hset : ∀ v, (b ++ false :: List.replicate (m0 - (b.length + 1)) false).set b.length v = (b ++ [v]) ++ List.replicate (m0 - (b.length + 1)) false := fun v => by
      rw [List.set_append_right _ _ (Nat.le_refl _)]; simp
    have hlen : (gateV b x).length = b.length + 1 := by simp [gateV]
    cases hg : gval b x.A with
    | true => simp only [if_true, hset, Option.bind_some, hlen]; unfold gateV; rw [hg]; rfl
    | false => simp only [Bool.false_eq_true, if_false, hset, Option.bind_some, hlen]; unfold gateV; rw [hg]; rfl) (fun b hP => by
    unfold b_values_All_L0
    obtain ⟨hb, _⟩ := hP
    simp only [dec_ge, Bool.false_eq_true, if_false]
    have : m0 - b.length = 0 := by omega
    rw [this]; simp) ([false] ++ is ++ st) ⟨by simp; omega, by omega⟩
  have e : m0 - ([false] ++ is ++ st).length = c.Ands.length := by simp; omega
  rw [e] at main
  exact main.1
theorem All_eq (hr : RC c) (hf : Few c) (hc : chk c = 0) (hfit : Fit c) {st is : List Bool} (hst : st.length = c.Latches.length) (his : (is.length : Int) = c.Inputs) : s_values_All c st is = some (allF c st is, 0) := by
  have g1 := hfit.i0
  have g2 := hfit.size
  obtain ⟨g3, g4, g5⟩ := hfit.len
  have hsz : size c = is.length + st.length + c.Ands.length := by unfold size; omega
  obtain ⟨m0, hm⟩ : ∃ m0 : Nat, (m0 : Int) = size c + 1 := ⟨(size c + 1).toNat, by omega⟩
  have hcp : cpn (m0 - Int.toNat 1) is = is.length := by
    unfold cpn
    rw [List.take_of_length_le (by show is.length ≤ m0 - 1; omega)]
  unfold s_values_All
  rw [Vars_eq hr hf hc hfit]
  simp only [Option.bind_some]
  rw [if_neg (by decide), if_neg (by simp [hst])]
  simp only [Option.bind_some]
  have e1 : ((is.length : Int) != c.Inputs) = false := by simp [his]
  have hbig := big_ge
  have w0 : IntKind.wrap .i64 (size c + 1) = (m0 : Int) := by rw [wr (by omega) (by omega)]; omega
  have hmk : mkn (m0 : Int) = some m0 := by unfold mkn; rw [if_pos ⟨by omega, by omega⟩, Int.toNat_natCast]
  have w1 : IntKind.wrap .i64 (1 + (is.length : Int)) = ((1 + is.length : Nat) : Int) := by rw [wr (by omega) (by omega)]; omega
  have w2 : IntKind.wrap .i64 (((1 + is.length : Nat) : Int) + (st.length : Int)) = ((1 + is.length + st.length : Nat) : Int) := by rw [wr (by omega) (by omega)]; omega
  simp only [e1, Bool.false_eq_true, if_false, w0, hmk, Option.bind_some, hcp, w1, w2, Int.toNat_natCast]
  rw [if_pos ⟨by omega, by omega, by omega⟩, if_pos (by show 1 + (m0 - 1) ≤ m0; omega), if_pos ⟨by omega, by omega, by omega⟩, if_pos (by omega)]
  have c1 : cpl (Int.toNat 1) (m0 - Int.toNat 1) is (List.replicate m0 false) = [false] ++ is ++ List.replicate (st.length + c.Ands.length) false := by
    rw [cpl_eq (by show is.length ≤ m0 - 1; omega) (by rw [List.length_replicate]; show 1 + is.length ≤ m0; omega)]
    have : (List.replicate m0 false).take (Int.toNat 1) = [false] := by
      show (List.replicate m0 false).take 1 = _
      rw [List.take_replicate, Nat.min_eq_left (by omega)]; rfl
    rw [this, List.drop_replicate]
    congr 2; show m0 - (1 + is.length) = _; omega
  have c2 : cpl (1 + is.length) (1 + is.length + st.length - (1 + is.length)) st ([false] ++ is ++ List.replicate (st.length + c.Ands.length) false) = [false] ++ is ++ st ++ List.replicate c.Ands.length false := by
    rw [cpl_eq (by omega) (by simp; omega)]
    have t1 : ([false] ++ is ++ List.replicate (st.length + c.Ands.length) false).take (1 + is.length) = [false] ++ is := List.take_left' (by simp; omega)
    have t2 : ([false] ++ is ++ List.replicate (st.length + c.Ands.length) false).drop (1 + is.length + st.length) = List.replicate c.Ands.length false := by
      rw [← List.drop_drop, List.drop_left' (by simp; omega), List.drop_replicate]
      congr 1; omega
    rw [t1, t2]
  rw [c1, c2, All_loop hfit hst his hm]
  rfl
theorem allF_length (st is : List Bool) : (allF c st is).length = 1 + is.length + st.length + c.Ands.length := by
  have key : ∀ (gs : List S_And) (b : List Bool), (gs.foldl gateV b).length = b.length + gs.length := by
    intro gs
    induction gs with
    | nil => intro b; simp
    | cons g gs ih => intro b; rw [List.foldl_cons, ih]; simp [gateV]; omega
  unfold allF
  rw [key]; simp; omega
theorem Next_eq (hr : RC c) (hf : Few c) (hc : chk c = 0) (hfit : Fit c) {st is : List Bool} (hst : st.length = c.Latches.length) (his : (is.length : Int) = c.Inputs) : s_values_Next c st is = some (nextS c (allF c st is), 0) := by
  have g1 := hfit.i0
  have g2 := hfit.size
  obtain ⟨g3, g4, g5⟩ := hfit.len
  have hsz : size c = is.length + st.length + c.Ands.length := by unfold size; omega
  have hbig := big_ge
  unfold s_values_Next
  rw [All_eq hr hf hc hfit hst his]
  simp only [Option.bind_some]
  rw [if_neg (by decide)]
  have main := Lp_fold (l := c.Latches) (fun b l => b ++ [gval (allF c st is) l.Next]) (fun i b => b.length = i) (fun b i => (b, i)) (f := b_values_Next_L0 c (allF c st is, 0)) (fun b => b) (by omega) (fun i x b hx hP => by
    have hi := lt_len hx
    obtain ⟨a1, _⟩ := hfit.valid.latches x (List.mem_of_getElem? hx)
    refine ⟨?_, by simp [hP]⟩
    unfold b_values_Next_L0
    simp only [dec_lt hi, if_true]
    rw [idx_nat', hx]
    simp only [Option.bind_some]
    have := a1.1
    have := a1.2
    rw [values_of_eq a1.1 (by omega) (by rw [allF_length]; omega)]
    simp only [Option.bind_some]
    rw [if_pos (by omega)]) (fun b hP => by
    unfold b_values_Next_L0
    simp only [dec_ge, Bool.false_eq_true, if_false]) [] rfl
  rw [main.1, foldl_snoc]
  rfl
end
end Go.Proofs.Ytkhgnkfdpabflab.Vm
