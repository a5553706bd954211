/- Walks: slices.Compact of numbers. -/
import Derived.Test.YtbmhmfcjjhjkgaaVmW1
namespace Go.Proofs.Ytbmhmfcjjhjkgaa.Vm
open Go
set_option linter.unusedVariables false
set_option linter.unusedSimpArgs false
set_option linter.unusedSimpArgs false
attribute [local go_sem] WC_skip WC_exit WC_ret WC_seq WC_block WC_cond WC_rg KSeq_normal KSeq_ret KSeq_exit KBlock_normal KBlock_ret KBlock_exit KN_eq KRg_eq KSt_eq KSet_eq KLen_eq KPick_eq KG_eq KCond_eq boolP_d biteC_true biteC_false biteO_true biteO_false WO_nil WO_mv WO_nilr WO_pick WO_bin WO_beq Vm.beq WO_eqs WO_un WO_cvt WO_alloc WO_box WO_load WO_store WO_fad WO_fval WO_ix WO_ixb WO_ixa WO_bld WO_bsl WO_mks WO_slc WO_len WO_mx WO_mn WO_app WO_cpy WO_clr WO_xt WO_fn WO_chk WO_g
  WO_call WO_callv callK KHand KCallv KRes St.hand St.lend St.lends St.lend1 St.vals St.frz List.foldl_nil List.map_cons List.map_nil
  optP_some optP_none optP_ite
  St.get_set St.obj_set St.get_setObj St.obj_setObj St.up_set St.ob_set St.up_setObj0 St.get_kill St.obj_kill0 St.obj_killS St.up_kill St.get_ini St.obj_ini0 St.obj_iniS St.up_ini gt_nil gt_zero gt_succ St.val_t St.val_c
  pre step Vm.bin arith un lenOf cellsOf ofCells wid sub? slice put isShift St.new zcells St.load St.store Vm.fad natOf St.ix bnd St.slc cut St.els St.app St.wants St.skip I.dst resVal resVals Z.v Z.t? ofT T.cells V.shift V.shifts V.down V.downs downL chkV
  Option.map_some Option.map_none Option.bind_some List.length_cons List.length_nil List.drop_zero List.take_zero List.drop_succ_cons List.take_succ_cons List.take_nil List.drop_nil Nat.reduceEqDiff Nat.reduceLeDiff Nat.reduceAdd reduceIte reduceCtorEq Nat.add_zero Nat.zero_add and_true true_and and_false false_and or_true true_or false_or or_false if_true if_false Nat.one_ne_zero not_true not_false_eq_true Bool.false_eq_true forall_const true_implies false_implies implies_true forall_eq BEq.rfl ge_iff_le gt_iff_lt decide_true decide_false Bool.not_true Bool.not_false not_true_eq_false List.nil_append List.cons_append dInt dBool Nat.le_refl St.toT List.set_cons_zero List.set_cons_succ List.length_set List.length_map List.getElem?_map Int.toNat_natCast
attribute [local go_sem] wup_get wup_ob wup_up wup_obj0 wup_objS ob_ini
def ddS (o : List Int) : Nat → List Int
  | 0 => []
  | p + 1 => if 0 < p ∧ o.getD p 0 = o.getD (p - 1) 0 then ddS o p else ddS o p ++ [o.getD p 0]
def dd (o : List Int) : List Int := ddS o o.length
def zs (n : Nat) : List Int := List.replicate n 0
theorem ddS_le (o : List Int) : ∀ p, (ddS o p).length ≤ p
  | 0 => by simp [ddS]
  | p + 1 => by
    have := ddS_le o p
    unfold ddS
    split
    · omega
    · simp; omega
theorem ddS_lt (o : List Int) {k : Nat} (hk : 0 < k) (he : o.getD k 0 = o.getD (k - 1) 0) : ∀ p, k < p → (ddS o p).length < p
  | 0, h => by omega
  | p + 1, h => by
    by_cases e : k = p
    · subst e
      have := ddS_le o k
      simp only [ddS, hk, he, and_self, if_true]
      omega
    · have := ddS_lt o hk he p (by omega)
      unfold ddS
      split
      · omega
      · simp; omega
theorem take_snoc {c : List Int} {k : Nat} (h : k < c.length) : c.take (k + 1) = c.take k ++ [c.getD k 0] := by
  rw [List.take_succ_eq_append_getElem h]
  simp [h]
theorem set_take {c : List Int} {k j : Nat} {x : Int} (h : k ≤ j) : (c.set j x).take k = c.take k := by
  rw [List.take_set]
  exact List.set_eq_of_length_le (by simp; omega)
theorem getD_set_ne {c : List Int} {i j : Nat} {x : Int} (h : i ≠ j) : (c.set i x).getD j 0 = c.getD j 0 := by simp [List.getD, List.getElem?_set_ne h]
theorem getD_some {c : List Int} {j : Nat} (h : j < c.length) : c[j]? = some (c.getD j 0) := by simp [List.getD, List.getElem?_eq_getElem h]
theorem cp1 {l n N k0 : Nat} {o : List Int} (hN : o.length = N) (hlen : N < 1000000) (hk0 : 0 < k0) (hdup : o.getD k0 0 = o.getD (k0 - 1) 0) : ∀ (m k k2 : Nat) (c : List Int) (σ : St) (Q : Ex → St → Prop), k0 + k2 + m = N → 0 < k2 →
    σ.get 0 = .row (l + 1) n 0 N 1 → σ.get 3 = dInt k → σ.get 4 = .row (l + 1) n k0 (N - k0) 1 → σ.get 5 = dInt k2 → σ.obj (l + 1) n = some (.rw 1 (c.map iT) false) → c.length = N →
    c.take k = ddS o (k0 + k2) → k = (ddS o (k0 + k2)).length → (∀ j, k0 + k2 - 1 ≤ j → c.getD j 0 = o.getD j 0) →
    (∀ (c' : List Int) (k' : Nat) (σ' : St), c'.length = N → c'.take k' = ddS o N → k' = (ddS o N).length → σ'.get 0 = .row (l + 1) n 0 N 1 → σ'.get 3 = dInt k' → σ'.ob = σ.ob → σ'.up = upSet σ.up l n (some (.rw 1 (c'.map iT) false)) → Q (.exit 2) σ') →
    WC env (.loop c_slices_Compact_of_int_l1) σ Q
  | 0, k, k2, c, σ, Q, hm, h2, g0, g3, g4, g5, hob, hc, ht, hk, hs, hq => by
    have e1 : ¬ (k2 : Int) < ((N - k0 : Nat) : Int) := by omega
    have e2 : k0 + k2 = N := by omega
    rw [WC_loop' c_slices_Compact_of_int_l1.eq_1]
    simp only [go_sem, g4, g5, e1]
    refine hq c k _ hc (by rw [← e2]; exact ht) (by rw [← e2]; exact hk) ?_ ?_ ?_ ?_
    · simp only [go_sem, g0]
    · simp only [go_sem, g3]
    · simp only [go_sem]
    · simp only [go_sem]; exact (upSet_self hob).symm
  | m + 1, k, k2, c, σ, Q, hm, h2, g0, g3, g4, g5, hob, hc, ht, hk, hs, hq => by
    have e1 : (k2 : Int) < ((N - k0 : Nat) : Int) := by omega
    have e2 : (0 : Int) ≤ (k2 : Int) := by omega
    have w1 : IntKind.i64.wrap ((k2 : Int) - 1) = ((k2 - 1 : Nat) : Int) := by rw [w64 (by omega) (by omega)]; omega
    have w2 : IntKind.i64.wrap ((k2 : Int) + 1) = ((k2 + 1 : Nat) : Int) := by rw [w64 (by omega) (by omega)]; omega
    have hkl : k < k0 + k2 := by rw [hk]; exact ddS_lt o hk0 hdup _ (by omega)
    have w3 : IntKind.i64.wrap ((k : Int) + 1) = ((k + 1 : Nat) : Int) := by rw [w64 (by omega) (by omega)]; omega
    have e3 : (0 : Int) ≤ ((k2 - 1 : Nat) : Int) := by omega
    have e4 : ((k2 - 1 : Nat) : Int) < ((N - k0 : Nat) : Int) := by omega
    have e5 : k0 + (N - k0) ≤ c.length := by omega
    have e6 : (0 : Int) ≤ (k : Int) := by omega
    have e7 : (k : Int) < (N : Int) := by omega
    have e8 : N ≤ c.length := by omega
    have e9 : k < c.length := by omega
    have x1 : c[k0 + k2]? = some (o.getD (k0 + k2) 0) := by rw [getD_some (by omega), hs _ (by omega)]
    have x2 : c[k0 + (k2 - 1)]? = some (o.getD (k0 + (k2 - 1)) 0) := by rw [getD_some (by omega), hs _ (by omega)]
    have x3 : k0 + k2 - 1 = k0 + (k2 - 1) := by omega
    rw [WC_loop' c_slices_Compact_of_int_l1.eq_1]
    cases hd : (o.getD (k0 + k2) 0 != o.getD (k0 + (k2 - 1)) 0) with
    | false =>
      have he : o.getD (k0 + k2) 0 = o.getD (k0 + (k2 - 1)) 0 := by simpa using hd
      have hdd : ddS o (k0 + (k2 + 1)) = ddS o (k0 + k2) := by
        show ddS o (k0 + k2 + 1) = _
        simp only [ddS]
        rw [if_pos ⟨by omega, by rw [x3]; exact he⟩]
      simp only [go_sem, g0, g3, g4, g5, hob, e1, e2, e3, e4, e5, w1, w2, x1, x2, hd]
      refine cp1 (l := l) (n := n) hN hlen hk0 hdup m k (k2 + 1) c _ Q (by omega) (by omega) ?_ ?_ ?_ ?_ ?_ hc ?_ ?_ ?_ ?_
      · simp only [go_sem, g0]
      · simp only [go_sem, g3]
      · simp only [go_sem, g4]
      · simp only [go_sem]
      · simp only [go_sem, hob]
      · rw [hdd]; exact ht
      · rw [hdd]; exact hk
      · intro j hj; exact hs j (by omega)
      · intro c' k' σ' q1 q2 q3 q4 q5 q6 q7
        simp only [go_sem] at q6 q7
        exact hq c' k' σ' q1 q2 q3 q4 q5 q6 q7
    | true =>
      have he : ¬ o.getD (k0 + k2) 0 = o.getD (k0 + (k2 - 1)) 0 := by simpa using hd
      have hdd : ddS o (k0 + (k2 + 1)) = ddS o (k0 + k2) ++ [o.getD (k0 + k2) 0] := by
        show ddS o (k0 + k2 + 1) = _
        simp only [ddS]
        rw [if_neg (fun h => he (by rw [← x3]; exact h.2))]
      simp only [go_sem, g0, g3, g4, g5, hob, e1, e2, e3, e4, e5, e6, e7, e8, e9, w1, w2, w3, x1, x2, hd]
      refine cp1 (l := l) (n := n) hN hlen hk0 hdup m (k + 1) (k2 + 1) (c.set k (o.getD (k0 + k2) 0)) _ Q (by omega) (by omega) ?_ ?_ ?_ ?_ ?_ (by simp [hc]) ?_ ?_ ?_ ?_
      · simp only [go_sem, g0]
      · simp only [go_sem]
      · simp only [go_sem, g4]
      · simp only [go_sem]
      · simp only [go_sem, List.map_set]
      · rw [take_snoc (by simp; omega), set_take (Nat.le_refl k), ht, hdd]
        congr 2
        simp [List.getD, e9]
      · rw [hdd]; simp; exact hk
      · intro j hj; rw [getD_set_ne (by omega)]; exact hs j (by omega)
      · intro c' k' σ' q1 q2 q3 q4 q5 q6 q7
        simp only [go_sem, ob_setObjS, up_setObjS, upSet_twice] at q6 q7
        exact hq c' k' σ' q1 q2 q3 q4 q5 q6 q7
theorem dd_len (o : List Int) : (dd o).length ≤ o.length := ddS_le o _
def cpF (o : List Int) : List Int := dd o ++ zs (o.length - (dd o).length)
theorem cp2 {l n N : Nat} {o : List Int} (hN : o.length = N) (hlen : N < 1000000) : ∀ (m k : Nat) (σ : St) (Q : Ex → St → Prop), k + m = N → 0 < k →
    σ.get 0 = .row (l + 1) n 0 N 1 → σ.get 3 = dInt k → σ.obj (l + 1) n = some (.rw 1 (o.map iT) false) → ddS o k = o.take k →
    (∀ σ', dd o = o → σ'.get 0 = .row (l + 1) n 0 N 1 → σ'.ob = σ.ob → σ'.up = σ.up → Q (.exit 0) σ') →
    (∀ σ', σ'.get 2 = .row (l + 1) n 0 (dd o).length 1 → σ'.ob = σ.ob → σ'.up = upSet σ.up l n (some (.rw 1 ((cpF o).map iT) false)) → Q .ret σ') →
    WC env (.loop c_slices_Compact_of_int_l2) σ Q
  | 0, k, σ, Q, hm, hk, g0, g3, hob, ht, hq, hr => by
    have e1 : ¬ (k : Int) < (N : Int) := by omega
    rw [WC_loop' c_slices_Compact_of_int_l2.eq_1]
    simp only [go_sem, g0, g3, e1]
    refine hq _ ?_ ?_ ?_ ?_
    · unfold dd
      have : k = o.length := by omega
      rw [← this, ht, this, List.take_length]
    · simp only [go_sem, g0]
    · simp only [go_sem]
    · simp only [go_sem]
  | m + 1, k, σ, Q, hm, hk, g0, g3, hob, ht, hq, hr => by
    have e1 : (k : Int) < (N : Int) := by omega
    have e2 : (0 : Int) ≤ (k : Int) := by omega
    have w1 : IntKind.i64.wrap ((k : Int) - 1) = ((k - 1 : Nat) : Int) := by rw [w64 (by omega) (by omega)]; omega
    have w2 : IntKind.i64.wrap ((k : Int) + 1) = ((k + 1 : Nat) : Int) := by rw [w64 (by omega) (by omega)]; omega
    have e3 : (0 : Int) ≤ ((k - 1 : Nat) : Int) := by omega
    have e4 : ((k - 1 : Nat) : Int) < (N : Int) := by omega
    have e5 : N ≤ o.length := by omega
    have e6 : (k : Int) ≤ (N : Int) := by omega
    have x1 : o[k]? = some (o.getD k 0) := getD_some (by omega)
    have x2 : o[k - 1]? = some (o.getD (k - 1) 0) := getD_some (by omega)
    rw [WC_loop' c_slices_Compact_of_int_l2.eq_1]
    cases hd : (o.getD k 0 == o.getD (k - 1) 0) with
    | false =>
      have he : ¬ o.getD k 0 = o.getD (k - 1) 0 := by simpa using hd
      simp only [go_sem, g0, g3, hob, e1, e2, e3, e4, e5, w1, w2, x1, x2, hd]
      refine cp2 (l := l) (n := n) hN hlen m (k + 1) _ Q (by omega) (by omega) ?_ ?_ ?_ ?_ ?_ ?_
      · simp only [go_sem, g0]
      · simp only [go_sem]
      · simp only [go_sem, hob]
      · simp only [ddS]
        rw [if_neg (fun h => he h.2), ht, take_snoc (by omega)]
      · intro σ' q1 q2 q3 q4
        simp only [go_sem] at q3 q4
        exact hq σ' q1 q2 q3 q4
      · intro σ' q1 q2 q3
        simp only [go_sem] at q2 q3
        exact hr σ' q1 q2 q3
    | true =>
      have he : o.getD k 0 = o.getD (k - 1) 0 := by simpa using hd
      have hdd : ddS o (k + 1) = ddS o k := by
        simp only [ddS]
        rw [if_pos ⟨hk, he⟩]
      simp only [go_sem, g0, g3, hob, e1, e2, e3, e4, e5, e6, w1, x1, x2, hd]
      refine cp1 (l := l) (n := n) (k0 := k) hN hlen hk he m k 1 o _ _ (by omega) (by omega) ?_ ?_ ?_ ?_ ?_ hN ?_ ?_ ?_ ?_
      · simp only [go_sem, g0]
      · simp only [go_sem, g3]
      · simp only [go_sem]
      · simp only [go_sem]; rfl
      · simp only [go_sem, hob]
      · rw [hdd, ht]
      · rw [hdd, ht]; simp; omega
      · intro j hj; rfl
      · intro c' k' σ' q1 q2 q3 q4 q5 q6 q7
        simp only [go_sem] at q6 q7
        have hk' : k' ≤ N := by rw [q3]; exact ddS_le o N
        have f1 : (0 : Int) ≤ (k' : Int) := by omega
        have f2 : (k' : Int) ≤ (N : Int) := by omega
        have f3 : k' + (N - k') ≤ c'.length := by omega
        have hob' : σ'.obj (l + 1) n = some (.rw 1 (c'.map iT) false) := obj_of_up q7
        have hc' : c'.take k' ++ (List.replicate (N - k') 0 ++ c'.drop (k' + (N - k'))) = cpF o := by
          rw [q2, List.drop_eq_nil_of_le (by omega), List.append_nil]
          unfold cpF dd zs
          rw [hN, q3]
        have hz : List.take k' (List.map iT c') ++ (List.replicate (N - k') (T.int IntKind.i64 0) ++ List.drop (k' + (N - k')) (List.map iT c')) = (cpF o).map iT := by
          rw [← hc']
          simp [iT]
        simp only [go_sem, q4, q5, f1, f2, f3, hob', St.clr, List.append_assoc, List.length_replicate, hz]
        refine hr _ ?_ ?_ ?_
        · simp only [go_sem, q3, Nat.sub_zero]; unfold dd; rw [hN]
        · simp only [go_sem, ob_setObjS]; exact q6
        · simp only [go_sem, up_setObjS, q7, upSet_twice]
theorem AtFn_compact {es : List Int} (hl : es.length < 1000000) {σ : St} {l n d m : Nat} {is : List G} {Q : St → Prop} (hm : m = es.length) (hob : σ.obj l n = some (.rw 1 (es.map eI) false)) :
    AtFn env k_slices_Compact_of_int [.row (l + 1) n 0 m 1] (σ.ob :: σ.up) (KBack env false σ is d none Q) =
      WO env is ((σ.setObj l n (some (.rw 1 ((dd es ++ zs (es.length - (dd es).length)).map eI) false))).set d (.row l n 0 (dd es).length 1)) Q := by
  subst hm
  rw [eI_iT] at hob ⊢
  have h : gt none (gt [] (σ.ob :: σ.up) l) n = some (.rw 1 (es.map iT) false) := by rw [← hob]; cases l <;> rfl
  have key : ∃ sl ob, Ret env k_slices_Compact_of_int [.row (l + 1) n 0 es.length 1] (σ.ob :: σ.up) (.row (l + 1) n 0 (dd es).length 1) ⟨sl, ob, upSet (σ.ob :: σ.up) l n (some (.rw 1 ((cpF es).map iT) false))⟩ := by
    have : AtFn env k_slices_Compact_of_int [.row (l + 1) n 0 es.length 1] (σ.ob :: σ.up) (fun r τ => r = .row (l + 1) n 0 (dd es).length 1 ∧ τ.up = upSet (σ.ob :: σ.up) l n (some (.rw 1 ((cpF es).map iT) false))) := by
      rw [AtF fn_slices_Compact_of_int]
      simp only [n_slices_Compact_of_int, c_slices_Compact_of_int]
      have keep : dd es = es → upSet (σ.ob :: σ.up) l n (some (.rw 1 ((cpF es).map iT) false)) = σ.ob :: σ.up := fun e => by
        unfold cpF
        rw [e, Nat.sub_self]
        simp only [zs, List.replicate_zero, List.append_nil]
        exact upSet_self h
      cases hs : decide ((es.length : Int) < 2) with
      | true =>
        have hs' : es.length < 2 := by have := of_decide_eq_true hs; omega
        have e : dd es = es := by
          match es, hs' with
          | [], _ => rfl
          | [x], _ => rfl
          | _ :: _ :: _, h => simp at h; omega
        simp only [go_sem, hs, e]
        rw [e] at keep
        exact (keep rfl).symm
      | false =>
        have hs' : ¬ es.length < 2 := by have := of_decide_eq_false hs; omega
        simp only [go_sem, hs]
        refine cp2 (l := l) (n := n) rfl hl (es.length - 1) 1 _ _ (by omega) (by omega) ?_ ?_ ?_ ?_ ?_ ?_
        · simp only [go_sem]
        · simp only [go_sem]; rfl
        · simp only [go_sem]; exact h
        · simp only [ddS, Nat.lt_irrefl, false_and, if_false, List.nil_append]
          match es, hs' with
          | [], h => exact absurd (by simp) h
          | x :: l, _ => simp
        · intro σ' q1 q2 q3 q4
          simp only [go_sem] at q4
          simp only [go_sem, q2, q1]
          rw [q1] at keep
          rw [q4]; exact (keep rfl).symm
        · intro σ' q1 q2 q3
          simp only [go_sem] at q3
          simp only [go_sem, q1, q3]
    obtain ⟨r, ⟨sl, ob, u⟩, hr, rfl, rfl⟩ := this
    exact ⟨sl, ob, hr⟩
  obtain ⟨sl, ob, hr⟩ := key
  rw [AtFn_of hr]
  cases l with
  | zero => simp [KBack, back, leave, dat, dat2, dat1, optP, upSet, gt, st, cpF, St.setObj, St.set]
  | succ l => simp [KBack, back, leave, dat, dat2, dat1, optP, upSet, gt, st, cpF, St.setObj, St.set]
def cpl {α : Type} (lo len : Nat) (ys es : List α) : List α := ((es.take lo ++ ys.take len) ++ es.drop (lo + (ys.take len).length)).take es.length
theorem cpl_length {α : Type} {lo len : Nat} {ys es : List α} : (cpl lo len ys es).length = es.length := by
  unfold cpl
  simp only [List.length_take, List.length_append, List.length_drop]
  omega
def frO : Option Ob → Option Ob
  | some (.rw s es _) => some (.fz s es)
  | o => o
theorem frO_rw {s : Nat} {es : List T} {g : Bool} : frO (some (.rw s es g)) = some (.fz s es) := rfl
theorem frO_fz {s : Nat} {es : List T} : frO (some (.fz s es)) = some (.fz s es) := rfl
theorem frO_none : frO none = none := rfl
theorem fr1_obj (σ : St) (n l k : Nat) : (σ.frz1 n).obj l k = if l = 0 ∧ k = n then frO (σ.obj l k) else σ.obj l k := by
  unfold St.frz1
  split
  · rename_i s es gr h
    rw [St.obj_setObj]
    by_cases hh : l = 0 ∧ k = n
    · obtain ⟨rfl, rfl⟩ := hh
      simp [h, frO]
    · rw [if_neg hh, if_neg (fun e => hh ⟨e.1.symm, e.2.symm⟩)]
  · rename_i h
    by_cases hh : l = 0 ∧ k = n
    · obtain ⟨rfl, rfl⟩ := hh
      rw [if_pos ⟨rfl, rfl⟩]
      cases ho : σ.obj 0 k with
      | none => rfl
      | some o => cases o with
        | rw s es gr => exact absurd ho (h s es gr)
        | _ => rfl
    · rw [if_neg hh]
theorem fr1_get (σ : St) (n i : Nat) : (σ.frz1 n).get i = σ.get i := by
  unfold St.frz1
  split <;> rfl
theorem fr1_upl (σ : St) (n : Nat) : (σ.frz1 n).up.length = σ.up.length := by
  unfold St.frz1
  split <;> rfl
end Go.Proofs.Ytbmhmfcjjhjkgaa.Vm
