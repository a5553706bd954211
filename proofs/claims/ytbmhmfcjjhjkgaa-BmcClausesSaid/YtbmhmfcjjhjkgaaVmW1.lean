/- Walks: what clauses want of the library. -/
import Derived.Test.YtbmhmfcjjhjkgaaVmEnv
import Derived.Test.YtbmhmfcjjhjkgaaVmP1
import Derived.Test.YtbmhmfcjjhjkgaaVmE1
import Derived.Test.YtbmhmfcjjhjkgaaVmW0
import Derived.Attr
namespace Go.Proofs.Ytbmhmfcjjhjkgaa.Vm
open Go
set_option linter.unusedVariables false
set_option linter.unusedSimpArgs false
set_option linter.unusedSimpArgs false
attribute [local go_sem] WC_skip WC_exit WC_ret WC_seq WC_block WC_cond WC_rg KSeq_normal KSeq_ret KSeq_exit KBlock_normal KBlock_ret KBlock_exit KN_eq KRg_eq KSt_eq KSet_eq KLen_eq KPick_eq KG_eq KCond_eq boolP_d biteC_true biteC_false biteO_true biteO_false WO_nil WO_mv WO_nilr WO_pick WO_bin WO_beq Vm.beq WO_eqs WO_un WO_cvt WO_alloc WO_box WO_load WO_store WO_fad WO_fval WO_ix WO_ixb WO_ixa WO_bld WO_bsl WO_mks WO_slc WO_len WO_mx WO_mn WO_app WO_cpy WO_clr WO_xt WO_fn WO_chk WO_g
  WO_call WO_callv callK KHand KCallv KRes St.hand St.lend St.lends St.lend1 St.vals St.frz List.foldl_nil List.map_cons List.map_nil
  optP_some optP_none optP_ite
  St.get_set St.obj_set St.get_setObj St.obj_setObj St.up_set St.ob_set St.up_setObj0 St.get_kill St.obj_kill0 St.obj_killS St.up_kill St.get_ini St.obj_ini0 St.obj_iniS St.up_ini gt_nil gt_zero gt_succ St.val_t St.val_c
  pre step Vm.bin arith un lenOf cellsOf ofCells wid sub? slice put isShift St.new zcells St.load St.store Vm.fad natOf St.ix bnd St.slc cut St.els St.app St.wants St.skip I.dst resVal resVals Z.v Z.t? ofT T.cells V.shift V.shifts V.down V.downs downL chkV
  Option.map_some Option.map_none Option.bind_some List.length_cons List.length_nil List.drop_zero List.take_zero List.drop_succ_cons List.take_succ_cons List.take_nil List.drop_nil Nat.reduceEqDiff Nat.reduceLeDiff Nat.reduceAdd reduceIte reduceCtorEq Nat.add_zero Nat.zero_add and_true true_and and_false false_and or_true true_or false_or or_false if_true if_false Nat.one_ne_zero not_true not_false_eq_true Bool.false_eq_true forall_const true_implies false_implies implies_true forall_eq BEq.rfl ge_iff_le gt_iff_lt decide_true decide_false Bool.not_true Bool.not_false not_true_eq_false List.nil_append List.cons_append dInt dBool Nat.le_refl St.toT List.set_cons_zero List.set_cons_succ List.length_set List.length_map List.getElem?_map Int.toNat_natCast
section
variable {E : Env} {σ : St} {Q : St → Prop} {is : List G}
def Eff (E : Env) (f : Nat) (xs : List V) (up : List Lv) (t : T) (up' : List Lv) : Prop := ∃ sl ob, Ret E f xs up (.d true t) ⟨sl, ob, up'⟩
def St.wup (σ : St) (ob : Lv) (up : List Lv) : St := ⟨σ.sl, ob, up⟩
theorem wup_get {ob : Lv} {up : List Lv} (i : Nat) : (σ.wup ob up).get i = σ.get i := rfl
theorem wup_ob {ob : Lv} {up : List Lv} : (σ.wup ob up).ob = ob := rfl
theorem wup_up {ob : Lv} {up : List Lv} : (σ.wup ob up).up = up := rfl
theorem wup_obj0 {ob : Lv} {up : List Lv} (n : Nat) : (σ.wup ob up).obj 0 n = gt none ob n := rfl
theorem wup_objS {ob : Lv} {up : List Lv} (l n : Nat) : (σ.wup ob up).obj (l + 1) n = gt none (gt [] up l) n := rfl
def Eff0 (E : Env) (f : Nat) (xs : List V) (up : List Lv) (up' : List Lv) : Prop := ∃ sl ob, Ret E f xs up (.tp []) ⟨sl, ob, up'⟩
theorem AtFn_eff0 {f : Nat} {xs : List V} {d : Nat} {ob ob0 : Lv} {up up0 : List Lv} (e1 : σ.ob = ob0) (e2 : σ.up = up0) (h : Eff0 E f xs (ob0 :: up0) (ob :: up)) :
    AtFn E f xs (ob0 :: up0) (KBack E false σ is d none Q) = WO E is ((σ.wup ob up).set d (.tp [])) Q := by
  subst e1 e2
  obtain ⟨sl, o, hr⟩ := h
  rw [AtFn_of hr]
  simp [KBack, back, leave, dat, dat2, dat1, dats2, optP, St.wup]
theorem Eff0.of {f : Nat} {xs : List V} {up up' : List Lv} (h : AtFn E f xs up (fun r σ => r = .tp [] ∧ σ.up = up')) : Eff0 E f xs up up' := by
  obtain ⟨r, ⟨sl, ob, u⟩, hr, rfl, rfl⟩ := h
  exact ⟨sl, ob, hr⟩
theorem Eff.of {f : Nat} {xs : List V} {up up' : List Lv} {t : T} (h : AtFn E f xs up (fun r σ => r = .d true t ∧ σ.up = up')) : Eff E f xs up t up' := by
  obtain ⟨r, ⟨sl, ob, u⟩, hr, rfl, rfl⟩ := h
  exact ⟨sl, ob, hr⟩
theorem ob_ini {xs : List V} {up : List Lv} : (St.ini xs up).ob = [] := rfl
end
attribute [local go_sem] wup_get wup_ob wup_up wup_obj0 wup_objS ob_ini
def upSet (up : List Lv) (l n : Nat) (o : Option Ob) : List Lv := st [] up l (st none (gt [] up l) n o)
abbrev iT (n : Int) : T := .int .i64 n
theorem KAns_d {v : V} {t : T} {σ : St} (h : v = .d true t) : KAns v (.d true t) σ := ⟨[], by rw [h]; simp [dat, dat2, dat1]⟩
theorem AtF {f : Nat} {F : Fn} {xs : List V} {up : List Lv} {K : V → St → Prop} (h : fnOf f = some F) : AtFn env f xs up K = WC env F.code (St.ini xs up) (KRes F.res K) := AtFn_eq h
theorem w64 {n : Int} (h1 : -9223372036854775808 ≤ n) (h2 : n ≤ 9223372036854775807) : IntKind.i64.wrap n = n := by
  simp [IntKind.wrap, IntKind.bits, IntKind.signed]; omega
theorem isNaN_ans (x : Int) : Ans env k_cmp_isNaN_of_int [dInt x] (dBool false) := by
  unfold Ans
  rw [AtF fn_cmp_isNaN_of_int]
  simp only [n_cmp_isNaN_of_int, c_cmp_isNaN_of_int]
  simp only [go_sem]
  exact KAns_d (by simp)
theorem Less_ans (x y : Int) : Ans env k_cmp_Less_of_int [dInt x, dInt y] (dBool (decide (x < y))) := by
  unfold Ans
  rw [AtF fn_cmp_Less_of_int]
  simp only [n_cmp_Less_of_int, c_cmp_Less_of_int]
  simp only [go_sem, env_fn, fn_cmp_isNaN_of_int, n_cmp_isNaN_of_int, AtCall_of (isNaN_ans _)]
  exact KAns_d rfl
theorem keep {m t : Nat} (ht : t < m) (k : Nat) (h : m ≤ k) : (k = t) = False := by simp; omega
theorem st_self {α : Type} {d : α} : ∀ {l : List α} {i : Nat} {v : α}, i < l.length → gt d l i = v → st d l i v = l
  | a :: l, 0, v, _, h => by cases h; rfl
  | a :: l, i + 1, v, hi, h => congrArg (a :: ·) (st_self (l := l) (by simpa using hi) h)
theorem gt_lt {α : Type} {d : α} : ∀ {l : List α} {i : Nat}, gt d l i ≠ d → i < l.length
  | [], i, h => absurd rfl h
  | a :: l, 0, _ => by simp
  | a :: l, i + 1, h => by have := gt_lt (l := l) (i := i) h; simp; exact this
theorem upSet_self {up : List Lv} {l n : Nat} {o : Ob} (h : gt none (gt [] up l) n = some o) : upSet up l n (some o) = up := by
  unfold upSet
  rw [st_self (gt_lt (by rw [h]; simp)) h]
  exact st_self (gt_lt (d := []) (fun e => by rw [e] at h; cases h)) rfl
theorem up_setObjS (σ : St) (l n : Nat) (o : Option Ob) : (σ.setObj (l + 1) n o).up = upSet σ.up l n o := rfl
theorem ob_setObjS (σ : St) (l n : Nat) (o : Option Ob) : (σ.setObj (l + 1) n o).ob = σ.ob := rfl
theorem st_twice {α : Type} {d : α} : ∀ (l : List α) (i : Nat) (v w : α), st d (st d l i v) i w = st d l i w
  | [], 0, _, _ => rfl
  | [], i + 1, v, w => congrArg (d :: ·) (st_twice [] i v w)
  | _ :: _, 0, _, _ => rfl
  | a :: l, i + 1, v, w => congrArg (a :: ·) (st_twice l i v w)
theorem upSet_twice (up : List Lv) (l n : Nat) (o o' : Option Ob) : upSet (upSet up l n o) l n o' = upSet up l n o' := by
  unfold upSet
  rw [gt_st, if_pos rfl, st_twice, st_twice]
def sink (es : List Int) : Nat → List Int
  | 0 => es
  | j + 1 => if es.getD (j + 1) 0 < es.getD j 0 then sink ((es.set (j + 1) (es.getD j 0)).set j (es.getD (j + 1) 0)) j else es
theorem sink_length : ∀ (j : Nat) (es : List Int), (sink es j).length = es.length
  | 0, _ => rfl
  | j + 1, es => by
    unfold sink
    split
    · rw [sink_length j]; simp
    · rfl
theorem ins1 {l n : Nat} : ∀ (j : Nat) (es : List Int) (σ : St) (Q : Ex → St → Prop), σ.get 0 = .row (l + 1) n 0 es.length 1 → σ.get 1 = dInt 0 → σ.get 7 = dInt j → j < es.length → es.length < 1000000 →
    σ.obj (l + 1) n = some (.rw 1 (es.map iT) false) →
    (∀ σ' : St, (∀ t, t < 7 → σ'.get t = σ.get t) → σ'.ob = σ.ob → σ'.up = upSet σ.up l n (some (.rw 1 ((sink es j).map iT) false)) → Q (.exit 2) σ') →
    WC env (.loop c_slices_insertionSortOrdered_of_int_l1) σ Q
  | 0, es, σ, Q, h0, h1, h7, hj, hlen, hob, hq => by
    rw [WC_loop' c_slices_insertionSortOrdered_of_int_l1.eq_1]
    have e1 : ¬ (0 : Int) < ((0 : Nat) : Int) := by omega
    simp only [go_sem, h0, h1, h7, env_fn, fn_cmp_Less_of_int, n_cmp_Less_of_int, AtCall_of (Less_ans _ _), hob, e1]
    exact hq _ (fun t ht => by simp only [St.get_set, keep ht, Nat.reduceLeDiff, if_false]) (by simp only [St.ob_set]) (by simp only [St.up_set, sink]; exact (upSet_self hob).symm)
  | j + 1, es, σ, Q, h0, h1, h7, hj, hlen, hob, hq => by
    have w1 : IntKind.i64.wrap (((j + 1 : Nat) : Int) - 1) = (j : Int) := by rw [w64 (by omega) (by omega)]; omega
    have e1 : (0 : Int) < ((j + 1 : Nat) : Int) := by omega
    have e2 : (0 : Int) ≤ ((j + 1 : Nat) : Int) := by omega
    have e3 : ((j + 1 : Nat) : Int) < (es.length : Int) := by omega
    have e4 : (0 : Int) ≤ (j : Int) := by omega
    have e5 : (j : Int) < (es.length : Int) := by omega
    obtain ⟨x, hx⟩ : ∃ x, es[j + 1]? = some x := ⟨es[j + 1], List.getElem?_eq_getElem (by omega)⟩
    obtain ⟨y, hy⟩ : ∃ y, es[j]? = some y := ⟨es[j], List.getElem?_eq_getElem (by omega)⟩
    rw [WC_loop' c_slices_insertionSortOrdered_of_int_l1.eq_1]
    cases hl : decide (x < y) with
    | false =>
      simp only [go_sem, h0, h1, h7, env_fn, fn_cmp_Less_of_int, n_cmp_Less_of_int, AtCall_of (Less_ans _ _), hob, w1, e1, e2, e3, e4, e5, hx, hy, hl]
      exact hq _ (fun t ht => by simp only [St.get_set, keep ht, Nat.reduceLeDiff, if_false]) (by simp only [St.ob_set]) (by
        have : ¬ es.getD (j + 1) 0 < es.getD j 0 := by simp [hx, hy]; simpa using hl
        simp only [St.up_set, sink, if_neg this]; exact (upSet_self hob).symm)
    | true =>
      simp only [go_sem, h0, h1, h7, env_fn, fn_cmp_Less_of_int, n_cmp_Less_of_int, AtCall_of (Less_ans _ _), hob, w1, e1, e2, e3, e4, e5, hx, hy, hl, hj, show j < es.length by omega]
      have hs : sink es (j + 1) = sink ((es.set (j + 1) y).set j x) j := by
        have : es.getD (j + 1) 0 < es.getD j 0 := by simp [hx, hy]; simpa using hl
        rw [sink, if_pos this]; simp [hx, hy]
      refine ins1 (l := l) (n := n) j ((es.set (j + 1) y).set j x) _ _ ?_ ?_ ?_ ?_ ?_ ?_ ?_
      · simp only [go_sem, h0]
      · simp only [go_sem, h1]
      · simp only [go_sem]
      · simp only [go_sem]; omega
      · simp only [go_sem]; omega
      · simp only [go_sem, List.map_set]
      · intro σ' k1 k2 k3
        refine hq σ' (fun t ht => ?_) ?_ ?_
        · rw [k1 t ht]; simp only [St.get_set, St.get_setObj, keep ht, Nat.reduceLeDiff, if_false]
        · rw [k2]; simp only [St.ob_set, ob_setObjS]
        · rw [k3, hs]; simp only [St.up_set, up_setObjS, upSet_twice]
theorem obj_of_up {σ : St} {up : List Lv} {l n : Nat} {o : Option Ob} (h : σ.up = upSet up l n o) : σ.obj (l + 1) n = o := by
  show gt none (gt [] σ.up l) n = o
  rw [h, upSet, gt_st, if_pos rfl, gt_st, if_pos rfl]
def isortF : Nat → Nat → List Int → List Int
  | 0, _, es => es
  | k + 1, i, es => isortF k (i + 1) (sink es i)
theorem isortF_length : ∀ (k i : Nat) (es : List Int), (isortF k i es).length = es.length
  | 0, _, _ => rfl
  | k + 1, i, es => by rw [isortF, isortF_length k, sink_length]
theorem ins2 {l n : Nat} : ∀ (k i : Nat) (es : List Int) (σ : St) (Q : Ex → St → Prop), (i + k = es.length ∨ k = 0 ∧ es.length ≤ i) → σ.get 0 = .row (l + 1) n 0 es.length 1 → σ.get 1 = dInt 0 → σ.get 2 = dInt es.length → σ.get 6 = dInt i → es.length < 1000000 →
    σ.obj (l + 1) n = some (.rw 1 (es.map iT) false) →
    (∀ σ' : St, σ'.ob = σ.ob → σ'.up = upSet σ.up l n (some (.rw 1 ((isortF k i es).map iT) false)) → Q (.exit 0) σ') →
    WC env (.loop c_slices_insertionSortOrdered_of_int_l2) σ Q
  | 0, i, es, σ, Q, hk, h0, h1, h2, h6, hlen, hob, hq => by
    have e1 : ¬ (i : Int) < (es.length : Int) := by omega
    rw [WC_loop' c_slices_insertionSortOrdered_of_int_l2.eq_1]
    simp only [go_sem, h0, h1, h2, h6, e1]
    exact hq _ (by simp only [St.ob_set]) (by simp only [St.up_set, isortF]; exact (upSet_self hob).symm)
  | k + 1, i, es, σ, Q, hk, h0, h1, h2, h6, hlen, hob, hq => by
    have e1 : (i : Int) < (es.length : Int) := by omega
    have w1 : IntKind.i64.wrap ((i : Int) + 1) = ((i + 1 : Nat) : Int) := by rw [w64 (by omega) (by omega)]; omega
    rw [WC_loop' c_slices_insertionSortOrdered_of_int_l2.eq_1]
    simp only [go_sem, h0, h1, h2, h6, e1]
    refine ins1 (l := l) (n := n) i es _ _ ?_ ?_ ?_ ?_ hlen ?_ ?_
    · simp only [go_sem, h0]
    · simp only [go_sem, h1]
    · simp only [go_sem]
    · omega
    · simp only [go_sem, hob]
    · intro σ' k1 k2 k3
      have g0 := k1 0 (by omega)
      have g1 := k1 1 (by omega)
      have g2 := k1 2 (by omega)
      have g6 := k1 6 (by omega)
      simp only [go_sem, h0, h1, h2, h6] at g0 g1 g2 g6 k2 k3
      simp only [go_sem, g0, g1, g2, g6, w1]
      refine ins2 (l := l) (n := n) k (i + 1) (sink es i) _ _ ?_ ?_ ?_ ?_ ?_ ?_ ?_ ?_
      · rw [sink_length]; omega
      · simp only [go_sem, g0, sink_length]
      · simp only [go_sem, g1]
      · simp only [go_sem, g2, sink_length]
      · simp only [go_sem]
      · rw [sink_length]; exact hlen
      · simp only [go_sem]; exact obj_of_up k3
      · intro σ'' q1 q2
        refine hq σ'' ?_ ?_
        · rw [q1]; simp only [go_sem, k2]
        · rw [q2]; simp only [go_sem, k3, upSet_twice, isortF]
def isort (es : List Int) : List Int := isortF (es.length - 1) 1 es
theorem isort_length (es : List Int) : (isort es).length = es.length := isortF_length _ _ _
theorem insertionSort_eff {up : List Lv} {l n : Nat} {es : List Int} (h : gt none (gt [] up l) n = some (.rw 1 (es.map iT) false)) (h1 : es.length < 1000000) :
    Eff0 env k_slices_insertionSortOrdered_of_int [.row (l + 1) n 0 es.length 1, dInt 0, dInt es.length] up (upSet up l n (some (.rw 1 ((isort es).map iT) false))) := by
  have w1 : IntKind.i64.wrap ((0 : Int) + 1) = ((1 : Nat) : Int) := by rw [w64 (by omega) (by omega)]; rfl
  refine Eff0.of ?_
  rw [AtF fn_slices_insertionSortOrdered_of_int]
  simp only [n_slices_insertionSortOrdered_of_int, c_slices_insertionSortOrdered_of_int]
  simp only [go_sem, w1]
  refine ins2 (l := l) (n := n) (es.length - 1) 1 es _ _ ?_ ?_ ?_ ?_ ?_ ?_ ?_ ?_
  · omega
  · simp only [go_sem]
  · simp only [go_sem]
  · simp only [go_sem]
  · simp only [go_sem]
  · exact h1
  · simp only [go_sem]; exact h
  · intro σ' q1 q2
    simp only [go_sem] at q2 ⊢
    exact q2
noncomputable def ansB (n f : Nat) (xs : List V) (r : Int) : Bool := match callF env (run env n) f xs [] with
  | some (.d true (.int .i64 k), _) => k == r
  | _ => false
theorem ansB_ok {n f : Nat} {xs : List V} {r : Int} (h : ansB n f xs r = true) : Ans env f xs (dInt r) := by
  unfold ansB at h
  split at h
  · rename_i k σ hc
    have : k = r := by simpa using h
    subst this
    exact ⟨_, σ, callF_sound (fun _ _ _ _ h => run_sound n _ _ _ _ h) hc, [], by simp [dat, dat2, dat1]⟩
  · cases h
theorem len_ok : ((List.range 13).all fun n => ansB 100 k_bits_Len [.d true (.int .u64 n)] (([0, 1, 2, 2, 3, 3, 3, 3, 4, 4, 4, 4, 4] : List Int).getD n 0)) = true := by kernel_rfl
theorem len_ans (n : Nat) (h : n < 13) : ∃ k : Int, Ans env k_bits_Len [.d true (.int .u64 n)] (dInt k) :=
  ⟨_, ansB_ok (List.all_eq_true.1 len_ok n (List.mem_range.2 h))⟩
theorem pdq_eff {up : List Lv} {l n : Nat} {es : List Int} {k : Int} (h : gt none (gt [] up l) n = some (.rw 1 (es.map iT) false)) (h1 : es.length < 13) :
    Eff0 env k_slices_pdqsortOrdered_of_int [.row (l + 1) n 0 es.length 1, dInt 0, dInt es.length, dInt k] up (upSet up l n (some (.rw 1 ((isort es).map iT) false))) := by
  have w1 : IntKind.i64.wrap ((es.length : Int) - 0) = (es.length : Int) := by rw [w64 (by omega) (by omega)]; omega
  have e1 : (es.length : Int) ≤ 12 := by omega
  have hi : Eff0 env k_slices_insertionSortOrdered_of_int [.row (l + 1 + 1) n 0 es.length 1, dInt 0, dInt es.length] ([] :: up) ([] :: upSet up l n (some (.rw 1 ((isort es).map iT) false))) :=
    insertionSort_eff (l := l + 1) (up := [] :: up) h (by omega)
  refine Eff0.of ?_
  rw [AtF fn_slices_pdqsortOrdered_of_int]
  simp only [n_slices_pdqsortOrdered_of_int, c_slices_pdqsortOrdered_of_int]
  simp only [go_sem, w1, WC_loop' c_slices_pdqsortOrdered_of_int_l1.eq_1, e1, env_fn, fn_slices_insertionSortOrdered_of_int, n_slices_insertionSortOrdered_of_int]
  rw [AtFn_eff0 ?_ ?_ hi]
  · simp only [go_sem]
  · simp only [go_sem]
  · simp only [go_sem]
theorem Sort_eff {up : List Lv} {l n : Nat} {es : List Int} (h : gt none (gt [] up l) n = some (.rw 1 (es.map iT) false)) (h1 : es.length < 13) :
    Eff0 env k_slices_Sort_of_int [.row (l + 1) n 0 es.length 1] up (upSet up l n (some (.rw 1 ((isort es).map iT) false))) := by
  obtain ⟨k, hk⟩ := len_ans es.length h1
  have w1 : IntKind.u64.wrap (es.length : Int) = (es.length : Int) := by simp [IntKind.wrap, IntKind.bits, IntKind.signed]; omega
  have hi : Eff0 env k_slices_pdqsortOrdered_of_int [.row (l + 1 + 1) n 0 es.length 1, dInt 0, dInt es.length, dInt k] ([] :: up) ([] :: upSet up l n (some (.rw 1 ((isort es).map iT) false))) :=
    pdq_eff (l := l + 1) (up := [] :: up) h h1
  refine Eff0.of ?_
  rw [AtF fn_slices_Sort_of_int]
  simp only [n_slices_Sort_of_int, c_slices_Sort_of_int]
  simp only [go_sem, w1, env_fn, fn_bits_Len, n_bits_Len, AtCall_of hk, fn_slices_pdqsortOrdered_of_int, n_slices_pdqsortOrdered_of_int]
  rw [AtFn_eff0 ?_ ?_ hi]
  · simp only [go_sem]
  · simp only [go_sem]
  · simp only [go_sem]
theorem eI_iT : eI = iT := rfl
theorem AtFn_sort {es : List Int} (hl : es.length < 13) {σ : St} {l n d m : Nat} {is : List G} {Q : St → Prop} (hm : m = es.length) (hob : σ.obj l n = some (.rw 1 (es.map eI) false)) :
    AtFn env k_slices_Sort_of_int [.row (l + 1) n 0 m 1] (σ.ob :: σ.up) (KBack env false σ is d none Q) = WO env is ((σ.setObj l n (some (.rw 1 ((isort es).map eI) false))).set d (.tp [])) Q := by
  subst hm
  rw [eI_iT] at hob ⊢
  have h : gt none (gt [] (σ.ob :: σ.up) l) n = some (.rw 1 (es.map iT) false) := by rw [← hob]; cases l <;> rfl
  have e := Sort_eff h hl
  cases l with
  | zero => exact AtFn_eff0 (ob := st none σ.ob n (some (.rw 1 ((isort es).map iT) false))) (up := σ.up) rfl rfl e
  | succ l => exact AtFn_eff0 (ob := σ.ob) (up := upSet σ.up l n (some (.rw 1 ((isort es).map iT) false))) rfl rfl e
end Go.Proofs.Ytbmhmfcjjhjkgaa.Vm
