/- Trace's loop over queue.chain. -/
import Derived.Test.YtkhgnkfdpabflaaVmW3
namespace Go.Proofs.Ytkhgnkfdpabflaa.Vm
open Go
set_option linter.unusedVariables false
set_option linter.unusedSimpArgs false
set_option maxRecDepth 4000
attribute [local go_sem] WC_skip WC_exit WC_ret WC_seq WC_block WC_cond WC_rg KSeq_normal KSeq_ret KSeq_exit KBlock_normal KBlock_ret KBlock_exit KN_eq KRg_eq KSt_eq KSet_eq KLen_eq KPick_eq KG_eq KCond_eq boolP_d biteC_true biteC_false biteO_true biteO_false WO_nil WO_mv WO_nilr WO_pick WO_bin WO_beq WO_eqs WO_un WO_cvt WO_alloc WO_box WO_load WO_store WO_fad WO_fval WO_ix WO_ixb WO_ixa WO_bld WO_bsl WO_mks WO_slc WO_len WO_mx WO_mn WO_app WO_cpy WO_clr WO_xt WO_fn WO_chk WO_g
  WO_call WO_callv callK KHand KCallv KRes KBack_ret KRet_eq KAns env_fn St.hand St.lend St.lends St.lend1 St.vals St.frz fr1_obj fr1_get fr1_upl frO_rw frO_fz frO_none St.rowOf List.foldl_nil List.foldl_cons List.map_cons List.map_nil
  optP_some optP_none
  St.get_set St.obj_set St.get_setObj St.obj_setObj St.get_kill St.obj_kill0 St.obj_killS St.get_ini St.obj_ini0 gt_nil gt_zero gt_succ St.val_t St.val_c
  stl_get stl_obj0 stl_objS stl_upl stv_d stv_dx stv_nil stv_row0 stv_rowS stv_ptr stv_rel0 stv_pd stv_ag stv_tp stv_cl stvs_nil stvs_cons obs_box obs_rw obs_fz
  ret_get ret_obj ret_up ini_objS ini_upl ini_upl0 set_upl kill_upl setObj_upl0 setObj_uplS
  kill_d kill_dx kill_nil kill_row0 kill_rowS kill_ptr0 kill_ptrS kill_rel0 kill_relS kill_pd kill_ag kill_tp kill_cl kills_nil kills_cons obk_box obk_rw obk_fz
  pre step bin_int bin_shr bin_shl beq_bool arith_add arith_sub arith_mul arith_and arith_or arith_xor arith_eql arith_neq arith_lss arith_leq arith_gtr arith_geq arith_quo2 arith_rem2 arith_shr1 arith_shl1 maxOf_two minOf_two un lenOf cellsOf ofCells wid sub? slice_map slice_head slice_full' slice_z slice_c slice_s put St.new zcells St.load St.store Vm.fad St.ix St.slc St.els St.app St.wants St.skip I.dst resVal resVals Z.v Z.t? ofT T.cells V.shift V.shifts V.down V.downs downL chkV eqs eqFlat fill fillT flatFill T.noL T.flat
  dat dat2 dat1 dats1 dats2 Fn.pure FreeRows_nil FreeRows_cons setRows ren ren2 ren1 KTk take takes2 take2 takes1 take1 take0 rowsOb Vm.st Option.isNone_none Option.isNone_some List.mem_cons List.not_mem_nil not_or
  Option.map_some Option.map_none Option.bind_some List.length_cons List.length_nil List.length_append List.length_set cpl_length List.length_map List.length_replicate List.map_append List.map_set List.map_replicate List.getElem?_map List.getElem?_cons_zero List.getElem?_cons_succ List.drop_zero List.take_zero List.drop_succ_cons List.take_succ_cons List.take_nil List.drop_nil List.zip_cons_cons List.zip_nil_left List.zip_nil_right List.mapM_cons List.mapM_nil Option.pure_def Option.bind_eq_bind List.all_cons List.all_nil List.append_eq_nil_iff List.cons_ne_nil List.map_eq_nil_iff List.set_cons_zero List.set_cons_succ List.replicate_succ List.replicate_zero
  Nat.reduceEqDiff Nat.reduceLeDiff Nat.reduceAdd Nat.reduceSub Nat.reduceLT Nat.reduceMul Nat.reduceBEq Nat.ble_eq reduceIte reduceCtorEq Nat.add_zero Nat.sub_zero Nat.zero_add and_true true_and and_false false_and and_self or_true true_or false_or or_false if_true if_false Nat.one_ne_zero not_true not_false_eq_true not_false_iff Bool.false_eq_true forall_const true_implies false_implies implies_true BEq.rfl Bool.not_true Bool.not_false Bool.and_true Bool.true_and Bool.and_false Bool.false_and Bool.and_self Bool.true_bne Bool.false_bne not_true_eq_false List.nil_append List.append_nil List.cons_append dInt dBool Nat.le_refl Nat.le_add_right St.toT St.toTs ne_eq
  ff_set ff_setObj ff_setObjl ff_ini0 ff_iniS ff_ret ff_frz1 mg_get mg_obj0 mg_objS mg_up KBack_mg mrv_d mrv_nil mrv_ptr0 mrv_ptrS mrv_row0 mrv_rowS mrv_ag mrv_tp mrv_cl mrvs_nil mrvs_cons obm_box obm_rw obm_fz
  Sum.elim_inl Sum.elim_inr Option.some.injEq Ob.rw.injEq exists_eq2 eI eU8 eU64 eB eL
def selM {α β : Type} (f : α → β) (l : List α) (ks : List Int) : Option (List β) := ks.mapM fun k => (idx l k).map f
theorem selM_snoc {α β : Type} {f : α → β} {l : List α} {ks : List Int} {k : Int} {o : α} {r : List β} (h : selM f l ks = some r) (hk : idx l k = some o) : selM f l (ks ++ [k]) = some (r ++ [f o]) := by
  unfold selM at h ⊢
  rw [List.mapM_append, h]
  simp [hk]
theorem WC_rgo {E : Env} {id : Nat} {dr : Bool} {is : List G} {o : List Nat} {σ σ' : St} {Q : Ex → St → Prop} (h1 : WO E is σ (fun τ => τ = σ')) (h2 : WO E (pick is o) σ (fun τ => τ = σ')) (hQ : Q .normal σ') : WC E (.rg id dr [] is [o]) σ Q := by
  obtain ⟨τ1, e1, rfl⟩ := h1
  obtain ⟨τ2, e2, rfl⟩ := h2
  exact ⟨.normal, _, .rg rfl e1 (fun o ho => by simp only [List.mem_singleton] at ho; subst ho; exact e2), hQ⟩
theorem set_swap {σ : St} {i j : Nat} {a b : V} (h : i ≠ j) : (σ.set i a).set j b = (σ.set j b).set i a := by
  have key : ∀ (l : List V) (i j : Nat), i ≠ j → st .u (st .u l i a) j b = st .u (st .u l j b) i a := by
    intro l
    induction l with
    | nil =>
      intro i j h
      induction i generalizing j with
      | zero => cases j with
        | zero => exact absurd rfl h
        | succ j => simp [st]
      | succ i ih => cases j with
        | zero => simp [st]
        | succ j => simp [st, ih j (by omega)]
    | cons c l ih =>
      intro i j h
      cases i with
      | zero => cases j with
        | zero => exact absurd rfl h
        | succ j => simp [st]
      | succ i => cases j with
        | zero => simp [st]
        | succ j => simp [st, ih i j (by omega)]
  simp only [St.set, key _ _ _ h]
def InvT {α : Type} (f : α → List Bool) (l : List α) (fs : T) (es : List (List Bool)) (O0 : Nat → Nat → Option Ob) (pre : List Int) (O : Nat → Nat → Option Ob) : Prop :=
  ∃ ins, selM f l pre = some ins ∧ ins.length = pre.length ∧ O 0 6 = some (.box [.d true fs, .row 0 5 0 (es.length + ins.length) 1]) ∧ (∃ gr, O 0 5 = some (.rw 1 ((es ++ ins).map (eL 1 eB)) gr)) ∧ ∀ l n, ¬ (l = 0 ∧ (n = 42 ∨ n = 5 ∨ n = 6)) → O l n = O0 l n
theorem WC_traceRf {α : Type} {enc : α → T} {ca : α → T} {f : α → List Bool} {nx : α → Int} (he : ∀ o, enc o = .agg [ca o, .lst 1 ((f o).map eB), .int .i64 (nx o)]) {l : List α} {n : Int} {ks : List Int} {ins es : List (List Bool)} {p : Bool} {fs : T} {gr : Bool} {σ : St} {Q : Ex → St → Prop}
    (hc : chn nx l n = some ks) (hs : selM f l ks = some ins) (hB : es.length + ks.length ≤ big) (hbig : ∀ o ∈ l, (f o).length ≤ big)
    (h53 : σ.get 53 = .cl k_queue_chain_1 [.ptr 0 42 0, .ptr 0 41 0]) (h14 : σ.get 14 = .ptr 0 6 0) (h6 : σ.get 6 = .ptr 0 1 0)
    (o42 : σ.obj 0 42 = some (.box [.d true (.int .i64 n)])) (o41 : σ.obj 0 41 = some (.box [.d p (.lst 3 (l.map enc))])) (o1 : σ.obj 0 1 = some (.box [.d p (.lst 3 (l.map enc))]))
    (o6 : σ.obj 0 6 = some (.box [.d true fs, .row 0 5 0 es.length 1])) (o5 : σ.obj 0 5 = some (.rw 1 (es.map (eL 1 eB)) gr))
    (hQ : ∀ σ', (∀ i, σ'.get i = σ.get i) → σ'.up.length = σ.up.length → σ'.obj 0 6 = some (.box [.d true fs, .row 0 5 0 (es ++ ins).length 1]) → (∃ gr, σ'.obj 0 5 = some (.rw 1 ((es ++ ins).map (eL 1 eB)) gr)) → (∀ l n, ¬ (l = 0 ∧ (n = 42 ∨ n = 5 ∨ n = 6)) → σ'.obj l n = σ.obj l n) → Q .normal σ') : WC env c_queue_Trace_r1 σ Q := by
  obtain ⟨m, hch⟩ := chn_T (enc := enc) (ca := ca) (cb := fun o => .lst 1 ((f o).map eB)) he hc
  rw [c_queue_Trace_r1]
  refine WC_chain (B := ks.length) (lv := 0) (nb := 42) (lb := 41) (p := p) (l := l.map enc) (show env.fn k_queue_chain_1 = _ from fn_queue_chain_1) rfl rfl h53 (Nat.zero_le _) o42 o41 hch (Nat.le_refl _) (InvT f l fs es (fun l n => σ.obj l n)) ?_ ?_ ⟨[], rfl, rfl, o6, ⟨gr, by simpa using o5⟩, fun _ _ _ => rfl⟩ ?_
  · rintro pre O O' ⟨is, h1, h1', h2, ⟨gr, h3⟩, h4⟩ hO
    exact ⟨is, h1, h1', by rw [hO _ _ (by simp)]; exact h2, ⟨gr, by rw [hO _ _ (by simp)]; exact h3⟩, fun l n hc => by rw [hO _ _ (fun h => hc ⟨h.1, .inl h.2⟩)]; exact h4 l n hc⟩
  · rintro pre k a' b' c' ρ hg ho0 hu' ⟨is, h1, h1', h2, ⟨gr, h3⟩, h4⟩ hnb' hlb' hn hl hB'
    simp only at h2 h3 h4
    obtain ⟨o, hlo, heo⟩ : ∃ o, l[k.toNat]? = some o ∧ enc o = .agg [a', b', c'] := by
      rw [List.getElem?_map] at hl
      cases hx : l[k.toNat]? with
      | none => rw [hx] at hl; cases hl
      | some o => rw [hx] at hl; exact ⟨o, rfl, by simpa using hl⟩
    rw [he o] at heo
    simp only [T.agg.injEq, List.cons.injEq, and_true] at heo
    obtain ⟨rfl, rfl, rfl⟩ := heo
    have hidx : idx l k = some o := by
      have := hn true .i64
      simp only [natOf] at this
      split at this
      · rename_i hc
        rw [List.length_map] at hc
        unfold idx
        rw [if_pos hc]; exact hlo
      · cases this
    have hfo : (f o).length ≤ big := hbig o (List.mem_of_getElem? hlo)
    have o1' : ρ.obj 2 1 = some (.box [.d p (.lst 3 (l.map enc))]) := by rw [h4 0 1 (by simp)]; exact o1
    have hsz : es.length + is.length + 1 ≤ big := by omega
    have hn' := hn
    rw [List.length_map] at hn'
    simp only [go_sem]
    refine WC_rgo (σ' := (((((((((((((((ρ.set 15 (V.d true (T.int IntKind.i64 k))).set 55 (V.ptr 2 6 1)).set 56 (V.row 2 5 0 (es.length + is.length) 1)).set 57 (V.d p (T.lst 3 (List.map enc l)))).set 58 (V.d true (T.int IntKind.i64 k))).set 59 (V.pd (T.agg [ca o, T.lst 1 (List.map eB (f o)), T.int IntKind.i64 (nx o)]))).set 60 (V.pd (T.lst 1 (List.map eB (f o))))).set 61 (V.d true (T.lst 1 (List.map eB (f o))))).set 62 (V.d true (T.lst 1 (List.map eB (f o))))).setObj 0 7 (some (Ob.rw 1 [T.lst 1 (List.map eB (f o))] false))).set 63 (V.row 0 7 0 1 1)).setObj 2 5 (some (Ob.rw 1 (List.map (eL 1 eB) es ++ List.map (eL 1 eB) is ++ [T.lst 1 (List.map eB (f o))]) true))).set 64 (V.row 2 5 0 (es.length + is.length + 1) 1)).set 65 (V.ptr 2 6 1)).setObj 2 6 (some (Ob.box [V.d true fs, V.row 0 5 0 (es.length + is.length + 1) 1])))) ?_ ?_ ?_
    · simp only [go_sem, hg, h14, h6, h2, h3, o1', hn', hlo, he, fn_slices_Clone_of_bool, ex_slices_Clone_of_bool, cloneX, hfo, hsz, ho0]
    · show WO env [⟨.fad 55 (.t 14) 1 0, none⟩, ⟨.load 57 (.t 6) 0, none⟩, ⟨.mv 58 (.t 15), none⟩, ⟨.ix 59 (.t 57) (.t 58) 3, none⟩, ⟨.fad 60 (.t 59) 1 0, none⟩, ⟨.load 61 (.t 60) 0, none⟩, ⟨.call 62 k_slices_Clone_of_bool [(.t 61)] none, none⟩, ⟨.load 56 (.t 55) 0, none⟩,
        ⟨.bsl 63 7 1 1 (.k (.lst 1 [])) [(0, (.t 62))], none⟩, ⟨.app 64 8 1 (.t 56) (.t 63), none⟩, ⟨.fad 65 (.t 14) 1 0, none⟩, ⟨.store (.t 65) (.t 64) 0, none⟩] _ _
      rw [set_swap (i := 56) (j := 57) (by decide), set_swap (i := 56) (j := 58) (by decide), set_swap (i := 56) (j := 59) (by decide), set_swap (i := 56) (j := 60) (by decide), set_swap (i := 56) (j := 61) (by decide), set_swap (i := 56) (j := 62) (by decide)]
      simp only [go_sem, hg, h14, h6, h2, h3, o1', hn', hlo, he, fn_slices_Clone_of_bool, ex_slices_Clone_of_bool, cloneX, hfo, hsz, ho0]
    · simp only [go_sem]
      have e1 : ∀ (τ : St) (m : Nat) (o : Option Ob), 2 < τ.up.length + 1 → (τ.setObj 2 m o).up.length = τ.up.length := fun τ m o h => setObj_uplS τ 1 m o (by omega)
      refine ⟨?_, ⟨is ++ [f o], selM_snoc h1 hidx, by simp [h1'], by simp [Nat.add_assoc], ⟨true, by simp [eL]⟩, fun l' n' hc => ?_⟩, hnb', hlb'⟩
      · rw [e1 _ _ _ (by rw [set_upl, set_upl, e1 _ _ _ (by simp only [set_upl, setObj_upl0, hu']; omega)]; simp only [set_upl, setObj_upl0, hu']; omega), set_upl, set_upl, e1 _ _ _ (by simp only [set_upl, setObj_upl0, hu']; omega)]
        simp only [set_upl, setObj_upl0, hu']
      · simp only [if_neg (show ¬ (l' = 0 ∧ 6 = n') from fun h => hc ⟨h.1, .inr (.inr h.2.symm)⟩), if_neg (show ¬ (l' = 0 ∧ 5 = n') from fun h => hc ⟨h.1, .inr (.inl h.2.symm)⟩)]
        exact h4 l' n' hc
  · rintro σ' hg' hu' ⟨is, h1, h1', h2, ⟨gr, h3⟩, h4⟩
    simp only at h2 h3 h4
    rw [hs] at h1
    cases h1
    exact hQ σ' hg' hu' (by rw [h2, List.length_append]) ⟨gr, h3⟩ h4
end Go.Proofs.Ytkhgnkfdpabflaa.Vm
