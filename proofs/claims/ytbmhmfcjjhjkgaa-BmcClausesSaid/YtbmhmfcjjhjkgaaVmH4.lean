/- Walks over the code of functions. Printed. -/
import Derived.Test.YtbmhmfcjjhjkgaaVmH3
namespace Go.Proofs.Ytbmhmfcjjhjkgaa.Vm
open Go
set_option linter.unusedSimpArgs false
set_option linter.unusedVariables false
set_option maxRecDepth 4000
set_option maxHeartbeats 4000000
attribute [local go_sem] WC_skip WC_exit WC_ret WC_seq WC_block WC_cond WC_rg KSeq_normal KSeq_ret KSeq_exit KBlock_normal KBlock_ret KBlock_exit KN_eq KRg_eq KSt_eq KSet_eq KLen_eq KPick_eq KG_eq KCond_eq boolP_d biteC_true biteC_false biteO_true biteO_false WO_nil WO_mv WO_nilr WO_pick WO_bin WO_beq WO_eqs WO_un WO_cvt WO_alloc WO_box WO_load WO_store WO_fad WO_fval WO_ix WO_ixb WO_ixa WO_bld WO_bsl WO_mks WO_slc WO_len WO_mx WO_mn WO_app WO_cpy WO_clr WO_xt WO_fn WO_chk WO_g
 WO_call WO_callv callK KHand KCallv KRes KBack_ret KRet_eq KAns env_fn St.hand St.lend St.lends St.lend1 St.vals St.frz fr1_obj fr1_get fr1_upl frO_rw frO_fz frO_none St.rowOf List.foldl_nil List.foldl_cons List.map_cons List.map_nil
 optP_some optP_none
 St.get_set St.obj_set St.get_setObj St.obj_setObj St.get_kill St.obj_kill0 St.obj_killS St.get_ini St.obj_ini0 gt_nil gt_zero gt_succ St.val_t St.val_c
 stl_get stl_obj0 stl_objS stl_upl stv_d stv_dx stv_nil stv_row0 stv_rowS stv_ptr stv_rel0 stv_pd stv_ag stv_tp stv_cl stvs_nil stvs_cons obs_box obs_rw obs_fz
 ret_get ret_obj ret_up ini_objS ini_upl ini_upl0 set_upl kill_upl setObj_upl0 setObj_uplS
 kill_d kill_dx kill_nil kill_row0 kill_rowS kill_ptr0 kill_ptrS kill_rel0 kill_relS kill_pd kill_ag kill_tp kill_cl kills_nil kills_cons obk_box obk_rw obk_fz
 pre step bin_int bin_shr bin_shl beq_bool arith_add arith_sub arith_mul arith_and arith_or arith_xor arith_eql arith_neq arith_lss arith_leq arith_gtr arith_geq arith_quo2 arith_rem2 arith_shr1 arith_shl1 maxOf_two minOf_two un lenOf cellsOf ofCells wid sub? slice_map slice_head slice_full' slice_z slice_c slice_s put St.new zcells St.load St.store Vm.fad St.ix St.slc St.els St.app St.wants St.skip I.dst resVal resVals Z.v Z.t? ofT T.cells V.shift V.shifts V.down V.downs downL chkV eqs eqFlat fill fillT flatFill T.noL T.flat
 dat dat2 dat1 dats1 dats2 Fn.pure FreeRows_nil FreeRows_cons setRows ren ren2 ren1 KTk take takes2 take2 takes1 take1 take0 rowsOb Vm.st Option.isNone_none Option.isNone_some List.mem_cons List.not_mem_nil not_or
 Option.map_some Option.map_none Option.bind_some List.length_cons List.length_nil List.length_append List.length_set cpl_length List.length_map List.length_replicate List.map_append List.map_set List.map_replicate List.getElem?_map List.getElem?_cons_zero List.getElem?_cons_succ List.drop_zero List.take_zero List.drop_succ_cons List.take_succ_cons List.take_nil List.drop_nil List.zip_cons_cons List.zip_nil_left List.zip_nil_right List.mapM_cons List.mapM_nil Option.pure_def Option.bind_eq_bind List.all_cons List.all_nil List.append_eq_nil_iff List.cons_ne_nil List.map_eq_nil_iff List.set_cons_zero List.set_cons_succ List.replicate_succ List.replicate_zero
 Nat.reduceEqDiff Nat.reduceLeDiff Nat.reduceAdd Nat.reduceSub Nat.reduceLT Nat.reduceMul Nat.reduceBEq Nat.ble_eq reduceIte reduceCtorEq Nat.add_zero Nat.sub_zero Nat.zero_add and_true true_and and_false false_and and_self or_true true_or false_or or_false if_true if_false Nat.one_ne_zero not_true not_false_eq_true not_false_iff Bool.false_eq_true forall_const true_implies false_implies implies_true BEq.rfl Bool.not_true Bool.not_false Bool.and_true Bool.true_and Bool.and_false Bool.false_and Bool.and_self Bool.true_bne Bool.false_bne not_true_eq_false List.nil_append List.append_nil List.cons_append dInt dBool Nat.le_refl Nat.le_add_right St.toT St.toTs ne_eq
 Sum.elim_inl Sum.elim_inr Option.some.injEq Ob.rw.injEq exists_eq2 eI eU8 eU64 eB eL eS_Latch eS_And eS_Circuit eS_Cnf eA4_Int oB0 oB1 oB2 oB3 oB4 oB5 oB6 oB7 oB8 oB9 oB10 oB11 oB12 oB13 at_ref22_Gate at_ref23_More at_ref36_With c_law36_BmcClauses c_ref02_Same c_ref02_SameInts c_ref13_Same c_ref13_SameAll c_ref22_Gate c_ref22_Put c_ref22_Same c_ref23_Asked c_ref23_Made c_ref23_More c_ref23_Of c_ref36_Clauses c_ref36_Made c_ref36_Told c_ref36_With fn_bmc_Clauses fn_gates_Check fn_ref02_Check fn_ref02_Gate fn_ref02_Great fn_ref02_Same fn_ref02_SameInts fn_ref02_Size fn_ref02_Twin fn_ref13_Always fn_ref13_Has fn_ref13_Same fn_ref13_SameAll fn_ref13_Sorted fn_ref13_Without fn_ref22_Gate fn_ref22_Lit fn_ref22_Not fn_ref22_Same fn_ref23_Asked fn_ref23_Behind fn_ref23_Made fn_ref23_More fn_ref23_Of fn_ref23_Resets fn_ref36_Clauses fn_ref36_Great fn_ref36_Made fn_ref36_Told fn_ref36_With fn_ref36_asked fn_unroll_made n_bmc_Clauses n_gates_Check n_ref02_Check n_ref02_Gate n_ref02_Great n_ref02_Same n_ref02_SameInts n_ref02_Size n_ref02_Twin n_ref13_Always n_ref13_Has n_ref13_Same n_ref13_SameAll n_ref13_Sorted n_ref13_Without n_ref22_Gate n_ref22_Lit n_ref22_Not n_ref22_Same n_ref23_Asked n_ref23_Behind n_ref23_Made n_ref23_More n_ref23_Of n_ref23_Resets n_ref36_Clauses n_ref36_Great n_ref36_Made n_ref36_Told n_ref36_With n_ref36_asked n_unroll_made
noncomputable def w_ref22_Put_u3 (a0 : S_Circuit) (a1 : Int) (a2 : List (List Int)) (a3 : List (List Int)) (a4 : Int) (a5 : Nat) (a6 : List (List Int)) (a7 : List (List Int)) (a8 : S_Circuit) (a9 : Int) (a10 : Int) (a11 : List (List Int)) (a12 : List (List Int)) (a13 : List Int) (a14 : List Int) : Option ((List (List Int)) × Nat) :=
 (s_ref13_Has a14 1).bind fun r0 =>
 if r0 = true then
  some (a7, a7.length)
 else
  (s_ref13_Without a14 0).bind fun r1 =>
  (s_ref13_Always r1).bind fun r2 =>
  if r2 = true then
   some (a7, a7.length)
  else
   (s_ref13_Sorted r1).bind fun r3 =>
   if a7.length + 1 ≤ big then
    some ((a7 ++ ([r3] : List (List Int))), a7.length)
   else none
theorem E_ref22_Put_u3 (a0 : S_Circuit) (a1 : Int) (a2 : List (List Int)) (a3 : List (List Int)) (a4 : Int) (a5 : Nat) (a6 : List (List Int)) (a7 : List (List Int)) (a8 : S_Circuit) (a9 : Int) (a10 : Int) (a11 : List (List Int)) (a12 : List (List Int)) (a13 : List Int) (a14 : List Int) {r : (List (List Int)) × Nat} (h : w_ref22_Put_u3 a0 a1 a2 a3 a4 a5 a6 a7 a8 a9 a10 a11 a12 a13 a14 = some r) {up : List Lv} {K : V → St → Prop} (hI : ∀ xs, (St.ini xs up).obj 3 0 = oB0 a0 ∧ (St.ini xs up).obj 3 1 = oB5 a1 a2.length a3.length ∧ (∃ gr_0_2, (St.ini xs up).obj 3 2 = some (.rw 1 (a2.map (eL 1 eI)) gr_0_2)) ∧ (∃ gr_0_3, (St.ini xs up).obj 3 3 = some (.rw 1 (a3.map (eL 1 eI)) gr_0_3)) ∧ (St.ini xs up).obj 3 4 = oB6 a4 a6.length a5 ∧ (∃ gr_0_5, (St.ini xs up).obj 3 5 = some (.rw 1 (a6.map (eL 1 eI)) gr_0_5)) ∧ (∃ gr_0_6, (St.ini xs up).obj 3 6 = some (.rw 1 (a7.map (eL 1 eI)) gr_0_6)) ∧ (St.ini xs up).obj 2 0 = oB0 a8 ∧ (St.ini xs up).obj 2 1 = oB12 a9 a6.length a7.length ∧ (St.ini xs up).obj 2 2 = oB13 a10 a11.length a12.length ∧ (∃ gr_1_3, (St.ini xs up).obj 2 3 = some (.rw 1 (a11.map (eL 1 eI)) gr_1_3)) ∧ (∃ gr_1_4, (St.ini xs up).obj 2 4 = some (.rw 1 (a12.map (eL 1 eI)) gr_1_4)) ∧ (∃ gr_1_5, (St.ini xs up).obj 2 5 = some (.rw 1 (a13.map eI) gr_1_5)) ∧ (∃ gr_2_0, (St.ini xs up).obj 1 0 = some (.rw 1 (a14.map eI) gr_2_0)) ∧ (St.ini xs up).obj 2 7 = none ∧ (St.ini xs up).obj 2 9 = none ∧ (St.ini xs up).obj 2 10 = none ∧ (St.ini xs up).obj 2 11 = none ∧ (St.ini xs up).obj 1 1 = none ∧ (St.ini xs up).obj 1 2 = none ∧ (St.ini xs up).obj 0 0 = none ∧ (St.ini xs up).obj 0 1 = none ∧ (St.ini xs up).up.length = 3)
  (hK : ∀ v σ', v = (.row 3 6 0 r.1.length 1) ∧ σ'.obj 3 0 = oB0 a0 ∧ σ'.obj 3 1 = oB5 a1 a2.length a3.length ∧ (∃ gr_0_2, σ'.obj 3 2 = some (.rw 1 (a2.map (eL 1 eI)) gr_0_2)) ∧ (∃ gr_0_3, σ'.obj 3 3 = some (.rw 1 (a3.map (eL 1 eI)) gr_0_3)) ∧ σ'.obj 3 4 = oB6 a4 a6.length a5 ∧ (∃ gr_0_5, σ'.obj 3 5 = some (.rw 1 (a6.map (eL 1 eI)) gr_0_5)) ∧ (∃ gr_0_6, σ'.obj 3 6 = some (.rw 1 (r.1.map (eL 1 eI)) gr_0_6)) ∧ σ'.obj 2 0 = oB0 a8 ∧ σ'.obj 2 1 = oB12 a9 a6.length r.2 ∧ σ'.obj 2 2 = oB13 a10 a11.length a12.length ∧ (∃ gr_1_3, σ'.obj 2 3 = some (.rw 1 (a11.map (eL 1 eI)) gr_1_3)) ∧ (∃ gr_1_4, σ'.obj 2 4 = some (.rw 1 (a12.map (eL 1 eI)) gr_1_4)) ∧ (∃ gr_1_5, σ'.obj 2 5 = some (.rw 1 (a13.map eI) gr_1_5)) ∧ (∃ gr_2_0, σ'.obj 1 0 = some (.rw 1 (a14.map eI) gr_2_0)) ∧ σ'.obj 2 7 = none ∧ σ'.obj 2 9 = none ∧ σ'.obj 2 10 = none ∧ σ'.obj 2 11 = none ∧ σ'.obj 1 1 = none ∧ σ'.obj 1 2 = none ∧ σ'.up.length = 3 → K v σ') : AtFn env k_ref22_Put [(.row 3 6 0 a7.length 1), (.row 1 0 0 a14.length 1)] up K := by
 obtain ⟨f0, f1, ⟨gr_0_2, f2⟩, ⟨gr_0_3, f3⟩, f4, ⟨gr_0_5, f5⟩, ⟨gr_0_6, f6⟩, f7, f8, f9, ⟨gr_1_3, f10⟩, ⟨gr_1_4, f11⟩, ⟨gr_1_5, f12⟩, ⟨gr_2_0, f13⟩, f14, f15, f16, f17, f18, f19, f20, f21, hup⟩ := hI [(.row 3 6 0 a7.length 1), (.row 1 0 0 a14.length 1)]
 have hu : up.length = 3 := hup
 clear hI
 refine AtFn_mono ?_ hK
 clear hK
 unfold w_ref22_Put_u3 at h
 rw [AtF fn_ref22_Put]
 simp only [n_ref22_Put]
 replace h := bsome h; obtain ⟨r0, H0, h⟩ := h
 have k0 := AtCall_all (s_ref13_Has_ok H0); try dsimp only at k0
 replace h := itb h; rcases h with ⟨c0, h⟩ | ⟨c0, h⟩
 ·cases h
  simp only [go_sem, *]
 ·replace h := bsome h; obtain ⟨r1, H1, h⟩ := h
  have k1 := AtCall_all (s_ref13_Without_ok H1); try dsimp only at k1
  replace h := bsome h; obtain ⟨r2, H2, h⟩ := h
  have k2 := AtCall_all (s_ref13_Always_ok H2); try dsimp only at k2
  replace h := itb h; rcases h with ⟨c1, h⟩ | ⟨c1, h⟩
  ·cases h
   simp only [go_sem, *]
  ·replace h := bsome h; obtain ⟨r3, H3, h⟩ := h
   have k3 := AtCall_all (s_ref13_Sorted_ok H3); try dsimp only at k3
   replace h := need h; obtain ⟨H4, h⟩ := h
   cases h
   simp only [go_sem, *]
noncomputable def w_ref22_Put_u1 (a0 : S_Circuit) (a1 : Int) (a2 : List (List Int)) (a3 : List (List Int)) (a4 : Int) (a5 : Nat) (a6 : List (List Int)) (a7 : List (List Int)) (a8 : S_Circuit) (a9 : Int) (a10 : Nat) (a11 : Int) (a12 : List (List Int)) (a13 : List (List Int)) (a14 : List Int) (a15 : List Int) : Option ((List (List Int))) :=
 (s_ref13_Has a15 1).bind fun r0 =>
 if r0 = true then
  some a7
 else
  (s_ref13_Without a15 0).bind fun r1 =>
  (s_ref13_Always r1).bind fun r2 =>
  if r2 = true then
   some a7
  else
   (s_ref13_Sorted r1).bind fun r3 =>
   if a7.length + 1 ≤ big then
    some (a7 ++ ([r3] : List (List Int)))
   else none
theorem E_ref22_Put_u1 (a0 : S_Circuit) (a1 : Int) (a2 : List (List Int)) (a3 : List (List Int)) (a4 : Int) (a5 : Nat) (a6 : List (List Int)) (a7 : List (List Int)) (a8 : S_Circuit) (a9 : Int) (a10 : Nat) (a11 : Int) (a12 : List (List Int)) (a13 : List (List Int)) (a14 : List Int) (a15 : List Int) {r : (List (List Int))} (h : w_ref22_Put_u1 a0 a1 a2 a3 a4 a5 a6 a7 a8 a9 a10 a11 a12 a13 a14 a15 = some r) {up : List Lv} {K : V → St → Prop} (hI : ∀ xs, (St.ini xs up).obj 3 0 = oB0 a0 ∧ (St.ini xs up).obj 3 1 = oB5 a1 a2.length a3.length ∧ (∃ gr_0_2, (St.ini xs up).obj 3 2 = some (.rw 1 (a2.map (eL 1 eI)) gr_0_2)) ∧ (∃ gr_0_3, (St.ini xs up).obj 3 3 = some (.rw 1 (a3.map (eL 1 eI)) gr_0_3)) ∧ (St.ini xs up).obj 3 4 = oB6 a4 a6.length a5 ∧ (∃ gr_0_5, (St.ini xs up).obj 3 5 = some (.rw 1 (a6.map (eL 1 eI)) gr_0_5)) ∧ (∃ gr_0_6, (St.ini xs up).obj 3 6 = some (.rw 1 (a7.map (eL 1 eI)) gr_0_6)) ∧ (St.ini xs up).obj 2 0 = oB0 a8 ∧ (St.ini xs up).obj 2 1 = oB12 a9 a6.length a10 ∧ (St.ini xs up).obj 2 2 = oB13 a11 a12.length a13.length ∧ (∃ gr_1_3, (St.ini xs up).obj 2 3 = some (.rw 1 (a12.map (eL 1 eI)) gr_1_3)) ∧ (∃ gr_1_4, (St.ini xs up).obj 2 4 = some (.rw 1 (a13.map (eL 1 eI)) gr_1_4)) ∧ (∃ gr_1_5, (St.ini xs up).obj 2 5 = some (.rw 1 (a14.map eI) gr_1_5)) ∧ (∃ gr_2_1, (St.ini xs up).obj 1 1 = some (.rw 1 (a15.map eI) gr_2_1)) ∧ (St.ini xs up).obj 2 7 = none ∧ (St.ini xs up).obj 2 9 = none ∧ (St.ini xs up).obj 2 10 = none ∧ (St.ini xs up).obj 2 11 = none ∧ (St.ini xs up).obj 1 2 = none ∧ (St.ini xs up).obj 0 0 = none ∧ (St.ini xs up).obj 0 1 = none ∧ (St.ini xs up).up.length = 3)
  (hK : ∀ v σ', v = (.row 3 6 0 r.length 1) ∧ σ'.obj 3 0 = oB0 a0 ∧ σ'.obj 3 1 = oB5 a1 a2.length a3.length ∧ (∃ gr_0_2, σ'.obj 3 2 = some (.rw 1 (a2.map (eL 1 eI)) gr_0_2)) ∧ (∃ gr_0_3, σ'.obj 3 3 = some (.rw 1 (a3.map (eL 1 eI)) gr_0_3)) ∧ σ'.obj 3 4 = oB6 a4 a6.length a5 ∧ (∃ gr_0_5, σ'.obj 3 5 = some (.rw 1 (a6.map (eL 1 eI)) gr_0_5)) ∧ (∃ gr_0_6, σ'.obj 3 6 = some (.rw 1 (r.map (eL 1 eI)) gr_0_6)) ∧ σ'.obj 2 0 = oB0 a8 ∧ σ'.obj 2 1 = oB12 a9 a6.length a10 ∧ σ'.obj 2 2 = oB13 a11 a12.length a13.length ∧ (∃ gr_1_3, σ'.obj 2 3 = some (.rw 1 (a12.map (eL 1 eI)) gr_1_3)) ∧ (∃ gr_1_4, σ'.obj 2 4 = some (.rw 1 (a13.map (eL 1 eI)) gr_1_4)) ∧ (∃ gr_1_5, σ'.obj 2 5 = some (.rw 1 (a14.map eI) gr_1_5)) ∧ (∃ gr_2_1, σ'.obj 1 1 = some (.rw 1 (a15.map eI) gr_2_1)) ∧ σ'.obj 2 7 = none ∧ σ'.obj 2 9 = none ∧ σ'.obj 2 10 = none ∧ σ'.obj 2 11 = none ∧ σ'.obj 1 2 = none ∧ σ'.up.length = 3 → K v σ') : AtFn env k_ref22_Put [(.row 3 6 0 a7.length 1), (.row 1 1 0 a15.length 1)] up K := by
 obtain ⟨f0, f1, ⟨gr_0_2, f2⟩, ⟨gr_0_3, f3⟩, f4, ⟨gr_0_5, f5⟩, ⟨gr_0_6, f6⟩, f7, f8, f9, ⟨gr_1_3, f10⟩, ⟨gr_1_4, f11⟩, ⟨gr_1_5, f12⟩, ⟨gr_2_1, f13⟩, f14, f15, f16, f17, f18, f19, f20, hup⟩ := hI [(.row 3 6 0 a7.length 1), (.row 1 1 0 a15.length 1)]
 have hu : up.length = 3 := hup
 clear hI
 refine AtFn_mono ?_ hK
 clear hK
 unfold w_ref22_Put_u1 at h
 rw [AtF fn_ref22_Put]
 simp only [n_ref22_Put]
 replace h := bsome h; obtain ⟨r0, H0, h⟩ := h
 have k0 := AtCall_all (s_ref13_Has_ok H0); try dsimp only at k0
 replace h := itb h; rcases h with ⟨c0, h⟩ | ⟨c0, h⟩
 ·cases h
  simp only [go_sem, *]
 ·replace h := bsome h; obtain ⟨r1, H1, h⟩ := h
  have k1 := AtCall_all (s_ref13_Without_ok H1); try dsimp only at k1
  replace h := bsome h; obtain ⟨r2, H2, h⟩ := h
  have k2 := AtCall_all (s_ref13_Always_ok H2); try dsimp only at k2
  replace h := itb h; rcases h with ⟨c1, h⟩ | ⟨c1, h⟩
  ·cases h
   simp only [go_sem, *]
  ·replace h := bsome h; obtain ⟨r3, H3, h⟩ := h
   have k3 := AtCall_all (s_ref13_Sorted_ok H3); try dsimp only at k3
   replace h := need h; obtain ⟨H4, h⟩ := h
   cases h
   simp only [go_sem, *]
noncomputable def w_ref22_Put_u2 (a0 : S_Circuit) (a1 : Int) (a2 : List (List Int)) (a3 : List (List Int)) (a4 : Int) (a5 : Nat) (a6 : List (List Int)) (a7 : List (List Int)) (a8 : S_Circuit) (a9 : Int) (a10 : Nat) (a11 : Int) (a12 : List (List Int)) (a13 : List (List Int)) (a14 : List Int) (a15 : List Int) : Option ((List (List Int))) :=
 (s_ref13_Has a15 1).bind fun r0 =>
 if r0 = true then
  some a7
 else
  (s_ref13_Without a15 0).bind fun r1 =>
  (s_ref13_Always r1).bind fun r2 =>
  if r2 = true then
   some a7
  else
   (s_ref13_Sorted r1).bind fun r3 =>
   if a7.length + 1 ≤ big then
    some (a7 ++ ([r3] : List (List Int)))
   else none
theorem E_ref22_Put_u2 (a0 : S_Circuit) (a1 : Int) (a2 : List (List Int)) (a3 : List (List Int)) (a4 : Int) (a5 : Nat) (a6 : List (List Int)) (a7 : List (List Int)) (a8 : S_Circuit) (a9 : Int) (a10 : Nat) (a11 : Int) (a12 : List (List Int)) (a13 : List (List Int)) (a14 : List Int) (a15 : List Int) {r : (List (List Int))} (h : w_ref22_Put_u2 a0 a1 a2 a3 a4 a5 a6 a7 a8 a9 a10 a11 a12 a13 a14 a15 = some r) {up : List Lv} {K : V → St → Prop} (hI : ∀ xs, (St.ini xs up).obj 3 0 = oB0 a0 ∧ (St.ini xs up).obj 3 1 = oB5 a1 a2.length a3.length ∧ (∃ gr_0_2, (St.ini xs up).obj 3 2 = some (.rw 1 (a2.map (eL 1 eI)) gr_0_2)) ∧ (∃ gr_0_3, (St.ini xs up).obj 3 3 = some (.rw 1 (a3.map (eL 1 eI)) gr_0_3)) ∧ (St.ini xs up).obj 3 4 = oB6 a4 a6.length a5 ∧ (∃ gr_0_5, (St.ini xs up).obj 3 5 = some (.rw 1 (a6.map (eL 1 eI)) gr_0_5)) ∧ (∃ gr_0_6, (St.ini xs up).obj 3 6 = some (.rw 1 (a7.map (eL 1 eI)) gr_0_6)) ∧ (St.ini xs up).obj 2 0 = oB0 a8 ∧ (St.ini xs up).obj 2 1 = oB12 a9 a6.length a10 ∧ (St.ini xs up).obj 2 2 = oB13 a11 a12.length a13.length ∧ (∃ gr_1_3, (St.ini xs up).obj 2 3 = some (.rw 1 (a12.map (eL 1 eI)) gr_1_3)) ∧ (∃ gr_1_4, (St.ini xs up).obj 2 4 = some (.rw 1 (a13.map (eL 1 eI)) gr_1_4)) ∧ (∃ gr_1_5, (St.ini xs up).obj 2 5 = some (.rw 1 (a14.map eI) gr_1_5)) ∧ (∃ gr_2_2, (St.ini xs up).obj 1 2 = some (.rw 1 (a15.map eI) gr_2_2)) ∧ (St.ini xs up).obj 2 7 = none ∧ (St.ini xs up).obj 2 9 = none ∧ (St.ini xs up).obj 2 10 = none ∧ (St.ini xs up).obj 2 11 = none ∧ (St.ini xs up).obj 0 0 = none ∧ (St.ini xs up).obj 0 1 = none ∧ (St.ini xs up).up.length = 3)
  (hK : ∀ v σ', v = (.row 3 6 0 r.length 1) ∧ σ'.obj 3 0 = oB0 a0 ∧ σ'.obj 3 1 = oB5 a1 a2.length a3.length ∧ (∃ gr_0_2, σ'.obj 3 2 = some (.rw 1 (a2.map (eL 1 eI)) gr_0_2)) ∧ (∃ gr_0_3, σ'.obj 3 3 = some (.rw 1 (a3.map (eL 1 eI)) gr_0_3)) ∧ σ'.obj 3 4 = oB6 a4 a6.length a5 ∧ (∃ gr_0_5, σ'.obj 3 5 = some (.rw 1 (a6.map (eL 1 eI)) gr_0_5)) ∧ (∃ gr_0_6, σ'.obj 3 6 = some (.rw 1 (r.map (eL 1 eI)) gr_0_6)) ∧ σ'.obj 2 0 = oB0 a8 ∧ σ'.obj 2 1 = oB12 a9 a6.length a10 ∧ σ'.obj 2 2 = oB13 a11 a12.length a13.length ∧ (∃ gr_1_3, σ'.obj 2 3 = some (.rw 1 (a12.map (eL 1 eI)) gr_1_3)) ∧ (∃ gr_1_4, σ'.obj 2 4 = some (.rw 1 (a13.map (eL 1 eI)) gr_1_4)) ∧ (∃ gr_1_5, σ'.obj 2 5 = some (.rw 1 (a14.map eI) gr_1_5)) ∧ (∃ gr_2_2, σ'.obj 1 2 = some (.rw 1 (a15.map eI) gr_2_2)) ∧ σ'.obj 2 7 = none ∧ σ'.obj 2 9 = none ∧ σ'.obj 2 10 = none ∧ σ'.obj 2 11 = none ∧ σ'.up.length = 3 → K v σ') : AtFn env k_ref22_Put [(.row 3 6 0 a7.length 1), (.row 1 2 0 a15.length 1)] up K := by
 obtain ⟨f0, f1, ⟨gr_0_2, f2⟩, ⟨gr_0_3, f3⟩, f4, ⟨gr_0_5, f5⟩, ⟨gr_0_6, f6⟩, f7, f8, f9, ⟨gr_1_3, f10⟩, ⟨gr_1_4, f11⟩, ⟨gr_1_5, f12⟩, ⟨gr_2_2, f13⟩, f14, f15, f16, f17, f18, f19, hup⟩ := hI [(.row 3 6 0 a7.length 1), (.row 1 2 0 a15.length 1)]
 have hu : up.length = 3 := hup
 clear hI
 refine AtFn_mono ?_ hK
 clear hK
 unfold w_ref22_Put_u2 at h
 rw [AtF fn_ref22_Put]
 simp only [n_ref22_Put]
 replace h := bsome h; obtain ⟨r0, H0, h⟩ := h
 have k0 := AtCall_all (s_ref13_Has_ok H0); try dsimp only at k0
 replace h := itb h; rcases h with ⟨c0, h⟩ | ⟨c0, h⟩
 ·cases h
  simp only [go_sem, *]
 ·replace h := bsome h; obtain ⟨r1, H1, h⟩ := h
  have k1 := AtCall_all (s_ref13_Without_ok H1); try dsimp only at k1
  replace h := bsome h; obtain ⟨r2, H2, h⟩ := h
  have k2 := AtCall_all (s_ref13_Always_ok H2); try dsimp only at k2
  replace h := itb h; rcases h with ⟨c1, h⟩ | ⟨c1, h⟩
  ·cases h
   simp only [go_sem, *]
  ·replace h := bsome h; obtain ⟨r3, H3, h⟩ := h
   have k3 := AtCall_all (s_ref13_Sorted_ok H3); try dsimp only at k3
   replace h := need h; obtain ⟨H4, h⟩ := h
   cases h
   simp only [go_sem, *]
noncomputable def b_ref23_Made_L1 (p0 : S_Circuit) (s0 : Int × (List (List Int)) × (List (List Int)) × Int × (List Int)) (s1 : Nat × (List (List Int)) × Int × (List Int) × Int) : Option ((Nat × (List (List Int)) × Int × (List Int) × Int) ⊕ (Nat × (List (List Int)) × Int × (List Int))) :=
 (s_ref02_Size p0).bind fun r1 =>
 if (decide (s1.2.2.2.2 ≤ r1)) = true then
  ((s_ref02_Gate p0 s1.2.2.2.2).bind fun r2 =>
   (if (decide ((IntKind.wrap .i64 ((IntKind.wrap .i64 (s1.2.2.2.2 - 1)) - p0.Inputs)) ≥ 0)) = true then
     if (decide (r2 < 0)) = true then
      (idx s0.2.2.2.2 (IntKind.wrap .i64 ((IntKind.wrap .i64 (s1.2.2.2.2 - 1)) - p0.Inputs))).bind fun x2 =>
      some (decide (x2 ≥ 0))
     else
      some false
    else
     some false).bind fun x1 =>
   if x1 = true then
    (idx s0.2.2.2.2 (IntKind.wrap .i64 ((IntKind.wrap .i64 (s1.2.2.2.2 - 1)) - p0.Inputs))).bind fun x3 =>
    if s1.2.2.2.1.length + 1 ≤ big then
     some (s1.2.1, s1.2.2.1, (s1.2.2.2.1 ++ ([x3] : List Int)))
    else none
   else
    if s1.2.2.2.1.length + 1 ≤ big then
     if (decide (r2 ≥ 0)) = true then
      (idx p0.Ands r2).bind fun x4 =>
      (s_ref22_Lit (s1.2.2.2.1 ++ ([(IntKind.wrap .i64 (2 * (IntKind.wrap .i64 (s1.2.2.1 + 1))))] : List Int)) x4.A).bind fun r3 =>
      (s_ref22_Lit (s1.2.2.2.1 ++ ([(IntKind.wrap .i64 (2 * (IntKind.wrap .i64 (s1.2.2.1 + 1))))] : List Int)) x4.B).bind fun r4 =>
      (s_ref22_Not (IntKind.wrap .i64 (2 * (IntKind.wrap .i64 (s1.2.2.1 + 1))))).bind fun r5 =>
      (w_ref22_Put_u3 p0 0 ([] : List (List Int)) ([] : List (List Int)) s0.1 s1.1 s0.2.1 s1.2.1 p0 (IntKind.wrap .i64 (s1.2.2.1 + 1)) 0 ([] : List (List Int)) ([] : List (List Int)) (s1.2.2.2.1 ++ ([(IntKind.wrap .i64 (2 * (IntKind.wrap .i64 (s1.2.2.1 + 1))))] : List Int)) ([r5, r3] : List Int)).bind fun x5 =>
      (w_ref22_Put_u1 p0 0 ([] : List (List Int)) ([] : List (List Int)) s0.1 s1.1 s0.2.1 x5.1 p0 (IntKind.wrap .i64 (s1.2.2.1 + 1)) x5.2 0 ([] : List (List Int)) ([] : List (List Int)) (s1.2.2.2.1 ++ ([(IntKind.wrap .i64 (2 * (IntKind.wrap .i64 (s1.2.2.1 + 1))))] : List Int)) ([r5, r4] : List Int)).bind fun x6 =>
      (s_ref22_Not r3).bind fun r6 =>
      (s_ref22_Not r4).bind fun r7 =>
      (w_ref22_Put_u2 p0 0 ([] : List (List Int)) ([] : List (List Int)) s0.1 s1.1 s0.2.1 x6 p0 (IntKind.wrap .i64 (s1.2.2.1 + 1)) x5.2 0 ([] : List (List Int)) ([] : List (List Int)) (s1.2.2.2.1 ++ ([(IntKind.wrap .i64 (2 * (IntKind.wrap .i64 (s1.2.2.1 + 1))))] : List Int)) ([(IntKind.wrap .i64 (2 * (IntKind.wrap .i64 (s1.2.2.1 + 1)))), r6, r7] : List Int)).bind fun x7 =>
      some (x7, (IntKind.wrap .i64 (s1.2.2.1 + 1)), (s1.2.2.2.1 ++ ([(IntKind.wrap .i64 (2 * (IntKind.wrap .i64 (s1.2.2.1 + 1))))] : List Int)))
     else
      some (s1.2.1, (IntKind.wrap .i64 (s1.2.2.1 + 1)), (s1.2.2.2.1 ++ ([(IntKind.wrap .i64 (2 * (IntKind.wrap .i64 (s1.2.2.1 + 1))))] : List Int)))
    else none).bind fun x0 =>
  some (Sum.inl (s1.1, x0.1, x0.2.1, x0.2.2, (IntKind.wrap .i64 (s1.2.2.2.2 + 1))))
 else
  some (Sum.inr (s1.1, s1.2.1, s1.2.2.1, s1.2.2.2.1))
def I_ref23_Made_L1 (p0 : S_Circuit) (s0 : Int × (List (List Int)) × (List (List Int)) × Int × (List Int)) (s1 : Nat × (List (List Int)) × Int × (List Int) × Int) (σ : St) : Prop := σ.get 2 = (.d true (.lst 1 (s0.2.2.2.2.map eI))) ∧ σ.get 3 = (.ptr 0 0 0) ∧ σ.get 4 = (.ptr 0 1 0) ∧ σ.get 6 = (.ptr 0 2 0) ∧ σ.get 7 = (.row 0 5 0 s1.2.2.2.1.length 1) ∧ σ.get 8 = (.d true (.int .i64 s1.2.2.2.2)) ∧ σ.obj 1 0 = oB0 p0 ∧ σ.obj 1 1 = oB4 (([] : List (List Int)).length) (([] : List (List Int)).length) ∧ (∃ gr_0_2, σ.obj 1 2 = some (.rw 1 (([] : List (List Int)).map (eL 1 eI)) gr_0_2)) ∧ (∃ gr_0_3, σ.obj 1 3 = some (.rw 1 (([] : List (List Int)).map (eL 1 eI)) gr_0_3)) ∧ σ.obj 1 4 = oB6 s0.1 s0.2.1.length s1.1 ∧ (∃ gr_0_5, σ.obj 1 5 = some (.rw 1 (s0.2.1.map (eL 1 eI)) gr_0_5)) ∧ (∃ gr_0_6, σ.obj 1 6 = some (.rw 1 (s1.2.1.map (eL 1 eI)) gr_0_6)) ∧ σ.obj 0 0 = oB0 p0 ∧ σ.obj 0 1 = oB12 s1.2.2.1 s0.2.1.length s1.2.1.length ∧ σ.obj 0 2 = oB11 (([] : List (List Int)).length) (([] : List (List Int)).length) ∧ (∃ gr_1_3, σ.obj 0 3 = some (.rw 1 (([] : List (List Int)).map (eL 1 eI)) gr_1_3)) ∧ (∃ gr_1_4, σ.obj 0 4 = some (.rw 1 (([] : List (List Int)).map (eL 1 eI)) gr_1_4)) ∧ (∃ gr_1_5, σ.obj 0 5 = some (.rw 1 (s1.2.2.2.1.map eI) gr_1_5)) ∧ σ.obj 0 7 = none ∧ σ.obj 0 9 = none ∧ σ.obj 0 10 = none ∧ σ.obj 0 11 = none ∧ σ.up.length = 1
def J_ref23_Made_L1 (p0 : S_Circuit) (s0 : Int × (List (List Int)) × (List (List Int)) × Int × (List Int)) (r : Nat × (List (List Int)) × Int × (List Int)) (e : Ex) (σ' : St) : Prop := e = (.exit 0) ∧ σ'.get 4 = (.ptr 0 1 0) ∧ σ'.get 6 = (.ptr 0 2 0) ∧ σ'.get 7 = (.row 0 5 0 r.2.2.2.length 1) ∧ σ'.obj 1 0 = oB0 p0 ∧ σ'.obj 1 1 = oB4 (([] : List (List Int)).length) (([] : List (List Int)).length) ∧ (∃ gr_0_2, σ'.obj 1 2 = some (.rw 1 (([] : List (List Int)).map (eL 1 eI)) gr_0_2)) ∧ (∃ gr_0_3, σ'.obj 1 3 = some (.rw 1 (([] : List (List Int)).map (eL 1 eI)) gr_0_3)) ∧ σ'.obj 1 4 = oB6 s0.1 s0.2.1.length r.1 ∧ (∃ gr_0_5, σ'.obj 1 5 = some (.rw 1 (s0.2.1.map (eL 1 eI)) gr_0_5)) ∧ (∃ gr_0_6, σ'.obj 1 6 = some (.rw 1 (r.2.1.map (eL 1 eI)) gr_0_6)) ∧ σ'.obj 0 1 = oB12 r.2.2.1 s0.2.1.length r.2.1.length ∧ σ'.obj 0 2 = oB11 (([] : List (List Int)).length) (([] : List (List Int)).length) ∧ (∃ gr_1_3, σ'.obj 0 3 = some (.rw 1 (([] : List (List Int)).map (eL 1 eI)) gr_1_3)) ∧ (∃ gr_1_4, σ'.obj 0 4 = some (.rw 1 (([] : List (List Int)).map (eL 1 eI)) gr_1_4)) ∧ (∃ gr_1_5, σ'.obj 0 5 = some (.rw 1 (r.2.2.2.map eI) gr_1_5)) ∧ σ'.obj 0 7 = none ∧ σ'.obj 0 9 = none ∧ σ'.obj 0 10 = none ∧ σ'.obj 0 11 = none ∧ σ'.up.length = 1
theorem L_ref23_Made_L1 (p0 : S_Circuit) (s0 : Int × (List (List Int)) × (List (List Int)) × Int × (List Int)) {s : Nat × (List (List Int)) × Int × (List Int) × Int} {r : Nat × (List (List Int)) × Int × (List Int)} (h : Lp (b_ref23_Made_L1 p0 s0) s = some r) {σ : St} {Q : Ex → St → Prop} (hI : I_ref23_Made_L1 p0 s0 s σ) (hQ : ∀ e σ', J_ref23_Made_L1 p0 s0 r e σ' → Q e σ') : WC env (.loop c_ref23_More_l1) σ Q :=
 WC_Lp (I_ref23_Made_L1 p0 s0) (J_ref23_Made_L1 p0 s0) (by
  clear h hI hQ
  clear s r σ Q
  intro s1 σ x hI h
  obtain ⟨f14, f15, f16, f17, f18, f19, f20, f21, ⟨gr_0_2, f22⟩, ⟨gr_0_3, f23⟩, f24, ⟨gr_0_5, f25⟩, ⟨gr_0_6, f26⟩, f27, f28, f29, ⟨gr_1_3, f30⟩, ⟨gr_1_4, f31⟩, ⟨gr_1_5, f32⟩, f33, f34, f35, f36, f37⟩ := hI
  unfold b_ref23_Made_L1 at h
  replace h := bsome h; obtain ⟨r1, H1, h⟩ := h
  have k1 := AtCall_all (s_ref02_Size_ok H1); try dsimp only at k1
  replace h := itb h; rcases h with ⟨c1, h⟩ | ⟨c1, h⟩
  ·replace h := bsome h; obtain ⟨x0, H2, h⟩ := h
   try simp only [go_sem, c_ref23_More_l1, c_ref23_Made_l1, *]
   refine WC.mono (Q := fun e σ' => e = .normal ∧ σ'.get 2 = (.d true (.lst 1 (s0.2.2.2.2.map eI))) ∧ σ'.get 3 = (.ptr 0 0 0) ∧ σ'.get 4 = (.ptr 0 1 0) ∧ σ'.get 6 = (.ptr 0 2 0) ∧ σ'.get 7 = (.row 0 5 0 x0.2.2.length 1) ∧ σ'.get 8 = (.d true (.int .i64 s1.2.2.2.2)) ∧ σ'.obj 1 0 = oB0 p0 ∧ σ'.obj 1 1 = oB4 (([] : List (List Int)).length) (([] : List (List Int)).length) ∧ (∃ gr_0_2, σ'.obj 1 2 = some (.rw 1 (([] : List (List Int)).map (eL 1 eI)) gr_0_2)) ∧ (∃ gr_0_3, σ'.obj 1 3 = some (.rw 1 (([] : List (List Int)).map (eL 1 eI)) gr_0_3)) ∧ σ'.obj 1 4 = oB6 s0.1 s0.2.1.length s1.1 ∧ (∃ gr_0_5, σ'.obj 1 5 = some (.rw 1 (s0.2.1.map (eL 1 eI)) gr_0_5)) ∧ (∃ gr_0_6, σ'.obj 1 6 = some (.rw 1 (x0.1.map (eL 1 eI)) gr_0_6)) ∧ σ'.obj 0 0 = oB0 p0 ∧ σ'.obj 0 1 = oB12 x0.2.1 s0.2.1.length x0.1.length ∧ σ'.obj 0 2 = oB11 (([] : List (List Int)).length) (([] : List (List Int)).length) ∧ (∃ gr_1_3, σ'.obj 0 3 = some (.rw 1 (([] : List (List Int)).map (eL 1 eI)) gr_1_3)) ∧ (∃ gr_1_4, σ'.obj 0 4 = some (.rw 1 (([] : List (List Int)).map (eL 1 eI)) gr_1_4)) ∧ (∃ gr_1_5, σ'.obj 0 5 = some (.rw 1 (x0.2.2.map eI) gr_1_5)) ∧ σ'.obj 0 7 = none ∧ σ'.obj 0 9 = none ∧ σ'.obj 0 10 = none ∧ σ'.obj 0 11 = none ∧ σ'.up.length = 1) ?_ ?_
   ·replace h := H2
    clear H2
    replace h := bsome h; obtain ⟨r2, H3, h⟩ := h
    have k2 := AtCall_all (s_ref02_Gate_ok H3); try dsimp only at k2
    replace h := bsome h; obtain ⟨x1, H4, h⟩ := h
    try simp only [go_sem, c_ref23_More_l1, c_ref23_Made_l1, c_ref23_More_p2, *]
    refine WC.mono (Q := fun e σ' => e = .normal ∧ σ'.get 2 = (.d true (.lst 1 (s0.2.2.2.2.map eI))) ∧ σ'.get 3 = (.ptr 0 0 0) ∧ σ'.get 4 = (.ptr 0 1 0) ∧ σ'.get 6 = (.ptr 0 2 0) ∧ σ'.get 7 = (.row 0 5 0 s1.2.2.2.1.length 1) ∧ σ'.get 8 = (.d true (.int .i64 s1.2.2.2.2)) ∧ σ'.get 9 = (.d true (.int .i64 (IntKind.wrap .i64 ((IntKind.wrap .i64 (s1.2.2.2.2 - 1)) - p0.Inputs)))) ∧ σ'.get 10 = (.d true (.int .i64 r2)) ∧ σ'.get 38 = (.d true (.bool x1)) ∧ σ'.obj 1 0 = oB0 p0 ∧ σ'.obj 1 1 = oB4 (([] : List (List Int)).length) (([] : List (List Int)).length) ∧ (∃ gr_0_2, σ'.obj 1 2 = some (.rw 1 (([] : List (List Int)).map (eL 1 eI)) gr_0_2)) ∧ (∃ gr_0_3, σ'.obj 1 3 = some (.rw 1 (([] : List (List Int)).map (eL 1 eI)) gr_0_3)) ∧ σ'.obj 1 4 = oB6 s0.1 s0.2.1.length s1.1 ∧ (∃ gr_0_5, σ'.obj 1 5 = some (.rw 1 (s0.2.1.map (eL 1 eI)) gr_0_5)) ∧ (∃ gr_0_6, σ'.obj 1 6 = some (.rw 1 (s1.2.1.map (eL 1 eI)) gr_0_6)) ∧ σ'.obj 0 0 = oB0 p0 ∧ σ'.obj 0 1 = oB12 s1.2.2.1 s0.2.1.length s1.2.1.length ∧ σ'.obj 0 2 = oB11 (([] : List (List Int)).length) (([] : List (List Int)).length) ∧ (∃ gr_1_3, σ'.obj 0 3 = some (.rw 1 (([] : List (List Int)).map (eL 1 eI)) gr_1_3)) ∧ (∃ gr_1_4, σ'.obj 0 4 = some (.rw 1 (([] : List (List Int)).map (eL 1 eI)) gr_1_4)) ∧ (∃ gr_1_5, σ'.obj 0 5 = some (.rw 1 (s1.2.2.2.1.map eI) gr_1_5)) ∧ σ'.obj 0 7 = none ∧ σ'.obj 0 9 = none ∧ σ'.obj 0 10 = none ∧ σ'.obj 0 11 = none ∧ σ'.up.length = 1) ?_ ?_
    ·replace h := H4
     clear H4
     replace h := itb h; rcases h with ⟨c2, h⟩ | ⟨c2, h⟩
     ·replace h := itb h; rcases h with ⟨c3, h⟩ | ⟨c3, h⟩
      ·replace h := bsome h; obtain ⟨x2, H5, h⟩ := h
       have n0 := idx_n H5; have q0 := idx_q H5; have y0 := idx_x H5
       cases h
       simp only [go_sem, c_ref23_More_l1, c_ref23_Made_l1, c_ref23_More_p2, c_ref23_More_p1, *]
      ·cases h
       simp only [go_sem, c_ref23_More_l1, c_ref23_Made_l1, c_ref23_More_p2, c_ref23_More_p1, *]
     ·cases h
      simp only [go_sem, c_ref23_More_l1, c_ref23_Made_l1, c_ref23_More_p2, c_ref23_More_p1, *]
    ·intro e τ hJ
     obtain ⟨rfl, f38, f39, f40, f41, f42, f43, f44, f45, f46, f47, f48, ⟨gr_0_2, f49⟩, ⟨gr_0_3, f50⟩, f51, ⟨gr_0_5, f52⟩, ⟨gr_0_6, f53⟩, f54, f55, f56, ⟨gr_1_3, f57⟩, ⟨gr_1_4, f58⟩, ⟨gr_1_5, f59⟩, f60, f61, f62, f63, f64⟩ := hJ
     replace h := itb h; rcases h with ⟨c4, h⟩ | ⟨c4, h⟩
     ·replace h := bsome h; obtain ⟨x3, H6, h⟩ := h
      have n1 := idx_n H6; have q1 := idx_q H6; have y1 := idx_x H6
      replace h := need h; obtain ⟨H7, h⟩ := h
      cases h
      simp only [go_sem, c_ref23_More_l1, c_ref23_Made_l1, c_ref23_More_p2, *]
     ·replace h := need h; obtain ⟨H8, h⟩ := h
      replace h := itb h; rcases h with ⟨c5, h⟩ | ⟨c5, h⟩
      ·replace h := bsome h; obtain ⟨x4, H9, h⟩ := h
       have n2 := idx_n H9; have q2 := idx_q H9; have y2 := idx_x H9
       replace h := bsome h; obtain ⟨r3, H10, h⟩ := h
       have k3 := AtCall_all (s_ref22_Lit_ok H10); try dsimp only at k3
       try simp only [List.map_cons, List.map_nil, List.map_append, List.map_set, List.nil_append, List.map_replicate, eI, eU8, eB, eL, eS_Latch, eS_And, eS_Circuit, eS_Cnf, eA4_Int] at k3
       replace h := bsome h; obtain ⟨r4, H11, h⟩ := h
       have k4 := AtCall_all (s_ref22_Lit_ok H11); try dsimp only at k4
       try simp only [List.map_cons, List.map_nil, List.map_append, List.map_set, List.nil_append, List.map_replicate, eI, eU8, eB, eL, eS_Latch, eS_And, eS_Circuit, eS_Cnf, eA4_Int] at k4
       replace h := bsome h; obtain ⟨r5, H12, h⟩ := h
       have k5 := AtCall_all (s_ref22_Not_ok H12); try dsimp only at k5
       replace h := bsome h; obtain ⟨x5, H13, h⟩ := h
       try simp only [go_sem, c_ref23_More_l1, c_ref23_Made_l1, c_ref23_More_p2, *, fn_ref22_Put, n_ref22_Put]
       refine E_ref22_Put_u3 p0 0 ([] : List (List Int)) ([] : List (List Int)) s0.1 s1.1 s0.2.1 s1.2.1 p0 (IntKind.wrap .i64 (s1.2.2.1 + 1)) 0 ([] : List (List Int)) ([] : List (List Int)) (s1.2.2.2.1 ++ ([(IntKind.wrap .i64 (2 * (IntKind.wrap .i64 (s1.2.2.1 + 1))))] : List Int)) ([r5, r3] : List Int) H13 (fun xs => ?_) ?_
       ·clear h
        simp only [go_sem, c_ref23_More_l1, c_ref23_Made_l1, c_ref23_More_p2, *, fn_ref22_Put, n_ref22_Put]
       ·intro v τ hJ
        obtain ⟨rfl, f65, f66, ⟨gr_0_2, f67⟩, ⟨gr_0_3, f68⟩, f69, ⟨gr_0_5, f70⟩, ⟨gr_0_6, f71⟩, f72, f73, f74, ⟨gr_1_3, f75⟩, ⟨gr_1_4, f76⟩, ⟨gr_1_5, f77⟩, ⟨gr_2_0, f78⟩, f79, f80, f81, f82, f83, f84, f85⟩ := hJ
        replace h := bsome h; obtain ⟨x6, H14, h⟩ := h
        try simp only [go_sem, c_ref23_More_l1, c_ref23_Made_l1, c_ref23_More_p2, *, fn_ref22_Put, n_ref22_Put]
        refine E_ref22_Put_u1 p0 0 ([] : List (List Int)) ([] : List (List Int)) s0.1 s1.1 s0.2.1 x5.1 p0 (IntKind.wrap .i64 (s1.2.2.1 + 1)) x5.2 0 ([] : List (List Int)) ([] : List (List Int)) (s1.2.2.2.1 ++ ([(IntKind.wrap .i64 (2 * (IntKind.wrap .i64 (s1.2.2.1 + 1))))] : List Int)) ([r5, r4] : List Int) H14 (fun xs => ?_) ?_
        ·clear h
         simp only [go_sem, c_ref23_More_l1, c_ref23_Made_l1, c_ref23_More_p2, *, fn_ref22_Put, n_ref22_Put]
        ·intro v τ hJ
         obtain ⟨rfl, f86, f87, ⟨gr_0_2, f88⟩, ⟨gr_0_3, f89⟩, f90, ⟨gr_0_5, f91⟩, ⟨gr_0_6, f92⟩, f93, f94, f95, ⟨gr_1_3, f96⟩, ⟨gr_1_4, f97⟩, ⟨gr_1_5, f98⟩, ⟨gr_2_1, f99⟩, f100, f101, f102, f103, f104, f105⟩ := hJ
         replace h := bsome h; obtain ⟨r6, H15, h⟩ := h
         have k7 := AtCall_all (s_ref22_Not_ok H15); try dsimp only at k7
         replace h := bsome h; obtain ⟨r7, H16, h⟩ := h
         have k8 := AtCall_all (s_ref22_Not_ok H16); try dsimp only at k8
         replace h := bsome h; obtain ⟨x7, H17, h⟩ := h
         try simp only [go_sem, c_ref23_More_l1, c_ref23_Made_l1, c_ref23_More_p2, *, fn_ref22_Put, n_ref22_Put]
         refine E_ref22_Put_u2 p0 0 ([] : List (List Int)) ([] : List (List Int)) s0.1 s1.1 s0.2.1 x6 p0 (IntKind.wrap .i64 (s1.2.2.1 + 1)) x5.2 0 ([] : List (List Int)) ([] : List (List Int)) (s1.2.2.2.1 ++ ([(IntKind.wrap .i64 (2 * (IntKind.wrap .i64 (s1.2.2.1 + 1))))] : List Int)) ([(IntKind.wrap .i64 (2 * (IntKind.wrap .i64 (s1.2.2.1 + 1)))), r6, r7] : List Int) H17 (fun xs => ?_) ?_
         ·clear h
          simp only [go_sem, c_ref23_More_l1, c_ref23_Made_l1, c_ref23_More_p2, *, fn_ref22_Put, n_ref22_Put]
         ·intro v τ hJ
          obtain ⟨rfl, f106, f107, ⟨gr_0_2, f108⟩, ⟨gr_0_3, f109⟩, f110, ⟨gr_0_5, f111⟩, ⟨gr_0_6, f112⟩, f113, f114, f115, ⟨gr_1_3, f116⟩, ⟨gr_1_4, f117⟩, ⟨gr_1_5, f118⟩, ⟨gr_2_2, f119⟩, f120, f121, f122, f123, f124⟩ := hJ
          cases h
          simp only [go_sem, c_ref23_More_l1, c_ref23_Made_l1, c_ref23_More_p2, *]
      ·cases h
       simp only [go_sem, c_ref23_More_l1, c_ref23_Made_l1, c_ref23_More_p2, *]
   ·intro e τ hJ
    obtain ⟨rfl, f125, f126, f127, f128, f129, f130, f131, f132, ⟨gr_0_2, f133⟩, ⟨gr_0_3, f134⟩, f135, ⟨gr_0_5, f136⟩, ⟨gr_0_6, f137⟩, f138, f139, f140, ⟨gr_1_3, f141⟩, ⟨gr_1_4, f142⟩, ⟨gr_1_5, f143⟩, f144, f145, f146, f147, f148⟩ := hJ
    cases h
    simp only [go_sem, LQ_inl, I_ref23_Made_L1, c_ref23_More_l1, c_ref23_Made_l1, *]
  ·cases h
   simp only [go_sem, LQ_inr, J_ref23_Made_L1, c_ref23_More_l1, c_ref23_Made_l1, *]
) h hI hQ
noncomputable def b_ref23_Made_L0 (p0 : S_Circuit) (p1 : Int) (s0 : Int × (List (List Int)) × (List (List Int)) × Int × (List Int)) : Option ((Int × (List (List Int)) × (List (List Int)) × Int × (List Int)) ⊕ ((Int × (List (List Int)) × (List (List Int))) ⊕ (Unit))) :=
 if (decide (s0.2.2.2.1 < p1)) = true then
  (Lp (b_ref23_Made_L1 p0 s0) (s0.2.2.1.length, s0.2.2.1, s0.1, ([0] : List Int), 1)).bind fun x0 =>
  if s0.2.1.length + 1 ≤ big then
   (if (decide (x0.2.2.1 > 4000)) = true then
     some true
    else
     some (decide ((x0.2.1.length : Int) > 20000))).bind fun x1 =>
   if x1 = true then
    some (Sum.inr (Sum.inr ()))
   else
    (idx (s0.2.1 ++ ([x0.2.2.2] : List (List Int))) s0.2.2.2.1).bind fun x2 =>
    (s_ref23_Behind p0 x2).bind fun r1 =>
    some (Sum.inl (x0.2.2.1, (s0.2.1 ++ ([x0.2.2.2] : List (List Int))), x0.2.1, (IntKind.wrap .i64 (s0.2.2.2.1 + 1)), r1))
  else none
 else
  some (Sum.inr (Sum.inl (s0.1, s0.2.1, s0.2.2.1)))
def I_ref23_Made_L0 (p0 : S_Circuit) (p1 : Int) (s0 : Int × (List (List Int)) × (List (List Int)) × Int × (List Int)) (σ : St) : Prop := σ.get 1 = (.d true (.int .i64 p1)) ∧ σ.get 3 = (.ptr 0 0 0) ∧ σ.get 6 = (.ptr 0 1 0) ∧ σ.get 8 = (.ptr 0 4 0) ∧ σ.get 9 = (.d true (.lst 1 (s0.2.2.2.2.map eI))) ∧ σ.get 10 = (.d true (.int .i64 s0.2.2.2.1)) ∧ σ.obj 0 0 = oB0 p0 ∧ σ.obj 0 1 = oB4 (([] : List (List Int)).length) (([] : List (List Int)).length) ∧ (∃ gr_0_2, σ.obj 0 2 = some (.rw 1 (([] : List (List Int)).map (eL 1 eI)) gr_0_2)) ∧ (∃ gr_0_3, σ.obj 0 3 = some (.rw 1 (([] : List (List Int)).map (eL 1 eI)) gr_0_3)) ∧ σ.obj 0 4 = oB6 s0.1 s0.2.1.length s0.2.2.1.length ∧ (∃ gr_0_5, σ.obj 0 5 = some (.rw 1 (s0.2.1.map (eL 1 eI)) gr_0_5)) ∧ (∃ gr_0_6, σ.obj 0 6 = some (.rw 1 (s0.2.2.1.map (eL 1 eI)) gr_0_6)) ∧ σ.up.length = 0
def J_ref23_Made_L0 (p0 : S_Circuit) (p1 : Int) (r : (Int × (List (List Int)) × (List (List Int))) ⊕ (Unit)) (e : Ex) (σ' : St) : Prop := (Sum.elim (fun o0 => e = (.exit 0) ∧ σ'.get 6 = (.ptr 0 1 0) ∧ σ'.get 8 = (.ptr 0 4 0) ∧ σ'.obj 0 1 = oB4 (([] : List (List Int)).length) (([] : List (List Int)).length) ∧ (∃ gr_0_2, σ'.obj 0 2 = some (.rw 1 (([] : List (List Int)).map (eL 1 eI)) gr_0_2)) ∧ (∃ gr_0_3, σ'.obj 0 3 = some (.rw 1 (([] : List (List Int)).map (eL 1 eI)) gr_0_3)) ∧ σ'.obj 0 4 = oB6 o0.1 o0.2.1.length o0.2.2.length ∧ (∃ gr_0_5, σ'.obj 0 5 = some (.rw 1 (o0.2.1.map (eL 1 eI)) gr_0_5)) ∧ (∃ gr_0_6, σ'.obj 0 6 = some (.rw 1 (o0.2.2.map (eL 1 eI)) gr_0_6)) ∧ σ'.up.length = 0) (fun o1 => e = .ret ∧ σ'.get 6 = (.ptr 0 1 0) ∧ σ'.get 7 = (.d true (.bool false)) ∧ σ'.obj 0 1 = oB7 ∧ σ'.up.length = 0)) r
theorem L_ref23_Made_L0 (p0 : S_Circuit) (p1 : Int) {s : Int × (List (List Int)) × (List (List Int)) × Int × (List Int)} {r : (Int × (List (List Int)) × (List (List Int))) ⊕ (Unit)} (h : Lp (b_ref23_Made_L0 p0 p1) s = some r) {σ : St} {Q : Ex → St → Prop} (hI : I_ref23_Made_L0 p0 p1 s σ) (hQ : ∀ e σ', J_ref23_Made_L0 p0 p1 r e σ' → Q e σ') : WC env (.loop c_ref23_Made_l1) σ Q :=
 WC_Lp (I_ref23_Made_L0 p0 p1) (J_ref23_Made_L0 p0 p1) (by
  clear h hI hQ
  clear s r σ Q
  intro s0 σ x hI h
  obtain ⟨f0, f1, f2, f3, f4, f5, f6, f7, ⟨gr_0_2, f8⟩, ⟨gr_0_3, f9⟩, f10, ⟨gr_0_5, f11⟩, ⟨gr_0_6, f12⟩, f13⟩ := hI
  unfold b_ref23_Made_L0 at h
  replace h := itb h; rcases h with ⟨c0, h⟩ | ⟨c0, h⟩
  ·replace h := bsome h; obtain ⟨x0, H1, h⟩ := h
   try simp only [go_sem, c_ref23_Made_l1, *]
   refine L_ref23_Made_L1 p0 s0 H1 ?_ ?_
   ·clear h
    simp only [go_sem, I_ref23_Made_L1, c_ref23_Made_l1, *]
   ·intro e τ hJ
    obtain ⟨rfl, f14, f15, f16, f17, f18, ⟨gr_0_2, f19⟩, ⟨gr_0_3, f20⟩, f21, ⟨gr_0_5, f22⟩, ⟨gr_0_6, f23⟩, f24, f25, ⟨gr_1_3, f26⟩, ⟨gr_1_4, f27⟩, ⟨gr_1_5, f28⟩, f29, f30, f31, f32, f33⟩ := hJ
    replace h := need h; obtain ⟨H2, h⟩ := h
    replace h := bsome h; obtain ⟨x1, H3, h⟩ := h
    try simp only [go_sem, c_ref23_Made_l1, *]
    refine WC.mono (Q := fun e σ' => e = .normal ∧ σ'.get 1 = (.d true (.int .i64 p1)) ∧ σ'.get 3 = (.ptr 0 0 0) ∧ σ'.get 6 = (.ptr 0 1 0) ∧ σ'.get 8 = (.ptr 0 4 0) ∧ σ'.get 10 = (.d true (.int .i64 s0.2.2.2.1)) ∧ σ'.get 31 = (.d true (.bool x1)) ∧ σ'.obj 0 0 = oB0 p0 ∧ σ'.obj 0 1 = oB4 (([] : List (List Int)).length) (([] : List (List Int)).length) ∧ (∃ gr_0_2, σ'.obj 0 2 = some (.rw 1 (([] : List (List Int)).map (eL 1 eI)) gr_0_2)) ∧ (∃ gr_0_3, σ'.obj 0 3 = some (.rw 1 (([] : List (List Int)).map (eL 1 eI)) gr_0_3)) ∧ σ'.obj 0 4 = oB6 x0.2.2.1 ((s0.2.1 ++ ([x0.2.2.2] : List (List Int))).length) x0.2.1.length ∧ σ'.obj 0 5 = some (.rw 1 ((s0.2.1 ++ ([x0.2.2.2] : List (List Int))).map (eL 1 eI)) true) ∧ (∃ gr_0_6, σ'.obj 0 6 = some (.rw 1 (x0.2.1.map (eL 1 eI)) gr_0_6)) ∧ σ'.up.length = 0) ?_ ?_
    ·replace h := H3
     clear H3
     replace h := itb h; rcases h with ⟨c1, h⟩ | ⟨c1, h⟩
     ·cases h
      simp only [go_sem, c_ref23_Made_l1, c_ref23_Made_p1, *]
     ·cases h
      simp only [go_sem, c_ref23_Made_l1, c_ref23_Made_p1, *]
    ·intro e τ hJ
     obtain ⟨rfl, f34, f35, f36, f37, f38, f39, f40, f41, ⟨gr_0_2, f42⟩, ⟨gr_0_3, f43⟩, f44, f45, ⟨gr_0_6, f46⟩, f47⟩ := hJ
     replace h := itb h; rcases h with ⟨c2, h⟩ | ⟨c2, h⟩
     ·cases h
      simp only [go_sem, LQ_inr, J_ref23_Made_L0, c_ref23_Made_l1, *]
     ·replace h := bsome h; obtain ⟨x2, H4, h⟩ := h
      have n0 := idx_n H4; have q0 := idx_q H4; have y0 := idx_x H4
      try simp only [List.length_cons, List.length_nil, cpl_length, List.length_append, List.length_set, List.length_replicate, Nat.zero_add, Nat.reduceAdd] at n0 q0
      replace y0 := idx_m (eL 1 eI) H4; try simp only [List.map_cons, List.map_nil, List.map_append, List.map_set, List.nil_append, List.map_replicate, eI, eU8, eB, eL, eS_Latch, eS_And, eS_Circuit, eS_Cnf, eA4_Int, List.length_map] at y0
      replace h := bsome h; obtain ⟨r1, H5, h⟩ := h
      have k1 := AtCall_all (s_ref23_Behind_ok H5); try dsimp only at k1
      cases h
      simp only [go_sem, LQ_inl, I_ref23_Made_L0, c_ref23_Made_l1, *]
  ·cases h
   simp only [go_sem, LQ_inr, J_ref23_Made_L0, c_ref23_Made_l1, *]
) h hI hQ
noncomputable def s_ref23_Made (p0 : S_Circuit) (p1 : Int) (p2 : Bool) : Option (S_Cnf × Bool) :=
 (s_ref23_Resets p0 p2).bind fun r0 =>
 (Lp (b_ref23_Made_L0 p0 p1) (0, ([] : List (List Int)), ([] : List (List Int)), 0, r0)).bind fun x0 =>
 match x0 with
 | .inl x0' =>
  some ((S_Cnf.mk x0'.1 x0'.2.1 x0'.2.2), true)
 | .inr x0' =>
  some ((S_Cnf.mk 0 ([] : List (List Int)) ([] : List (List Int))), false)
theorem s_ref23_Made_tk {p0 : S_Circuit} {p1 : Int} {p2 : Bool} {r : S_Cnf × Bool} (h : s_ref23_Made p0 p1 p2 = some r) : AnsT env k_ref23_Made [(.ag [(.d true (.int .i64 p0.Inputs)), (.d false (.lst 2 (p0.Latches.map eS_Latch))), (.d false (.lst 2 (p0.Ands.map eS_And))), (.d false (.lst 1 (p0.Bads.map eI))), (.d false (.lst 1 (p0.Constraints.map eI)))]), (.d true (.int .i64 p1)), (.d true (.bool p2))] (.tp [(.ag [(.d true (.int .i64 r.1.Vars)), (.row 0 0 0 r.1.Lits.length 1), (.row 0 1 0 r.1.Clauses.length 1)]), (.d true (.bool r.2))]) [(1, r.1.Lits.map (eL 1 eI)), (1, r.1.Clauses.map (eL 1 eI))] := by
 unfold s_ref23_Made at h
 unfold AnsT
 rw [AtF fn_ref23_Made]
 simp only [n_ref23_Made]
 replace h := bsome h; obtain ⟨r0, H0, h⟩ := h
 have k0 := AtCall_all (s_ref23_Resets_ok H0); try dsimp only at k0
 replace h := bsome h; obtain ⟨x0, H1, h⟩ := h
 try simp only [go_sem, *]
 refine L_ref23_Made_L0 p0 p1 H1 ?_ ?_
 ·clear h
  simp only [go_sem, I_ref23_Made_L0, *]
 ·intro e τ hJ
  rcases x0 with x0' | x0'
  ·obtain ⟨rfl, f0, f1, f2, ⟨gr_0_2, f3⟩, ⟨gr_0_3, f4⟩, f5, ⟨gr_0_5, f6⟩, ⟨gr_0_6, f7⟩, f8⟩ := hJ
   cases h
   simp only [go_sem, *]
   exact ⟨_, rfl⟩
  ·obtain ⟨rfl, f9, f10, f11, f12⟩ := hJ
   cases h
   simp only [go_sem, *]
   exact ⟨_, rfl⟩
noncomputable def s_ref23_Asked (p0 : S_Circuit) (p1 : Int) (p2 : Bool) : Option (S_Cnf × Int) :=
 (s_ref02_Check p0).bind fun r0 =>
 if (r0 != 0) = true then
  some ((S_Cnf.mk 0 ([] : List (List Int)) ([] : List (List Int))), r0)
 else
  (if (decide (p1 < 1)) = true then
    some true
   else
    some (decide (p1 > 100))).bind fun x0 =>
  if x0 = true then
   some ((S_Cnf.mk 0 ([] : List (List Int)) ([] : List (List Int))), 2)
  else
   (s_ref23_Made p0 p1 p2).bind fun r1 =>
   if r1.2 = true then
    some (r1.1, 0)
   else
    some ((S_Cnf.mk 0 ([] : List (List Int)) ([] : List (List Int))), 4)
theorem s_ref23_Asked_tk {p0 : S_Circuit} {p1 : Int} {p2 : Bool} {r : S_Cnf × Int} (h : s_ref23_Asked p0 p1 p2 = some r) : AnsT env k_ref23_Asked [(.ag [(.d true (.int .i64 p0.Inputs)), (.d false (.lst 2 (p0.Latches.map eS_Latch))), (.d false (.lst 2 (p0.Ands.map eS_And))), (.d false (.lst 1 (p0.Bads.map eI))), (.d false (.lst 1 (p0.Constraints.map eI)))]), (.d true (.int .i64 p1)), (.d true (.bool p2))] (.tp [(.ag [(.d true (.int .i64 r.1.Vars)), (.row 0 0 0 r.1.Lits.length 1), (.row 0 1 0 r.1.Clauses.length 1)]), (.d true (.int .i64 r.2))]) [(1, r.1.Lits.map (eL 1 eI)), (1, r.1.Clauses.map (eL 1 eI))] := by
 unfold s_ref23_Asked at h
 unfold AnsT
 rw [AtF fn_ref23_Asked]
 simp only [n_ref23_Asked]
 replace h := bsome h; obtain ⟨r0, H0, h⟩ := h
 have k0 := AtCall_all (s_ref02_Check_ok H0); try dsimp only at k0
 replace h := itb h; rcases h with ⟨c0, h⟩ | ⟨c0, h⟩
 ·cases h
  simp only [go_sem, *]
  exact ⟨_, rfl⟩
 ·replace h := bsome h; obtain ⟨x0, H1, h⟩ := h
  try simp only [go_sem, *]
  refine WC.mono (Q := fun e σ' => e = .normal ∧ σ'.get 1 = (.d true (.int .i64 p1)) ∧ σ'.get 2 = (.d true (.bool p2)) ∧ σ'.get 3 = (.ptr 0 0 0) ∧ σ'.get 6 = (.ptr 0 1 0) ∧ σ'.get 22 = (.d true (.bool x0)) ∧ σ'.obj 0 0 = oB0 p0 ∧ σ'.obj 0 1 = oB4 (([] : List (List Int)).length) (([] : List (List Int)).length) ∧ σ'.obj 0 2 = some (.rw 1 (([] : List (List Int)).map (eL 1 eI)) false) ∧ σ'.obj 0 3 = some (.rw 1 (([] : List (List Int)).map (eL 1 eI)) false) ∧ σ'.obj 0 4 = none ∧ σ'.obj 0 30 = none ∧ σ'.obj 0 31 = none ∧ σ'.up.length = 0) ?_ ?_
  ·replace h := H1
   clear H1
   replace h := itb h; rcases h with ⟨c1, h⟩ | ⟨c1, h⟩
   ·cases h
    simp only [go_sem, c_ref23_Asked_p1, *]
   ·cases h
    simp only [go_sem, c_ref23_Asked_p1, *]
  ·intro e τ hJ
   obtain ⟨rfl, f0, f1, f2, f3, f4, f5, f6, f7, f8, f9, f10, f11, f12⟩ := hJ
   replace h := itb h; rcases h with ⟨c2, h⟩ | ⟨c2, h⟩
   ·cases h
    simp only [go_sem, *]
    exact ⟨_, rfl⟩
   ·replace h := bsome h; obtain ⟨r1, H2, h⟩ := h
    have k1 := AtCallT_all (s_ref23_Made_tk H2); try dsimp only at k1
    replace h := itb h; rcases h with ⟨c3, h⟩ | ⟨c3, h⟩
    ·cases h
     simp only [go_sem, *]
     exact ⟨_, rfl⟩
    ·cases h
     simp only [go_sem, *]
     exact ⟨_, rfl⟩
noncomputable def s_ref23_Of (p0 : S_Circuit) (p1 : Int) : Option (S_Cnf × Int) :=
 (s_ref23_Asked p0 p1 false).bind fun r0 =>
 some (r0.1, r0.2)
theorem s_ref23_Of_tk {p0 : S_Circuit} {p1 : Int} {r : S_Cnf × Int} (h : s_ref23_Of p0 p1 = some r) : AnsT env k_ref23_Of [(.ag [(.d true (.int .i64 p0.Inputs)), (.d false (.lst 2 (p0.Latches.map eS_Latch))), (.d false (.lst 2 (p0.Ands.map eS_And))), (.d false (.lst 1 (p0.Bads.map eI))), (.d false (.lst 1 (p0.Constraints.map eI)))]), (.d true (.int .i64 p1))] (.tp [(.ag [(.d true (.int .i64 r.1.Vars)), (.row 0 0 0 r.1.Lits.length 1), (.row 0 1 0 r.1.Clauses.length 1)]), (.d true (.int .i64 r.2))]) [(1, r.1.Lits.map (eL 1 eI)), (1, r.1.Clauses.map (eL 1 eI))] := by
 unfold s_ref23_Of at h
 unfold AnsT
 rw [AtF fn_ref23_Of]
 simp only [n_ref23_Of]
 replace h := bsome h; obtain ⟨r0, H0, h⟩ := h
 have k0 := AtCallT_all (s_ref23_Asked_tk H0); try dsimp only at k0
 cases h
 simp only [go_sem, *]
 exact ⟨_, rfl⟩
noncomputable def b_ref36_Told_L0 (p0 : (List Int)) (p1 : (List Int)) (s0 : (List Int) × Int) : Option (((List Int) × Int) ⊕ ((List Int))) :=
 if (decide (s0.2 < (p1.length : Int))) = true then
  (idx p1 s0.2).bind fun x0 =>
  (s_ref22_Lit p0 x0).bind fun r0 =>
  if s0.1.length + 1 ≤ big then
   some (Sum.inl ((s0.1 ++ ([r0] : List Int)), (IntKind.wrap .i64 (s0.2 + 1))))
  else none
 else
  some (Sum.inr s0.1)
def I_ref36_Told_L0 (p0 : (List Int)) (p1 : (List Int)) (s0 : (List Int) × Int) (σ : St) : Prop := σ.get 0 = (.d false (.lst 1 (p0.map eI))) ∧ σ.get 1 = (.d false (.lst 1 (p1.map eI))) ∧ σ.get 5 = (.row 0 0 0 s0.1.length 1) ∧ σ.get 6 = (.d true (.int .i64 s0.2)) ∧ (∃ gr_0_0, σ.obj 0 0 = some (.rw 1 (s0.1.map eI) gr_0_0)) ∧ σ.obj 0 2 = none ∧ σ.up.length = 0
def J_ref36_Told_L0 (p0 : (List Int)) (p1 : (List Int)) (r : (List Int)) (e : Ex) (σ' : St) : Prop := e = (.exit 0) ∧ σ'.get 5 = (.row 0 0 0 r.length 1) ∧ (∃ gr_0_0, σ'.obj 0 0 = some (.rw 1 (r.map eI) gr_0_0)) ∧ σ'.obj 0 2 = none ∧ σ'.up.length = 0
theorem L_ref36_Told_L0 (p0 : (List Int)) (p1 : (List Int)) {s : (List Int) × Int} {r : (List Int)} (h : Lp (b_ref36_Told_L0 p0 p1) s = some r) {σ : St} {Q : Ex → St → Prop} (hI : I_ref36_Told_L0 p0 p1 s σ) (hQ : ∀ e σ', J_ref36_Told_L0 p0 p1 r e σ' → Q e σ') : WC env (.loop c_ref36_Told_l1) σ Q :=
 WC_Lp (I_ref36_Told_L0 p0 p1) (J_ref36_Told_L0 p0 p1) (by
  clear h hI hQ
  clear s r σ Q
  intro s0 σ x hI h
  obtain ⟨f0, f1, f2, f3, ⟨gr_0_0, f4⟩, f5, f6⟩ := hI
  unfold b_ref36_Told_L0 at h
  replace h := itb h; rcases h with ⟨c0, h⟩ | ⟨c0, h⟩
  ·replace h := bsome h; obtain ⟨x0, H0, h⟩ := h
   have n0 := idx_n H0; have q0 := idx_q H0; have y0 := idx_x H0
   replace h := bsome h; obtain ⟨r0, H1, h⟩ := h
   have k0 := AtCall_all (s_ref22_Lit_ok H1); try dsimp only at k0
   replace h := need h; obtain ⟨H2, h⟩ := h
   cases h
   simp only [go_sem, LQ_inl, I_ref36_Told_L0, c_ref36_Told_l1, *]
  ·cases h
   simp only [go_sem, LQ_inr, J_ref36_Told_L0, c_ref36_Told_l1, *]
) h hI hQ
noncomputable def s_ref36_Told (p0 : (List Int)) (p1 : (List Int)) : Option ((List Int)) :=
 (Lp (b_ref36_Told_L0 p0 p1) (([] : List Int), 0)).bind fun x0 =>
 some x0
theorem s_ref36_Told_ok {p0 : (List Int)} {p1 : (List Int)} {r : (List Int)} (h : s_ref36_Told p0 p1 = some r) : Ans env k_ref36_Told [(.d false (.lst 1 (p0.map eI))), (.d false (.lst 1 (p1.map eI)))] (.d true (.lst 1 (r.map eI))) := by
 unfold s_ref36_Told at h
 unfold Ans
 rw [AtF fn_ref36_Told]
 simp only [n_ref36_Told]
 replace h := bsome h; obtain ⟨x0, H0, h⟩ := h
 try simp only [go_sem, *]
 refine L_ref36_Told_L0 p0 p1 H0 ?_ ?_
 ·clear h
  simp only [go_sem, I_ref36_Told_L0, *]
 ·intro e τ hJ
  obtain ⟨rfl, f0, ⟨gr_0_0, f1⟩, f2, f3⟩ := hJ
  cases h
  simp only [go_sem, *]
  exact ⟨_, rfl⟩
noncomputable def w_ref22_Put_u5 (a0 : List Int) (a1 : S_Circuit) (a2 : Int) (a3 : List (List Int)) (a4 : List (List Int)) (a5 : Int) (a6 : Nat) (a7 : List (List Int)) (a8 : List (List Int)) (a9 : S_Circuit) : Option ((List (List Int))) :=
 (s_ref13_Has a0 1).bind fun r0 =>
 if r0 = true then
  some a8
 else
  (s_ref13_Without a0 0).bind fun r1 =>
  (s_ref13_Always r1).bind fun r2 =>
  if r2 = true then
   some a8
  else
   (s_ref13_Sorted r1).bind fun r3 =>
   if a8.length + 1 ≤ big then
    some (a8 ++ ([r3] : List (List Int)))
   else none
theorem E_ref22_Put_u5 (a0 : List Int) (a1 : S_Circuit) (a2 : Int) (a3 : List (List Int)) (a4 : List (List Int)) (a5 : Int) (a6 : Nat) (a7 : List (List Int)) (a8 : List (List Int)) (a9 : S_Circuit) {r : (List (List Int))} (h : w_ref22_Put_u5 a0 a1 a2 a3 a4 a5 a6 a7 a8 a9 = some r) {up : List Lv} {K : V → St → Prop} (hI : ∀ xs, (St.ini xs up).obj 2 0 = oB0 a1 ∧ (St.ini xs up).obj 2 1 = oB5 a2 a3.length a4.length ∧ (∃ gr_0_2, (St.ini xs up).obj 2 2 = some (.rw 1 (a3.map (eL 1 eI)) gr_0_2)) ∧ (∃ gr_0_3, (St.ini xs up).obj 2 3 = some (.rw 1 (a4.map (eL 1 eI)) gr_0_3)) ∧ (St.ini xs up).obj 2 4 = oB8 a5 a7.length a6 ∧ (∃ gr_0_40, (St.ini xs up).obj 2 40 = some (.rw 1 (a7.map (eL 1 eI)) gr_0_40)) ∧ (∃ gr_0_41, (St.ini xs up).obj 2 41 = some (.rw 1 (a8.map (eL 1 eI)) gr_0_41)) ∧ (St.ini xs up).obj 1 0 = oB0 a9 ∧ (St.ini xs up).obj 0 0 = none ∧ (St.ini xs up).obj 0 1 = none ∧ (St.ini xs up).up.length = 2)
  (hK : ∀ v σ', v = (.row 2 41 0 r.length 1) ∧ σ'.obj 2 0 = oB0 a1 ∧ σ'.obj 2 1 = oB5 a2 a3.length a4.length ∧ (∃ gr_0_2, σ'.obj 2 2 = some (.rw 1 (a3.map (eL 1 eI)) gr_0_2)) ∧ (∃ gr_0_3, σ'.obj 2 3 = some (.rw 1 (a4.map (eL 1 eI)) gr_0_3)) ∧ σ'.obj 2 4 = oB8 a5 a7.length a6 ∧ (∃ gr_0_40, σ'.obj 2 40 = some (.rw 1 (a7.map (eL 1 eI)) gr_0_40)) ∧ (∃ gr_0_41, σ'.obj 2 41 = some (.rw 1 (r.map (eL 1 eI)) gr_0_41)) ∧ σ'.obj 1 0 = oB0 a9 ∧ σ'.up.length = 2 → K v σ') : AtFn env k_ref22_Put [(.row 2 41 0 a8.length 1), (.d true (.lst 1 (a0.map eI)))] up K := by
 obtain ⟨f0, f1, ⟨gr_0_2, f2⟩, ⟨gr_0_3, f3⟩, f4, ⟨gr_0_40, f5⟩, ⟨gr_0_41, f6⟩, f7, f8, f9, hup⟩ := hI [(.row 2 41 0 a8.length 1), (.d true (.lst 1 (a0.map eI)))]
 have hu : up.length = 2 := hup
 clear hI
 refine AtFn_mono ?_ hK
 clear hK
 unfold w_ref22_Put_u5 at h
 rw [AtF fn_ref22_Put]
 simp only [n_ref22_Put]
 replace h := bsome h; obtain ⟨r0, H0, h⟩ := h
 have k0 := AtCall_all (s_ref13_Has_ok H0); try dsimp only at k0
 replace h := itb h; rcases h with ⟨c0, h⟩ | ⟨c0, h⟩
 ·cases h
  simp only [go_sem, *]
 ·replace h := bsome h; obtain ⟨r1, H1, h⟩ := h
  have k1 := AtCall_all (s_ref13_Without_ok H1); try dsimp only at k1
  replace h := bsome h; obtain ⟨r2, H2, h⟩ := h
  have k2 := AtCall_all (s_ref13_Always_ok H2); try dsimp only at k2
  replace h := itb h; rcases h with ⟨c1, h⟩ | ⟨c1, h⟩
  ·cases h
   simp only [go_sem, *]
  ·replace h := bsome h; obtain ⟨r3, H3, h⟩ := h
   have k3 := AtCall_all (s_ref13_Sorted_ok H3); try dsimp only at k3
   replace h := need h; obtain ⟨H4, h⟩ := h
   cases h
   simp only [go_sem, *]
noncomputable def b_ref36_Made_L1 (p0 : S_Circuit) (r0 : S_Cnf × Int) (x0 : (List Int)) (s1 : Nat × (List (List Int)) × Int) : Option ((Nat × (List (List Int)) × Int) ⊕ (Nat × (List (List Int)))) :=
 if (decide (s1.2.2 < (p0.Constraints.length : Int))) = true then
  if inC p0.Constraints.length s1.2.2 (IntKind.wrap .i64 (s1.2.2 + 1)) then
   (s_ref36_Told x0 (slice (Int.toNat s1.2.2) ((Int.toNat (IntKind.wrap .i64 (s1.2.2 + 1))) - (Int.toNat s1.2.2)) p0.Constraints)).bind fun r1 =>
   (w_ref22_Put_u5 r1 p0 0 ([] : List (List Int)) ([] : List (List Int)) r0.1.Vars s1.1 r0.1.Lits s1.2.1 p0).bind fun x1 =>
   some (Sum.inl (s1.1, x1, (IntKind.wrap .i64 (s1.2.2 + 1))))
  else none
 else
  some (Sum.inr (s1.1, s1.2.1))
def I_ref36_Made_L1 (p0 : S_Circuit) (r0 : S_Cnf × Int) (x0 : (List Int)) (s1 : Nat × (List (List Int)) × Int) (σ : St) : Prop := σ.get 1 = (.row 1 41 0 s1.2.1.length 1) ∧ σ.get 2 = (.d true (.lst 1 (x0.map eI))) ∧ σ.get 3 = (.ptr 0 0 0) ∧ σ.get 7 = (.d true (.int .i64 s1.2.2)) ∧ σ.obj 1 0 = oB0 p0 ∧ σ.obj 1 1 = oB4 (([] : List (List Int)).length) (([] : List (List Int)).length) ∧ (∃ gr_0_2, σ.obj 1 2 = some (.rw 1 (([] : List (List Int)).map (eL 1 eI)) gr_0_2)) ∧ (∃ gr_0_3, σ.obj 1 3 = some (.rw 1 (([] : List (List Int)).map (eL 1 eI)) gr_0_3)) ∧ σ.obj 1 4 = oB8 r0.1.Vars r0.1.Lits.length s1.1 ∧ (∃ gr_0_40, σ.obj 1 40 = some (.rw 1 (r0.1.Lits.map (eL 1 eI)) gr_0_40)) ∧ (∃ gr_0_41, σ.obj 1 41 = some (.rw 1 (s1.2.1.map (eL 1 eI)) gr_0_41)) ∧ σ.obj 0 0 = oB0 p0 ∧ σ.up.length = 1
def J_ref36_Made_L1 (p0 : S_Circuit) (r0 : S_Cnf × Int) (x0 : (List Int)) (r : Nat × (List (List Int))) (e : Ex) (σ' : St) : Prop := e = (.exit 0) ∧ σ'.get 1 = (.row 1 41 0 r.2.length 1) ∧ σ'.obj 1 0 = oB0 p0 ∧ σ'.obj 1 1 = oB4 (([] : List (List Int)).length) (([] : List (List Int)).length) ∧ (∃ gr_0_2, σ'.obj 1 2 = some (.rw 1 (([] : List (List Int)).map (eL 1 eI)) gr_0_2)) ∧ (∃ gr_0_3, σ'.obj 1 3 = some (.rw 1 (([] : List (List Int)).map (eL 1 eI)) gr_0_3)) ∧ σ'.obj 1 4 = oB8 r0.1.Vars r0.1.Lits.length r.1 ∧ (∃ gr_0_40, σ'.obj 1 40 = some (.rw 1 (r0.1.Lits.map (eL 1 eI)) gr_0_40)) ∧ (∃ gr_0_41, σ'.obj 1 41 = some (.rw 1 (r.2.map (eL 1 eI)) gr_0_41)) ∧ σ'.up.length = 1
theorem L_ref36_Made_L1 (p0 : S_Circuit) (r0 : S_Cnf × Int) (x0 : (List Int)) {s : Nat × (List (List Int)) × Int} {r : Nat × (List (List Int))} (h : Lp (b_ref36_Made_L1 p0 r0 x0) s = some r) {σ : St} {Q : Ex → St → Prop} (hI : I_ref36_Made_L1 p0 r0 x0 s σ) (hQ : ∀ e σ', J_ref36_Made_L1 p0 r0 x0 r e σ' → Q e σ') : WC env (.loop c_ref36_With_l1) σ Q :=
 WC_Lp (I_ref36_Made_L1 p0 r0 x0) (J_ref36_Made_L1 p0 r0 x0) (by
  clear h hI hQ
  clear s r σ Q
  intro s1 σ x hI h
  obtain ⟨f13, f14, f15, f16, f17, f18, ⟨gr_0_2, f19⟩, ⟨gr_0_3, f20⟩, f21, ⟨gr_0_40, f22⟩, ⟨gr_0_41, f23⟩, f24, f25⟩ := hI
  unfold b_ref36_Made_L1 at h
  replace h := itb h; rcases h with ⟨c2, h⟩ | ⟨c2, h⟩
  ·replace h := need h; obtain ⟨H2, h⟩ := h
   have zH2 := (cut_both H2)
   replace h := bsome h; obtain ⟨r1, H3, h⟩ := h
   have k1 := AtCall_all (s_ref36_Told_ok H3); try dsimp only at k1
   replace h := bsome h; obtain ⟨x1, H4, h⟩ := h
   try simp only [go_sem, c_ref36_With_l1, c_ref36_Made_l1, *, fn_ref22_Put, n_ref22_Put]
   refine E_ref22_Put_u5 r1 p0 0 ([] : List (List Int)) ([] : List (List Int)) r0.1.Vars s1.1 r0.1.Lits s1.2.1 p0 H4 (fun xs => ?_) ?_
   ·clear h
    simp only [go_sem, c_ref36_With_l1, c_ref36_Made_l1, *, fn_ref22_Put, n_ref22_Put]
   ·intro v τ hJ
    obtain ⟨rfl, f26, f27, ⟨gr_0_2, f28⟩, ⟨gr_0_3, f29⟩, f30, ⟨gr_0_40, f31⟩, ⟨gr_0_41, f32⟩, f33, f34⟩ := hJ
    cases h
    simp only [go_sem, LQ_inl, I_ref36_Made_L1, c_ref36_With_l1, c_ref36_Made_l1, *]
  ·cases h
   simp only [go_sem, LQ_inr, J_ref36_Made_L1, c_ref36_With_l1, c_ref36_Made_l1, *]
) h hI hQ
noncomputable def b_ref36_Made_L0 (p0 : S_Circuit) (p1 : Int) (r0 : S_Cnf × Int) (s0 : (List (List Int)) × Int) : Option (((List (List Int)) × Int) ⊕ ((List (List Int)))) :=
 if (decide (s0.2 ≤ p1)) = true then
  (idx r0.1.Lits s0.2).bind fun x0 =>
  (Lp (b_ref36_Made_L1 p0 r0 x0) (s0.1.length, s0.1, 0)).bind fun x1 =>
  some (Sum.inl (x1.2, (IntKind.wrap .i64 (s0.2 + 1))))
 else
  some (Sum.inr s0.1)
def I_ref36_Made_L0 (p0 : S_Circuit) (p1 : Int) (r0 : S_Cnf × Int) (s0 : (List (List Int)) × Int) (σ : St) : Prop := σ.get 1 = (.d true (.int .i64 p1)) ∧ σ.get 2 = (.ptr 0 0 0) ∧ σ.get 4 = (.ptr 0 1 0) ∧ σ.get 6 = (.ptr 0 4 0) ∧ σ.get 8 = (.d true (.int .i64 s0.2)) ∧ σ.obj 0 0 = oB0 p0 ∧ σ.obj 0 1 = oB4 (([] : List (List Int)).length) (([] : List (List Int)).length) ∧ (∃ gr_0_2, σ.obj 0 2 = some (.rw 1 (([] : List (List Int)).map (eL 1 eI)) gr_0_2)) ∧ (∃ gr_0_3, σ.obj 0 3 = some (.rw 1 (([] : List (List Int)).map (eL 1 eI)) gr_0_3)) ∧ σ.obj 0 4 = oB8 r0.1.Vars r0.1.Lits.length s0.1.length ∧ (∃ gr_0_40, σ.obj 0 40 = some (.rw 1 (r0.1.Lits.map (eL 1 eI)) gr_0_40)) ∧ (∃ gr_0_41, σ.obj 0 41 = some (.rw 1 (s0.1.map (eL 1 eI)) gr_0_41)) ∧ σ.up.length = 0
def J_ref36_Made_L0 (p0 : S_Circuit) (p1 : Int) (r0 : S_Cnf × Int) (r : (List (List Int))) (e : Ex) (σ' : St) : Prop := e = (.exit 0) ∧ σ'.get 1 = (.d true (.int .i64 p1)) ∧ σ'.get 2 = (.ptr 0 0 0) ∧ σ'.get 4 = (.ptr 0 1 0) ∧ σ'.get 6 = (.ptr 0 4 0) ∧ σ'.obj 0 0 = oB0 p0 ∧ σ'.obj 0 1 = oB4 (([] : List (List Int)).length) (([] : List (List Int)).length) ∧ (∃ gr_0_2, σ'.obj 0 2 = some (.rw 1 (([] : List (List Int)).map (eL 1 eI)) gr_0_2)) ∧ (∃ gr_0_3, σ'.obj 0 3 = some (.rw 1 (([] : List (List Int)).map (eL 1 eI)) gr_0_3)) ∧ σ'.obj 0 4 = oB8 r0.1.Vars r0.1.Lits.length r.length ∧ (∃ gr_0_40, σ'.obj 0 40 = some (.rw 1 (r0.1.Lits.map (eL 1 eI)) gr_0_40)) ∧ (∃ gr_0_41, σ'.obj 0 41 = some (.rw 1 (r.map (eL 1 eI)) gr_0_41)) ∧ σ'.up.length = 0
theorem L_ref36_Made_L0 (p0 : S_Circuit) (p1 : Int) (r0 : S_Cnf × Int) {s : (List (List Int)) × Int} {r : (List (List Int))} (h : Lp (b_ref36_Made_L0 p0 p1 r0) s = some r) {σ : St} {Q : Ex → St → Prop} (hI : I_ref36_Made_L0 p0 p1 r0 s σ) (hQ : ∀ e σ', J_ref36_Made_L0 p0 p1 r0 r e σ' → Q e σ') : WC env (.loop c_ref36_Made_l1) σ Q :=
 WC_Lp (I_ref36_Made_L0 p0 p1 r0) (J_ref36_Made_L0 p0 p1 r0) (by
  clear h hI hQ
  clear s r σ Q
  intro s0 σ x hI h
  obtain ⟨f0, f1, f2, f3, f4, f5, f6, ⟨gr_0_2, f7⟩, ⟨gr_0_3, f8⟩, f9, ⟨gr_0_40, f10⟩, ⟨gr_0_41, f11⟩, f12⟩ := hI
  unfold b_ref36_Made_L0 at h
  replace h := itb h; rcases h with ⟨c1, h⟩ | ⟨c1, h⟩
  ·replace h := bsome h; obtain ⟨x0, H1, h⟩ := h
   have n0 := idx_n H1; have q0 := idx_q H1; have y0 := idx_x H1
   replace h := bsome h; obtain ⟨x1, H2, h⟩ := h
   try simp only [go_sem, c_ref36_Made_l1, *]
   refine L_ref36_Made_L1 p0 r0 x0 H2 ?_ ?_
   ·clear h
    simp only [go_sem, I_ref36_Made_L1, c_ref36_Made_l1, *]
   ·intro e τ hJ
    obtain ⟨rfl, f13, f14, f15, ⟨gr_0_2, f16⟩, ⟨gr_0_3, f17⟩, f18, ⟨gr_0_40, f19⟩, ⟨gr_0_41, f20⟩, f21⟩ := hJ
    cases h
    simp only [go_sem, LQ_inl, I_ref36_Made_L0, c_ref36_Made_l1, *]
  ·cases h
   simp only [go_sem, LQ_inr, J_ref36_Made_L0, c_ref36_Made_l1, *]
) h hI hQ
noncomputable def w_ref22_Put_u6 (a0 : List Int) (a1 : Int) (a2 : List (List Int)) (a3 : List (List Int)) (a4 : Int) (a5 : List (List Int)) (a6 : List (List Int)) : Option (Nat × (List (List Int))) :=
 (s_ref13_Has a0 1).bind fun r0 =>
 if r0 = true then
  some (a6.length, a6)
 else
  (s_ref13_Without a0 0).bind fun r1 =>
  (s_ref13_Always r1).bind fun r2 =>
  if r2 = true then
   some (a6.length, a6)
  else
   (s_ref13_Sorted r1).bind fun r3 =>
   if a6.length + 1 ≤ big then
    some (a6.length, (a6 ++ ([r3] : List (List Int))))
   else none
theorem E_ref22_Put_u6 (a0 : List Int) (a1 : Int) (a2 : List (List Int)) (a3 : List (List Int)) (a4 : Int) (a5 : List (List Int)) (a6 : List (List Int)) {r : Nat × (List (List Int))} (h : w_ref22_Put_u6 a0 a1 a2 a3 a4 a5 a6 = some r) {up : List Lv} {K : V → St → Prop} (hI : ∀ xs, (St.ini xs up).obj 1 1 = oB5 a1 a2.length a3.length ∧ (∃ gr_0_2, (St.ini xs up).obj 1 2 = some (.rw 1 (a2.map (eL 1 eI)) gr_0_2)) ∧ (∃ gr_0_3, (St.ini xs up).obj 1 3 = some (.rw 1 (a3.map (eL 1 eI)) gr_0_3)) ∧ (St.ini xs up).obj 1 4 = oB8 a4 a5.length a6.length ∧ (∃ gr_0_40, (St.ini xs up).obj 1 40 = some (.rw 1 (a5.map (eL 1 eI)) gr_0_40)) ∧ (∃ gr_0_41, (St.ini xs up).obj 1 41 = some (.rw 1 (a6.map (eL 1 eI)) gr_0_41)) ∧ (St.ini xs up).obj 0 0 = none ∧ (St.ini xs up).obj 0 1 = none ∧ (St.ini xs up).up.length = 1)
  (hK : ∀ v σ', v = (.row 1 41 0 r.2.length 1) ∧ σ'.obj 1 1 = oB5 a1 a2.length a3.length ∧ (∃ gr_0_2, σ'.obj 1 2 = some (.rw 1 (a2.map (eL 1 eI)) gr_0_2)) ∧ (∃ gr_0_3, σ'.obj 1 3 = some (.rw 1 (a3.map (eL 1 eI)) gr_0_3)) ∧ σ'.obj 1 4 = oB8 a4 a5.length r.1 ∧ (∃ gr_0_40, σ'.obj 1 40 = some (.rw 1 (a5.map (eL 1 eI)) gr_0_40)) ∧ (∃ gr_0_41, σ'.obj 1 41 = some (.rw 1 (r.2.map (eL 1 eI)) gr_0_41)) ∧ σ'.up.length = 1 → K v σ') : AtFn env k_ref22_Put [(.row 1 41 0 a6.length 1), (.d true (.lst 1 (a0.map eI)))] up K := by
 obtain ⟨f0, ⟨gr_0_2, f1⟩, ⟨gr_0_3, f2⟩, f3, ⟨gr_0_40, f4⟩, ⟨gr_0_41, f5⟩, f6, f7, hup⟩ := hI [(.row 1 41 0 a6.length 1), (.d true (.lst 1 (a0.map eI)))]
 have hu : up.length = 1 := hup
 clear hI
 refine AtFn_mono ?_ hK
 clear hK
 unfold w_ref22_Put_u6 at h
 rw [AtF fn_ref22_Put]
 simp only [n_ref22_Put]
 replace h := bsome h; obtain ⟨r0, H0, h⟩ := h
 have k0 := AtCall_all (s_ref13_Has_ok H0); try dsimp only at k0
 replace h := itb h; rcases h with ⟨c0, h⟩ | ⟨c0, h⟩
 ·cases h
  simp only [go_sem, *]
 ·replace h := bsome h; obtain ⟨r1, H1, h⟩ := h
  have k1 := AtCall_all (s_ref13_Without_ok H1); try dsimp only at k1
  replace h := bsome h; obtain ⟨r2, H2, h⟩ := h
  have k2 := AtCall_all (s_ref13_Always_ok H2); try dsimp only at k2
  replace h := itb h; rcases h with ⟨c1, h⟩ | ⟨c1, h⟩
  ·cases h
   simp only [go_sem, *]
  ·replace h := bsome h; obtain ⟨r3, H3, h⟩ := h
   have k3 := AtCall_all (s_ref13_Sorted_ok H3); try dsimp only at k3
   replace h := need h; obtain ⟨H4, h⟩ := h
   cases h
   simp only [go_sem, *]
noncomputable def s_ref36_Made (p0 : S_Circuit) (p1 : Int) : Option (S_Cnf × Int) :=
 (s_ref23_Of p0 (IntKind.wrap .i64 (p1 + 1))).bind fun r0 =>
 if (r0.2 != 0) = true then
  some ((S_Cnf.mk 0 ([] : List (List Int)) ([] : List (List Int))), r0.2)
 else
  (Lp (b_ref36_Made_L0 p0 p1 r0) (r0.1.Clauses, 0)).bind fun x0 =>
  (idx r0.1.Lits p1).bind fun x1 =>
  (s_ref36_Told x1 p0.Bads).bind fun r1 =>
  (w_ref22_Put_u6 r1 0 ([] : List (List Int)) ([] : List (List Int)) r0.1.Vars r0.1.Lits x0).bind fun x2 =>
  if (decide ((x2.2.length : Int) > 20000)) = true then
   some ((S_Cnf.mk 0 ([] : List (List Int)) ([] : List (List Int))), 4)
  else
   some ((S_Cnf.mk r0.1.Vars r0.1.Lits x2.2), 0)
theorem s_ref36_Made_ok {p0 : S_Circuit} {p1 : Int} {r : S_Cnf × Int} (h : s_ref36_Made p0 p1 = some r) : Ans env k_ref36_Made [(.ag [(.d true (.int .i64 p0.Inputs)), (.d false (.lst 2 (p0.Latches.map eS_Latch))), (.d false (.lst 2 (p0.Ands.map eS_And))), (.d false (.lst 1 (p0.Bads.map eI))), (.d false (.lst 1 (p0.Constraints.map eI)))]), (.d true (.int .i64 p1))] (.tp [(.ag [(.d true (.int .i64 r.1.Vars)), (.d true (.lst 1 (r.1.Lits.map (eL 1 eI)))), (.d true (.lst 1 (r.1.Clauses.map (eL 1 eI))))]), (.d true (.int .i64 r.2))]) := by
 unfold s_ref36_Made at h
 unfold Ans
 rw [AtF fn_ref36_Made]
 simp only [n_ref36_Made]
 replace h := bsome h; obtain ⟨r0, H0, h⟩ := h
 have k0 := AtCallT_all (s_ref23_Of_tk H0); try dsimp only at k0
 replace h := itb h; rcases h with ⟨c0, h⟩ | ⟨c0, h⟩
 ·cases h
  simp only [go_sem, *]
  exact ⟨_, rfl⟩
 ·replace h := bsome h; obtain ⟨x0, H1, h⟩ := h
  try simp only [go_sem, *]
  refine L_ref36_Made_L0 p0 p1 r0 H1 ?_ ?_
  ·clear h
   simp only [go_sem, I_ref36_Made_L0, *]
  ·intro e τ hJ
   obtain ⟨rfl, f0, f1, f2, f3, f4, f5, ⟨gr_0_2, f6⟩, ⟨gr_0_3, f7⟩, f8, ⟨gr_0_40, f9⟩, ⟨gr_0_41, f10⟩, f11⟩ := hJ
   replace h := bsome h; obtain ⟨x1, H2, h⟩ := h
   have n0 := idx_n H2; have q0 := idx_q H2; have y0 := idx_x H2
   replace h := bsome h; obtain ⟨r1, H3, h⟩ := h
   have k1 := AtCall_all (s_ref36_Told_ok H3); try dsimp only at k1
   replace h := bsome h; obtain ⟨x2, H4, h⟩ := h
   try simp only [go_sem, *, fn_ref22_Put, n_ref22_Put]
   refine E_ref22_Put_u6 r1 0 ([] : List (List Int)) ([] : List (List Int)) r0.1.Vars r0.1.Lits x0 H4 (fun xs => ?_) ?_
   ·clear h
    simp only [go_sem, *, fn_ref22_Put, n_ref22_Put]
   ·intro v τ hJ
    obtain ⟨rfl, f12, ⟨gr_0_2, f13⟩, ⟨gr_0_3, f14⟩, f15, ⟨gr_0_40, f16⟩, ⟨gr_0_41, f17⟩, f18⟩ := hJ
    replace h := itb h; rcases h with ⟨c1, h⟩ | ⟨c1, h⟩
    ·cases h
     simp only [go_sem, *]
     exact ⟨_, rfl⟩
    ·cases h
     simp only [go_sem, *]
     exact ⟨_, rfl⟩
noncomputable def s_ref36_Clauses (p0 : S_Circuit) (p1 : Int) : Option (S_Cnf × Int) :=
 (s_ref36_asked p0 p1 0).bind fun r0 =>
 if (r0 != 0) = true then
  some ((S_Cnf.mk 0 ([] : List (List Int)) ([] : List (List Int))), r0)
 else
  (s_ref36_Made p0 p1).bind fun r1 =>
  some (r1.1, r1.2)
theorem s_ref36_Clauses_ok {p0 : S_Circuit} {p1 : Int} {r : S_Cnf × Int} (h : s_ref36_Clauses p0 p1 = some r) : Ans env k_ref36_Clauses [(.ag [(.d true (.int .i64 p0.Inputs)), (.d false (.lst 2 (p0.Latches.map eS_Latch))), (.d false (.lst 2 (p0.Ands.map eS_And))), (.d false (.lst 1 (p0.Bads.map eI))), (.d false (.lst 1 (p0.Constraints.map eI)))]), (.d true (.int .i64 p1))] (.tp [(.ag [(.d true (.int .i64 r.1.Vars)), (.d true (.lst 1 (r.1.Lits.map (eL 1 eI)))), (.d true (.lst 1 (r.1.Clauses.map (eL 1 eI))))]), (.d true (.int .i64 r.2))]) := by
 unfold s_ref36_Clauses at h
 unfold Ans
 rw [AtF fn_ref36_Clauses]
 simp only [n_ref36_Clauses]
 replace h := bsome h; obtain ⟨r0, H0, h⟩ := h
 have k0 := AtCall_all (s_ref36_asked_ok H0); try dsimp only at k0
 replace h := itb h; rcases h with ⟨c0, h⟩ | ⟨c0, h⟩
 ·cases h
  simp only [go_sem, *]
  exact ⟨_, rfl⟩
 ·replace h := bsome h; obtain ⟨r1, H1, h⟩ := h
  have k1 := AtCall_all (s_ref36_Made_ok H1); try dsimp only at k1
  cases h
  simp only [go_sem, *]
  exact ⟨_, rfl⟩
def b_ref13_Same_L0 (p0 : (List Int)) (p1 : (List Int)) (s0 : Int) : Option ((Int) ⊕ ((Unit) ⊕ (Unit))) :=
 if (decide (s0 < (p0.length : Int))) = true then
  (idx p0 s0).bind fun x0 =>
  (idx p1 s0).bind fun x1 =>
  if (x0 != x1) = true then
   some (Sum.inr (Sum.inr ()))
  else
   some (Sum.inl (IntKind.wrap .i64 (s0 + 1)))
 else
  some (Sum.inr (Sum.inl ()))
def I_ref13_Same_L0 (p0 : (List Int)) (p1 : (List Int)) (s0 : Int) (σ : St) : Prop := σ.get 0 = (.d false (.lst 1 (p0.map eI))) ∧ σ.get 1 = (.d false (.lst 1 (p1.map eI))) ∧ σ.get 5 = (.d true (.int .i64 s0)) ∧ σ.up.length = 0
def J_ref13_Same_L0 (p0 : (List Int)) (p1 : (List Int)) (r : (Unit) ⊕ (Unit)) (e : Ex) (σ' : St) : Prop := (Sum.elim (fun o0 => e = (.exit 0) ∧ σ'.up.length = 0) (fun o1 => e = .ret ∧ σ'.get 4 = (.d true (.bool false)) ∧ σ'.up.length = 0)) r
theorem L_ref13_Same_L0 (p0 : (List Int)) (p1 : (List Int)) {s : Int} {r : (Unit) ⊕ (Unit)} (h : Lp (b_ref13_Same_L0 p0 p1) s = some r) {σ : St} {Q : Ex → St → Prop} (hI : I_ref13_Same_L0 p0 p1 s σ) (hQ : ∀ e σ', J_ref13_Same_L0 p0 p1 r e σ' → Q e σ') : WC env (.loop c_ref13_Same_l1) σ Q :=
 WC_Lp (I_ref13_Same_L0 p0 p1) (J_ref13_Same_L0 p0 p1) (by
  clear h hI hQ
  clear s r σ Q
  intro s0 σ x hI h
  obtain ⟨f0, f1, f2, f3⟩ := hI
  unfold b_ref13_Same_L0 at h
  replace h := itb h; rcases h with ⟨c1, h⟩ | ⟨c1, h⟩
  ·replace h := bsome h; obtain ⟨x0, H0, h⟩ := h
   have n0 := idx_n H0; have q0 := idx_q H0; have y0 := idx_x H0
   replace h := bsome h; obtain ⟨x1, H1, h⟩ := h
   have n1 := idx_n H1; have q1 := idx_q H1; have y1 := idx_x H1
   replace h := itb h; rcases h with ⟨c2, h⟩ | ⟨c2, h⟩
   ·cases h
    simp only [go_sem, LQ_inr, J_ref13_Same_L0, c_ref13_Same_l1, *]
   ·cases h
    simp only [go_sem, LQ_inl, I_ref13_Same_L0, c_ref13_Same_l1, *]
  ·cases h
   simp only [go_sem, LQ_inr, J_ref13_Same_L0, c_ref13_Same_l1, *]
) h hI hQ
noncomputable def s_ref13_Same (p0 : (List Int)) (p1 : (List Int)) : Option (Bool) :=
 if ((p0.length : Int) != (p1.length : Int)) = true then
  some false
 else
  (Lp (b_ref13_Same_L0 p0 p1) 0).bind fun x0 =>
  match x0 with
  | .inl x0' =>
   some true
  | .inr x0' =>
   some false
theorem s_ref13_Same_ok {p0 : (List Int)} {p1 : (List Int)} {r : Bool} (h : s_ref13_Same p0 p1 = some r) : Ans env k_ref13_Same [(.d false (.lst 1 (p0.map eI))), (.d false (.lst 1 (p1.map eI)))] (.d true (.bool r)) := by
 unfold s_ref13_Same at h
 unfold Ans
 rw [AtF fn_ref13_Same]
 simp only [n_ref13_Same]
 replace h := itb h; rcases h with ⟨c0, h⟩ | ⟨c0, h⟩
 ·cases h
  simp only [go_sem, *]
  exact ⟨_, rfl⟩
 ·replace h := bsome h; obtain ⟨x0, H0, h⟩ := h
  try simp only [go_sem, *]
  refine L_ref13_Same_L0 p0 p1 H0 ?_ ?_
  ·clear h
   simp only [go_sem, I_ref13_Same_L0, *]
  ·intro e τ hJ
   rcases x0 with x0' | x0'
   ·obtain ⟨rfl, f0⟩ := hJ
    cases h
    simp only [go_sem, *]
    exact ⟨_, rfl⟩
   ·obtain ⟨rfl, f1, f2⟩ := hJ
    cases h
    simp only [go_sem, *]
    exact ⟨_, rfl⟩
noncomputable def b_ref13_SameAll_L0 (p0 : (List (List Int))) (p1 : (List (List Int))) (s0 : Int) : Option ((Int) ⊕ ((Unit) ⊕ (Unit))) :=
 if (decide (s0 < (p0.length : Int))) = true then
  (idx p0 s0).bind fun x0 =>
  (idx p1 s0).bind fun x1 =>
  (s_ref13_Same x0 x1).bind fun r0 =>
  if r0 = true then
   some (Sum.inl (IntKind.wrap .i64 (s0 + 1)))
  else
   some (Sum.inr (Sum.inr ()))
 else
  some (Sum.inr (Sum.inl ()))
def I_ref13_SameAll_L0 (p0 : (List (List Int))) (p1 : (List (List Int))) (s0 : Int) (σ : St) : Prop := σ.get 0 = (.d false (.lst 1 (p0.map (eL 1 eI)))) ∧ σ.get 1 = (.d false (.lst 1 (p1.map (eL 1 eI)))) ∧ σ.get 5 = (.d true (.int .i64 s0)) ∧ σ.up.length = 0
def J_ref13_SameAll_L0 (p0 : (List (List Int))) (p1 : (List (List Int))) (r : (Unit) ⊕ (Unit)) (e : Ex) (σ' : St) : Prop := (Sum.elim (fun o0 => e = (.exit 0) ∧ σ'.up.length = 0) (fun o1 => e = .ret ∧ σ'.get 4 = (.d true (.bool false)) ∧ σ'.up.length = 0)) r
theorem L_ref13_SameAll_L0 (p0 : (List (List Int))) (p1 : (List (List Int))) {s : Int} {r : (Unit) ⊕ (Unit)} (h : Lp (b_ref13_SameAll_L0 p0 p1) s = some r) {σ : St} {Q : Ex → St → Prop} (hI : I_ref13_SameAll_L0 p0 p1 s σ) (hQ : ∀ e σ', J_ref13_SameAll_L0 p0 p1 r e σ' → Q e σ') : WC env (.loop c_ref13_SameAll_l1) σ Q :=
 WC_Lp (I_ref13_SameAll_L0 p0 p1) (J_ref13_SameAll_L0 p0 p1) (by
  clear h hI hQ
  clear s r σ Q
  intro s0 σ x hI h
  obtain ⟨f0, f1, f2, f3⟩ := hI
  unfold b_ref13_SameAll_L0 at h
  replace h := itb h; rcases h with ⟨c1, h⟩ | ⟨c1, h⟩
  ·replace h := bsome h; obtain ⟨x0, H0, h⟩ := h
   have n0 := idx_n H0; have q0 := idx_q H0; have y0 := idx_x H0
   replace h := bsome h; obtain ⟨x1, H1, h⟩ := h
   have n1 := idx_n H1; have q1 := idx_q H1; have y1 := idx_x H1
   replace h := bsome h; obtain ⟨r0, H2, h⟩ := h
   have k0 := AtCall_all (s_ref13_Same_ok H2); try dsimp only at k0
   replace h := itb h; rcases h with ⟨c2, h⟩ | ⟨c2, h⟩
   ·cases h
    simp only [go_sem, LQ_inl, I_ref13_SameAll_L0, c_ref13_SameAll_l1, *]
   ·cases h
    simp only [go_sem, LQ_inr, J_ref13_SameAll_L0, c_ref13_SameAll_l1, *]
  ·cases h
   simp only [go_sem, LQ_inr, J_ref13_SameAll_L0, c_ref13_SameAll_l1, *]
) h hI hQ
noncomputable def s_ref13_SameAll (p0 : (List (List Int))) (p1 : (List (List Int))) : Option (Bool) :=
 if ((p0.length : Int) != (p1.length : Int)) = true then
  some false
 else
  (Lp (b_ref13_SameAll_L0 p0 p1) 0).bind fun x0 =>
  match x0 with
  | .inl x0' =>
   some true
  | .inr x0' =>
   some false
theorem s_ref13_SameAll_ok {p0 : (List (List Int))} {p1 : (List (List Int))} {r : Bool} (h : s_ref13_SameAll p0 p1 = some r) : Ans env k_ref13_SameAll [(.d false (.lst 1 (p0.map (eL 1 eI)))), (.d false (.lst 1 (p1.map (eL 1 eI))))] (.d true (.bool r)) := by
 unfold s_ref13_SameAll at h
 unfold Ans
 rw [AtF fn_ref13_SameAll]
 simp only [n_ref13_SameAll]
 replace h := itb h; rcases h with ⟨c0, h⟩ | ⟨c0, h⟩
 ·cases h
  simp only [go_sem, *]
  exact ⟨_, rfl⟩
 ·replace h := bsome h; obtain ⟨x0, H0, h⟩ := h
  try simp only [go_sem, *]
  refine L_ref13_SameAll_L0 p0 p1 H0 ?_ ?_
  ·clear h
   simp only [go_sem, I_ref13_SameAll_L0, *]
  ·intro e τ hJ
   rcases x0 with x0' | x0'
   ·obtain ⟨rfl, f0⟩ := hJ
    cases h
    simp only [go_sem, *]
    exact ⟨_, rfl⟩
   ·obtain ⟨rfl, f1, f2⟩ := hJ
    cases h
    simp only [go_sem, *]
    exact ⟨_, rfl⟩
noncomputable def s_ref22_Same (p0 : S_Cnf) (p1 : S_Cnf) : Option (Bool) :=
 (if (p0.Vars == p1.Vars) = true then
   (s_ref13_SameAll p0.Lits p1.Lits).bind fun r0 =>
   if r0 = true then
    (s_ref13_SameAll p0.Clauses p1.Clauses).bind fun r1 =>
    some r1
   else
    some false
  else
   some false).bind fun x0 =>
 some x0
theorem s_ref22_Same_ok {p0 : S_Cnf} {p1 : S_Cnf} {r : Bool} (h : s_ref22_Same p0 p1 = some r) : Ans env k_ref22_Same [(.ag [(.d true (.int .i64 p0.Vars)), (.d false (.lst 1 (p0.Lits.map (eL 1 eI)))), (.d false (.lst 1 (p0.Clauses.map (eL 1 eI))))]), (.ag [(.d true (.int .i64 p1.Vars)), (.d false (.lst 1 (p1.Lits.map (eL 1 eI)))), (.d false (.lst 1 (p1.Clauses.map (eL 1 eI))))])] (.d true (.bool r)) := by
 unfold s_ref22_Same at h
 unfold Ans
 rw [AtF fn_ref22_Same]
 simp only [n_ref22_Same]
 replace h := bsome h; obtain ⟨x0, H0, h⟩ := h
 try simp only [go_sem, *]
 refine WC.mono (Q := fun e σ' => e = .normal ∧ σ'.get 4 = (.d true (.bool x0)) ∧ σ'.up.length = 0) ?_ ?_
 ·replace h := H0
  clear H0
  replace h := itb h; rcases h with ⟨c0, h⟩ | ⟨c0, h⟩
  ·replace h := bsome h; obtain ⟨r0, H1, h⟩ := h
   have k0 := AtCall_all (s_ref13_SameAll_ok H1); try dsimp only at k0
   replace h := itb h; rcases h with ⟨c1, h⟩ | ⟨c1, h⟩
   ·replace h := bsome h; obtain ⟨r1, H2, h⟩ := h
    have k1 := AtCall_all (s_ref13_SameAll_ok H2); try dsimp only at k1
    cases h
    simp only [go_sem, c_ref22_Same_p1, *]
   ·cases h
    simp only [go_sem, c_ref22_Same_p1, *]
  ·cases h
   simp only [go_sem, c_ref22_Same_p1, *]
 ·intro e τ hJ
  obtain ⟨rfl, f0, f1⟩ := hJ
  cases h
  simp only [go_sem, *]
  exact ⟨_, rfl⟩
def b_ref02_SameInts_L0 (p0 : (List Int)) (p1 : (List Int)) (s0 : Int) : Option ((Int) ⊕ ((Unit) ⊕ (Unit))) :=
 if (decide (s0 < (p0.length : Int))) = true then
  (idx p0 s0).bind fun x0 =>
  (idx p1 s0).bind fun x1 =>
  if (x0 != x1) = true then
   some (Sum.inr (Sum.inr ()))
  else
   some (Sum.inl (IntKind.wrap .i64 (s0 + 1)))
 else
  some (Sum.inr (Sum.inl ()))
def I_ref02_SameInts_L0 (p0 : (List Int)) (p1 : (List Int)) (s0 : Int) (σ : St) : Prop := σ.get 0 = (.d false (.lst 1 (p0.map eI))) ∧ σ.get 1 = (.d false (.lst 1 (p1.map eI))) ∧ σ.get 5 = (.d true (.int .i64 s0)) ∧ σ.up.length = 0
def J_ref02_SameInts_L0 (p0 : (List Int)) (p1 : (List Int)) (r : (Unit) ⊕ (Unit)) (e : Ex) (σ' : St) : Prop := (Sum.elim (fun o0 => e = (.exit 0) ∧ σ'.up.length = 0) (fun o1 => e = .ret ∧ σ'.get 4 = (.d true (.bool false)) ∧ σ'.up.length = 0)) r
theorem L_ref02_SameInts_L0 (p0 : (List Int)) (p1 : (List Int)) {s : Int} {r : (Unit) ⊕ (Unit)} (h : Lp (b_ref02_SameInts_L0 p0 p1) s = some r) {σ : St} {Q : Ex → St → Prop} (hI : I_ref02_SameInts_L0 p0 p1 s σ) (hQ : ∀ e σ', J_ref02_SameInts_L0 p0 p1 r e σ' → Q e σ') : WC env (.loop c_ref02_SameInts_l1) σ Q :=
 WC_Lp (I_ref02_SameInts_L0 p0 p1) (J_ref02_SameInts_L0 p0 p1) (by
  clear h hI hQ
  clear s r σ Q
  intro s0 σ x hI h
  obtain ⟨f0, f1, f2, f3⟩ := hI
  unfold b_ref02_SameInts_L0 at h
  replace h := itb h; rcases h with ⟨c1, h⟩ | ⟨c1, h⟩
  ·replace h := bsome h; obtain ⟨x0, H0, h⟩ := h
   have n0 := idx_n H0; have q0 := idx_q H0; have y0 := idx_x H0
   replace h := bsome h; obtain ⟨x1, H1, h⟩ := h
   have n1 := idx_n H1; have q1 := idx_q H1; have y1 := idx_x H1
   replace h := itb h; rcases h with ⟨c2, h⟩ | ⟨c2, h⟩
   ·cases h
    simp only [go_sem, LQ_inr, J_ref02_SameInts_L0, c_ref02_SameInts_l1, *]
   ·cases h
    simp only [go_sem, LQ_inl, I_ref02_SameInts_L0, c_ref02_SameInts_l1, *]
  ·cases h
   simp only [go_sem, LQ_inr, J_ref02_SameInts_L0, c_ref02_SameInts_l1, *]
) h hI hQ
noncomputable def s_ref02_SameInts (p0 : (List Int)) (p1 : (List Int)) : Option (Bool) :=
 if ((p0.length : Int) != (p1.length : Int)) = true then
  some false
 else
  (Lp (b_ref02_SameInts_L0 p0 p1) 0).bind fun x0 =>
  match x0 with
  | .inl x0' =>
   some true
  | .inr x0' =>
   some false
theorem s_ref02_SameInts_ok {p0 : (List Int)} {p1 : (List Int)} {r : Bool} (h : s_ref02_SameInts p0 p1 = some r) : Ans env k_ref02_SameInts [(.d false (.lst 1 (p0.map eI))), (.d false (.lst 1 (p1.map eI)))] (.d true (.bool r)) := by
 unfold s_ref02_SameInts at h
 unfold Ans
 rw [AtF fn_ref02_SameInts]
 simp only [n_ref02_SameInts]
 replace h := itb h; rcases h with ⟨c0, h⟩ | ⟨c0, h⟩
 ·cases h
  simp only [go_sem, *]
  exact ⟨_, rfl⟩
 ·replace h := bsome h; obtain ⟨x0, H0, h⟩ := h
  try simp only [go_sem, *]
  refine L_ref02_SameInts_L0 p0 p1 H0 ?_ ?_
  ·clear h
   simp only [go_sem, I_ref02_SameInts_L0, *]
  ·intro e τ hJ
   rcases x0 with x0' | x0'
   ·obtain ⟨rfl, f0⟩ := hJ
    cases h
    simp only [go_sem, *]
    exact ⟨_, rfl⟩
   ·obtain ⟨rfl, f1, f2⟩ := hJ
    cases h
    simp only [go_sem, *]
    exact ⟨_, rfl⟩
def b_ref02_Same_L0 (p0 : S_Circuit) (p1 : S_Circuit) (s0 : Int) : Option ((Int) ⊕ ((Unit) ⊕ (Unit))) :=
 if (decide (s0 < (p0.Latches.length : Int))) = true then
  ((idx p0.Latches s0).bind fun x2 =>
   (idx p1.Latches s0).bind fun x3 =>
   if (x2.Next == x3.Next) = true then
    if (x2.Reset == x3.Reset) = true then
     some false
    else
     some true
   else
    some true).bind fun x1 =>
  if x1 = true then
   some (Sum.inr (Sum.inr ()))
  else
   some (Sum.inl (IntKind.wrap .i64 (s0 + 1)))
 else
  some (Sum.inr (Sum.inl ()))
def I_ref02_Same_L0 (p0 : S_Circuit) (p1 : S_Circuit) (s0 : Int) (σ : St) : Prop := σ.get 2 = (.ptr 0 0 0) ∧ σ.get 3 = (.ptr 0 1 0) ∧ σ.get 5 = (.d true (.int .i64 s0)) ∧ σ.obj 0 0 = oB0 p0 ∧ σ.obj 0 1 = oB0 p1 ∧ σ.up.length = 0
def J_ref02_Same_L0 (p0 : S_Circuit) (p1 : S_Circuit) (r : (Unit) ⊕ (Unit)) (e : Ex) (σ' : St) : Prop := (Sum.elim (fun o0 => e = (.exit 0) ∧ σ'.get 2 = (.ptr 0 0 0) ∧ σ'.get 3 = (.ptr 0 1 0) ∧ σ'.obj 0 0 = oB0 p0 ∧ σ'.obj 0 1 = oB0 p1 ∧ σ'.up.length = 0) (fun o1 => e = .ret ∧ σ'.get 4 = (.d true (.bool false)) ∧ σ'.up.length = 0)) r
theorem L_ref02_Same_L0 (p0 : S_Circuit) (p1 : S_Circuit) {s : Int} {r : (Unit) ⊕ (Unit)} (h : Lp (b_ref02_Same_L0 p0 p1) s = some r) {σ : St} {Q : Ex → St → Prop} (hI : I_ref02_Same_L0 p0 p1 s σ) (hQ : ∀ e σ', J_ref02_Same_L0 p0 p1 r e σ' → Q e σ') : WC env (.loop c_ref02_Same_l1) σ Q :=
 WC_Lp (I_ref02_Same_L0 p0 p1) (J_ref02_Same_L0 p0 p1) (by
  clear h hI hQ
  clear s r σ Q
  intro s0 σ x hI h
  obtain ⟨f6, f7, f8, f9, f10, f11⟩ := hI
  unfold b_ref02_Same_L0 at h
  replace h := itb h; rcases h with ⟨c5, h⟩ | ⟨c5, h⟩
  ·replace h := bsome h; obtain ⟨x1, H3, h⟩ := h
   try simp only [go_sem, c_ref02_Same_l1, *]
   refine WC.mono (Q := fun e σ' => e = .normal ∧ σ'.get 2 = (.ptr 0 0 0) ∧ σ'.get 3 = (.ptr 0 1 0) ∧ σ'.get 5 = (.d true (.int .i64 s0)) ∧ σ'.get 63 = (.d true (.bool x1)) ∧ σ'.obj 0 0 = oB0 p0 ∧ σ'.obj 0 1 = oB0 p1 ∧ σ'.up.length = 0) ?_ ?_
   ·replace h := H3
    clear H3
    replace h := bsome h; obtain ⟨x2, H4, h⟩ := h
    have n0 := idx_n H4; have q0 := idx_q H4; have y0 := idx_x H4
    replace h := bsome h; obtain ⟨x3, H5, h⟩ := h
    have n1 := idx_n H5; have q1 := idx_q H5; have y1 := idx_x H5
    replace h := itb h; rcases h with ⟨c6, h⟩ | ⟨c6, h⟩
    ·replace h := itb h; rcases h with ⟨c7, h⟩ | ⟨c7, h⟩
     ·cases h
      simp only [go_sem, c_ref02_Same_l1, c_ref02_Same_p2, *]
     ·cases h
      simp only [go_sem, c_ref02_Same_l1, c_ref02_Same_p2, *]
    ·cases h
     simp only [go_sem, c_ref02_Same_l1, c_ref02_Same_p2, *]
   ·intro e τ hJ
    obtain ⟨rfl, f12, f13, f14, f15, f16, f17, f18⟩ := hJ
    replace h := itb h; rcases h with ⟨c8, h⟩ | ⟨c8, h⟩
    ·cases h
     simp only [go_sem, LQ_inr, J_ref02_Same_L0, c_ref02_Same_l1, *]
    ·cases h
     simp only [go_sem, LQ_inl, I_ref02_Same_L0, c_ref02_Same_l1, *]
  ·cases h
   simp only [go_sem, LQ_inr, J_ref02_Same_L0, c_ref02_Same_l1, *]
) h hI hQ
def b_ref02_Same_L1 (p0 : S_Circuit) (p1 : S_Circuit) (s1 : Int) : Option ((Int) ⊕ ((Unit) ⊕ (Unit))) :=
 if (decide (s1 < (p0.Ands.length : Int))) = true then
  ((idx p0.Ands s1).bind fun x3 =>
   (idx p1.Ands s1).bind fun x4 =>
   if (x3.A == x4.A) = true then
    if (x3.B == x4.B) = true then
     some false
    else
     some true
   else
    some true).bind fun x2 =>
  if x2 = true then
   some (Sum.inr (Sum.inr ()))
  else
   some (Sum.inl (IntKind.wrap .i64 (s1 + 1)))
 else
  some (Sum.inr (Sum.inl ()))
def I_ref02_Same_L1 (p0 : S_Circuit) (p1 : S_Circuit) (s1 : Int) (σ : St) : Prop := σ.get 2 = (.ptr 0 0 0) ∧ σ.get 3 = (.ptr 0 1 0) ∧ σ.get 6 = (.d true (.int .i64 s1)) ∧ σ.obj 0 0 = oB0 p0 ∧ σ.obj 0 1 = oB0 p1 ∧ σ.up.length = 0
def J_ref02_Same_L1 (p0 : S_Circuit) (p1 : S_Circuit) (r : (Unit) ⊕ (Unit)) (e : Ex) (σ' : St) : Prop := (Sum.elim (fun o0 => e = (.exit 2) ∧ σ'.up.length = 0) (fun o1 => e = .ret ∧ σ'.get 4 = (.d true (.bool false)) ∧ σ'.up.length = 0)) r
theorem L_ref02_Same_L1 (p0 : S_Circuit) (p1 : S_Circuit) {s : Int} {r : (Unit) ⊕ (Unit)} (h : Lp (b_ref02_Same_L1 p0 p1) s = some r) {σ : St} {Q : Ex → St → Prop} (hI : I_ref02_Same_L1 p0 p1 s σ) (hQ : ∀ e σ', J_ref02_Same_L1 p0 p1 r e σ' → Q e σ') : WC env (.loop c_ref02_Same_l2) σ Q :=
 WC_Lp (I_ref02_Same_L1 p0 p1) (J_ref02_Same_L1 p0 p1) (by
  clear h hI hQ
  clear s r σ Q
  intro s1 σ x hI h
  obtain ⟨f11, f12, f13, f14, f15, f16⟩ := hI
  unfold b_ref02_Same_L1 at h
  replace h := itb h; rcases h with ⟨c5, h⟩ | ⟨c5, h⟩
  ·replace h := bsome h; obtain ⟨x2, H4, h⟩ := h
   try simp only [go_sem, c_ref02_Same_l2, *]
   refine WC.mono (Q := fun e σ' => e = .normal ∧ σ'.get 2 = (.ptr 0 0 0) ∧ σ'.get 3 = (.ptr 0 1 0) ∧ σ'.get 6 = (.d true (.int .i64 s1)) ∧ σ'.get 81 = (.d true (.bool x2)) ∧ σ'.obj 0 0 = oB0 p0 ∧ σ'.obj 0 1 = oB0 p1 ∧ σ'.up.length = 0) ?_ ?_
   ·replace h := H4
    clear H4
    replace h := bsome h; obtain ⟨x3, H5, h⟩ := h
    have n0 := idx_n H5; have q0 := idx_q H5; have y0 := idx_x H5
    replace h := bsome h; obtain ⟨x4, H6, h⟩ := h
    have n1 := idx_n H6; have q1 := idx_q H6; have y1 := idx_x H6
    replace h := itb h; rcases h with ⟨c6, h⟩ | ⟨c6, h⟩
    ·replace h := itb h; rcases h with ⟨c7, h⟩ | ⟨c7, h⟩
     ·cases h
      simp only [go_sem, c_ref02_Same_l2, c_ref02_Same_p3, *]
     ·cases h
      simp only [go_sem, c_ref02_Same_l2, c_ref02_Same_p3, *]
    ·cases h
     simp only [go_sem, c_ref02_Same_l2, c_ref02_Same_p3, *]
   ·intro e τ hJ
    obtain ⟨rfl, f17, f18, f19, f20, f21, f22, f23⟩ := hJ
    replace h := itb h; rcases h with ⟨c8, h⟩ | ⟨c8, h⟩
    ·cases h
     simp only [go_sem, LQ_inr, J_ref02_Same_L1, c_ref02_Same_l2, *]
    ·cases h
     simp only [go_sem, LQ_inl, I_ref02_Same_L1, c_ref02_Same_l2, *]
  ·cases h
   simp only [go_sem, LQ_inr, J_ref02_Same_L1, c_ref02_Same_l2, *]
) h hI hQ
noncomputable def s_ref02_Same (p0 : S_Circuit) (p1 : S_Circuit) : Option (Bool) :=
 (if (p0.Inputs != p1.Inputs) = true then
   some true
  else
   if ((p0.Latches.length : Int) != (p1.Latches.length : Int)) = true then
    some true
   else
    if ((p0.Ands.length : Int) != (p1.Ands.length : Int)) = true then
     some true
    else
     (s_ref02_SameInts p0.Bads p1.Bads).bind fun r0 =>
     if r0 = true then
      (s_ref02_SameInts p0.Constraints p1.Constraints).bind fun r1 =>
      some (!r1)
     else
      some true).bind fun x0 =>
 if x0 = true then
  some false
 else
  (Lp (b_ref02_Same_L0 p0 p1) 0).bind fun x1 =>
  match x1 with
  | .inl x1' =>
   (Lp (b_ref02_Same_L1 p0 p1) 0).bind fun x2 =>
   match x2 with
   | .inl x2' =>
    some true
   | .inr x2' =>
    some false
  | .inr x1' =>
   some false
theorem s_ref02_Same_ok {p0 : S_Circuit} {p1 : S_Circuit} {r : Bool} (h : s_ref02_Same p0 p1 = some r) : Ans env k_ref02_Same [(.ag [(.d true (.int .i64 p0.Inputs)), (.d false (.lst 2 (p0.Latches.map eS_Latch))), (.d false (.lst 2 (p0.Ands.map eS_And))), (.d false (.lst 1 (p0.Bads.map eI))), (.d false (.lst 1 (p0.Constraints.map eI)))]), (.ag [(.d true (.int .i64 p1.Inputs)), (.d false (.lst 2 (p1.Latches.map eS_Latch))), (.d false (.lst 2 (p1.Ands.map eS_And))), (.d false (.lst 1 (p1.Bads.map eI))), (.d false (.lst 1 (p1.Constraints.map eI)))])] (.d true (.bool r)) := by
 unfold s_ref02_Same at h
 unfold Ans
 rw [AtF fn_ref02_Same]
 simp only [n_ref02_Same]
 replace h := bsome h; obtain ⟨x0, H0, h⟩ := h
 try simp only [go_sem, *]
 refine WC.mono (Q := fun e σ' => e = .normal ∧ σ'.get 2 = (.ptr 0 0 0) ∧ σ'.get 3 = (.ptr 0 1 0) ∧ σ'.get 45 = (.d true (.bool x0)) ∧ σ'.obj 0 0 = oB0 p0 ∧ σ'.obj 0 1 = oB0 p1 ∧ σ'.up.length = 0) ?_ ?_
 ·replace h := H0
  clear H0
  replace h := itb h; rcases h with ⟨c0, h⟩ | ⟨c0, h⟩
  ·cases h
   simp only [go_sem, c_ref02_Same_p1, *]
  ·replace h := itb h; rcases h with ⟨c1, h⟩ | ⟨c1, h⟩
   ·cases h
    simp only [go_sem, c_ref02_Same_p1, *]
   ·replace h := itb h; rcases h with ⟨c2, h⟩ | ⟨c2, h⟩
    ·cases h
     simp only [go_sem, c_ref02_Same_p1, *]
    ·replace h := bsome h; obtain ⟨r0, H1, h⟩ := h
     have k0 := AtCall_all (s_ref02_SameInts_ok H1); try dsimp only at k0
     replace h := itb h; rcases h with ⟨c3, h⟩ | ⟨c3, h⟩
     ·replace h := bsome h; obtain ⟨r1, H2, h⟩ := h
      have k1 := AtCall_all (s_ref02_SameInts_ok H2); try dsimp only at k1
      cases h
      simp only [go_sem, c_ref02_Same_p1, *]
     ·cases h
      simp only [go_sem, c_ref02_Same_p1, *]
 ·intro e τ hJ
  obtain ⟨rfl, f0, f1, f2, f3, f4, f5⟩ := hJ
  replace h := itb h; rcases h with ⟨c4, h⟩ | ⟨c4, h⟩
  ·cases h
   simp only [go_sem, *]
   exact ⟨_, rfl⟩
  ·replace h := bsome h; obtain ⟨x1, H3, h⟩ := h
   try simp only [go_sem, *]
   refine L_ref02_Same_L0 p0 p1 H3 ?_ ?_
   ·clear h
    simp only [go_sem, I_ref02_Same_L0, *]
   ·intro e τ hJ
    rcases x1 with x1' | x1'
    ·obtain ⟨rfl, f6, f7, f8, f9, f10⟩ := hJ
     replace h := bsome h; obtain ⟨x2, H4, h⟩ := h
     try simp only [go_sem, *]
     refine L_ref02_Same_L1 p0 p1 H4 ?_ ?_
     ·clear h
      simp only [go_sem, I_ref02_Same_L1, *]
     ·intro e τ hJ
      rcases x2 with x2' | x2'
      ·obtain ⟨rfl, f11⟩ := hJ
       cases h
       simp only [go_sem, *]
       exact ⟨_, rfl⟩
      ·obtain ⟨rfl, f12, f13⟩ := hJ
       cases h
       simp only [go_sem, *]
       exact ⟨_, rfl⟩
    ·obtain ⟨rfl, f14, f15⟩ := hJ
     cases h
     simp only [go_sem, *]
     exact ⟨_, rfl⟩
noncomputable def s_law36_BmcClauses (p0 : S_Circuit) (p1 : Int) : Option (Bool) :=
 ((s_ref36_Great p0).bind fun r0 =>
  if r0 = true then
   some true
  else
   if (decide (p1 > 5)) = true then
    some (decide (p1 < 100))
   else
    some false).bind fun x0 =>
 if x0 = true then
  some true
 else
  (s_ref02_Twin p0).bind fun r1 =>
  (s_bmc_Clauses r1 p1).bind fun r2 =>
  (s_ref36_Clauses p0 p1).bind fun r3 =>
  ((s_ref22_Same r2.1 r3.1).bind fun r4 =>
   if r4 = true then
    if (r2.2 == r3.2) = true then
     (s_ref02_Same r1 p0).bind fun r5 =>
     some r5
    else
     some false
   else
    some false).bind fun x1 =>
  some x1
theorem s_law36_BmcClauses_ok {p0 : S_Circuit} {p1 : Int} {r : Bool} (h : s_law36_BmcClauses p0 p1 = some r) : AnsL env k_law36_BmcClauses [(.ag [(.d true (.int .i64 p0.Inputs)), (.d true (.lst 2 (p0.Latches.map eS_Latch))), (.d true (.lst 2 (p0.Ands.map eS_And))), (.d true (.lst 1 (p0.Bads.map eI))), (.d true (.lst 1 (p0.Constraints.map eI)))]), (.d true (.int .i64 p1))] (.d true (.bool r)) := by
 unfold s_law36_BmcClauses at h
 unfold AnsL
 rw [AtF fn_law36_BmcClauses]
 simp only [n_law36_BmcClauses]
 replace h := bsome h; obtain ⟨x0, H0, h⟩ := h
 try simp only [go_sem, *]
 refine WC.mono (Q := fun e σ' => e = .normal ∧ σ'.get 1 = (.d true (.int .i64 p1)) ∧ σ'.get 2 = (.ptr 0 0 0) ∧ σ'.get 19 = (.d true (.bool x0)) ∧ σ'.obj 0 0 = oB1 p0 ∧ σ'.obj 0 1 = none ∧ σ'.obj 0 2 = none ∧ σ'.obj 0 3 = none ∧ σ'.up.length = 0) ?_ ?_
 ·replace h := H0
  clear H0
  replace h := bsome h; obtain ⟨r0, H1, h⟩ := h
  have k0 := AtCall_all (s_ref36_Great_ok H1); try dsimp only at k0
  replace h := itb h; rcases h with ⟨c0, h⟩ | ⟨c0, h⟩
  ·cases h
   simp only [go_sem, c_law36_BmcClauses_p1, *]
  ·replace h := itb h; rcases h with ⟨c1, h⟩ | ⟨c1, h⟩
   ·cases h
    simp only [go_sem, c_law36_BmcClauses_p1, *]
   ·cases h
    simp only [go_sem, c_law36_BmcClauses_p1, *]
 ·intro e τ hJ
  obtain ⟨rfl, f0, f1, f2, f3, f4, f5, f6, f7⟩ := hJ
  replace h := itb h; rcases h with ⟨c2, h⟩ | ⟨c2, h⟩
  ·cases h
   simp only [go_sem, KLaw, *]
  ·replace h := bsome h; obtain ⟨r1, H2, h⟩ := h
   have k1 := AtCall_all (s_ref02_Twin_ok H2); try dsimp only at k1
   replace h := bsome h; obtain ⟨r2, H3, h⟩ := h
   have k2 := AtCall_all (s_bmc_Clauses_ok H3); try dsimp only at k2
   replace h := bsome h; obtain ⟨r3, H4, h⟩ := h
   have k3 := AtCall_all (s_ref36_Clauses_ok H4); try dsimp only at k3
   replace h := bsome h; obtain ⟨x1, H5, h⟩ := h
   try simp only [go_sem, *]
   refine WC.mono (Q := fun e σ' => e = .normal ∧ σ'.get 4 = (.d true (.bool x1)) ∧ σ'.up.length = 0) ?_ ?_
   ·replace h := H5
    clear H5
    replace h := bsome h; obtain ⟨r4, H6, h⟩ := h
    have k4 := AtCall_all (s_ref22_Same_ok H6); try dsimp only at k4
    replace h := itb h; rcases h with ⟨c3, h⟩ | ⟨c3, h⟩
    ·replace h := itb h; rcases h with ⟨c4, h⟩ | ⟨c4, h⟩
     ·replace h := bsome h; obtain ⟨r5, H7, h⟩ := h
      have k5 := AtCall_all (s_ref02_Same_ok H7); try dsimp only at k5
      cases h
      simp only [go_sem, c_law36_BmcClauses_p2, *]
     ·cases h
      simp only [go_sem, c_law36_BmcClauses_p2, *]
    ·cases h
     simp only [go_sem, c_law36_BmcClauses_p2, *]
   ·intro e τ hJ
    obtain ⟨rfl, f8, f9⟩ := hJ
    cases h
    simp only [go_sem, KLaw, *]
end Go.Proofs.Ytbmhmfcjjhjkgaa.Vm
