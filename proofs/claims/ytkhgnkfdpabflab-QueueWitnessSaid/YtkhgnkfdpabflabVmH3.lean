/- Walks over the code of functions. Printed. -/
import Derived.Test.YtkhgnkfdpabflabVmH2
namespace Go.Proofs.Ytkhgnkfdpabflab.Vm
open Go
set_option linter.unusedSimpArgs false
set_option linter.unusedVariables false
set_option maxRecDepth 4000
set_option maxHeartbeats 4000000
attribute [local go_sem] WC_skip WC_exit WC_ret WC_seq WC_block WC_cond WC_rg KSeq_normal KSeq_ret KSeq_exit KBlock_normal KBlock_ret KBlock_exit KN_eq KRg_eq KSt_eq KSet_eq KLen_eq KPick_eq KG_eq KCond_eq boolP_d biteC_true biteC_false biteO_true biteO_false WO_nil WO_mv WO_nilr WO_pick WO_bin WO_beq WO_eqs WO_un WO_cvt WO_alloc WO_box WO_load WO_store WO_fad WO_fval WO_ix WO_ixb WO_ixa WO_bld WO_bsl WO_mks WO_slc WO_len WO_mx WO_mn WO_app WO_cpy WO_clr WO_xt WO_fn WO_chk WO_g
 WO_call WO_callv callK KHand KCallv KRes KBack_ret KRet_eq KAns env_fn St.hand St.lend St.lends St.lend1 St.vals St.frz fr1_obj fr1_get fr1_upl frO_rw frO_fz frO_none St.rowOf List.foldl_nil List.foldl_cons List.map_cons List.map_nil
 optP_some optP_none
 St.get_set St.obj_set St.get_setObj St.obj_setObj St.get_kill St.obj_kill0 St.obj_killS St.get_ini St.obj_ini0 gt_nil gt_zero gt_succ St.val_t St.val_c
 stl_get stl_obj0 stl_objS stl_upl stv_d stv_dx stv_nil stv_row0 stv_rowS stv_ptr stv_rel0 stv_pd stv_ag stv_tp stv_cl stvs_nil stvs_cons obs_box obs_rw obs_fz
 ret_get ret_obj ret_up ini_objS ini_upl ini_upl0 set_upl kill_upl setObj_upl0 setObj_uplS
 kill_d kill_dx kill_nil kill_row0 kill_rowS kill_ptr0 kill_ptrS kill_rel0 kill_relS kill_pd kill_ag kill_tp kill_cl kills_nil kills_cons obk_box obk_rw obk_fz
 pre step bin_int bin_shr bin_shl beq_bool arith_add arith_sub arith_mul arith_and arith_or arith_xor arith_eql arith_neq arith_lss arith_leq arith_gtr arith_geq arith_quo2 arith_rem2 arith_shr1 arith_shl1 maxOf_two minOf_two un lenOf cellsOf ofCells wid sub? slice_map slice_head slice_full' slice_z slice_c slice_s put St.new zcells St.load St.store Vm.fad St.ix St.slc St.els St.app St.wants St.skip I.dst resVal resVals Z.v Z.t? ofT T.cells V.shift V.shifts V.down V.downs downL chkV eqs eqFlat fill fillT flatFill T.noL T.flat
 dat dat2 dat1 dats1 dats2 Fn.pure FreeRows_nil FreeRows_cons setRows ren ren2 ren1 KTk take takes2 take2 takes1 take1 take0 rowsOb Vm.st Option.isNone_none Option.isNone_some List.mem_cons List.not_mem_nil not_or
 Option.map_some Option.map_none Option.bind_some List.length_cons List.length_nil List.length_append List.length_set cpl_length List.length_map List.length_replicate List.map_append List.map_set List.map_replicate List.getElem?_map List.getElem?_cons_zero List.getElem?_cons_succ List.drop_zero List.take_zero List.drop_succ_cons List.take_succ_cons List.take_nil List.drop_nil List.zip_cons_cons List.zip_nil_left List.zip_nil_right List.mapM_cons List.mapM_nil Option.pure_def Option.bind_eq_bind List.all_cons List.all_nil List.append_eq_nil_iff List.cons_ne_nil List.map_eq_nil_iff List.set_cons_zero List.set_cons_succ List.replicate_succ List.replicate_zero
 Nat.reduceEqDiff Nat.reduceLeDiff Nat.reduceAdd Nat.reduceSub Nat.reduceLT Nat.reduceMul Nat.reduceBEq Nat.ble_eq reduceIte reduceCtorEq Nat.add_zero Nat.sub_zero Nat.zero_add and_true true_and and_false false_and and_self or_true true_or false_or or_false if_true if_false Nat.one_ne_zero not_true not_false_eq_true not_false_iff Bool.false_eq_true forall_const true_implies false_implies implies_true BEq.rfl Bool.not_true Bool.not_false Bool.and_true Bool.true_and Bool.and_false Bool.false_and Bool.and_self Bool.true_bne Bool.false_bne not_true_eq_false List.nil_append List.append_nil List.cons_append dInt dBool Nat.le_refl Nat.le_add_right St.toT St.toTs ne_eq
 ff_set ff_setObj ff_setObjl ff_ini0 ff_iniS ff_ret ff_frz1 mg_get mg_obj0 mg_objS mg_up KBack_mg mrv_d mrv_nil mrv_ptr0 mrv_ptrS mrv_row0 mrv_rowS mrv_ag mrv_tp mrv_cl mrvs_nil mrvs_cons obm_box obm_rw obm_fz
 Sum.elim_inl Sum.elim_inr Option.some.injEq Ob.rw.injEq exists_eq2 eI eU8 eU64 eB eL eS_Latch eS_And eS_Circuit eS_Obligation eS_Wait eA4_Int eS_Trace oB0 oB1 oB2 oB3 oB4 oB5 oB6 oB7 at_traces_Witness_1 at_traces_walk at_values_Next_1 at_values_list c_law38_QueueWitness c_traces_Witness c_traces_Witness_1 c_traces_walk c_values_Next c_values_Next_1 c_values_list fn_law38_alive fn_law38_so fn_queue_Chain fn_queue_Trace fn_ref02_Check fn_ref04_Same fn_ref06_All fn_ref36_Great fn_ref38_Right fn_slices_Index_of_bool fn_traces_Check fn_traces_First fn_traces_Witness fn_traces_Witness_1 fn_traces_walk fn_values_All fn_values_Next fn_values_Next_1 fn_values_Props fn_values_list fn_values_of n_law38_alive n_law38_so n_queue_Chain n_queue_Trace n_ref02_Check n_ref04_Same n_ref06_All n_ref36_Great n_ref38_Right n_slices_Index_of_bool n_traces_Check n_traces_First n_traces_Witness n_traces_Witness_1 n_traces_walk n_values_All n_values_Next n_values_Next_1 n_values_Props n_values_list n_values_of
noncomputable def b_values_Next_L0 (p0 : S_Circuit) (r0 : (List Bool) × Int) (s0 : (List Bool) × Int) : Option (((List Bool) × Int) ⊕ ((List Bool))) :=
 if (decide (s0.2 < (p0.Latches.length : Int))) = true then
  (idx p0.Latches s0.2).bind fun x0 =>
  (s_values_of r0.1 x0.Next).bind fun r1 =>
  if s0.1.length + 1 ≤ big then
   some (Sum.inl ((s0.1 ++ ([r1] : List Bool)), (IntKind.wrap .i64 (s0.2 + 1))))
  else none
 else
  some (Sum.inr s0.1)
def I_values_Next_L0 (p0 : S_Circuit) (r0 : (List Bool) × Int) (s0 : (List Bool) × Int) (σ : St) : Prop := σ.get 4 = (.cl k_values_Next_1 [(.ptr 1 0 0)]) ∧ σ.get 12 = (.d true (.lst 1 (r0.1.map eB))) ∧ σ.get 14 = (.row 0 1 0 s0.1.length 1) ∧ σ.get 26 = (.d true (.int .i64 (p0.Latches.length : Int))) ∧ σ.get 27 = (.d true (.int .i64 s0.2)) ∧ σ.obj 1 0 = oB1 p0 ∧ (∃ gr_1_1, σ.obj 0 1 = some (.rw 1 (s0.1.map eB) gr_1_1)) ∧ σ.obj 0 3 = none ∧ σ.up.length = 1
def J_values_Next_L0 (p0 : S_Circuit) (r0 : (List Bool) × Int) (r : (List Bool)) (e : Ex) (σ' : St) : Prop := e = (.exit 0) ∧ σ'.get 14 = (.row 0 1 0 r.length 1) ∧ (∃ gr_1_1, σ'.obj 0 1 = some (.rw 1 (r.map eB) gr_1_1)) ∧ σ'.obj 0 3 = none ∧ σ'.up.length = 1
theorem L_values_Next_L0 (p0 : S_Circuit) (r0 : (List Bool) × Int) {s : (List Bool) × Int} {r : (List Bool)} (h : Lp (b_values_Next_L0 p0 r0) s = some r) {σ : St} {Q : Ex → St → Prop} (hI : I_values_Next_L0 p0 r0 s σ) (hQ : ∀ e σ', J_values_Next_L0 p0 r0 r e σ' → Q e σ') : WC env (.loop c_values_list_l1) σ Q :=
 WC_Lp (I_values_Next_L0 p0 r0) (J_values_Next_L0 p0 r0) (by
  clear h hI hQ
  clear s r σ Q
  intro s0 σ x hI h
  obtain ⟨f0, f1, f2, f3, f4, f5, ⟨gr_1_1, f6⟩, f7, f8⟩ := hI
  unfold b_values_Next_L0 at h
  replace h := itb h; rcases h with ⟨c1, h⟩ | ⟨c1, h⟩
  ·replace h := bsome h; obtain ⟨x0, H1, h⟩ := h
   have n0 := idx_n H1; have q0 := idx_q H1; have y0 := idx_x H1
   replace h := bsome h; obtain ⟨r1, H2, h⟩ := h
   have k1 := AtCall_all (s_values_of_ok H2); try dsimp only at k1
   replace h := need h; obtain ⟨H3, h⟩ := h
   cases h
   simp (maxDischargeDepth := 6) only [go_sem, LQ_inl, I_values_Next_L0, c_values_list_l1, clF_small (f := k_values_Next_1) rfl, clA_small (f := k_values_Next_1) rfl, fnV_small (E := env) (f := k_values_Next_1) fn_values_Next_1 rfl rfl, *]
  ·cases h
   simp only [go_sem, LQ_inr, J_values_Next_L0, c_values_list_l1, *]
) h hI hQ
noncomputable def s_values_Next (p0 : S_Circuit) (p1 : (List Bool)) (p2 : (List Bool)) : Option ((List Bool) × Int) :=
 (s_values_All p0 p1 p2).bind fun r0 =>
 if (r0.2 != 0) = true then
  some (([] : List Bool), r0.2)
 else
  (Lp (b_values_Next_L0 p0 r0) (([] : List Bool), 0)).bind fun x0 =>
  some (x0, 0)
theorem s_values_Next_ok {p0 : S_Circuit} {p1 : (List Bool)} {p2 : (List Bool)} {r : (List Bool) × Int} (h : s_values_Next p0 p1 p2 = some r) : Ans env k_values_Next [(.ag [(.d true (.int .i64 p0.Inputs)), (.d false (.lst 2 (p0.Latches.map eS_Latch))), (.d false (.lst 2 (p0.Ands.map eS_And))), (.d false (.lst 1 (p0.Bads.map eI))), (.d false (.lst 1 (p0.Constraints.map eI)))]), (.d false (.lst 1 (p1.map eB))), (.d false (.lst 1 (p2.map eB)))] (.tp [(.d true (.lst 1 (r.1.map eB))), (.d true (.int .i64 r.2))]) := by
 unfold s_values_Next at h
 unfold Ans
 rw [AtF fn_values_Next]
 simp only [n_values_Next]
 replace h := bsome h; obtain ⟨r0, H0, h⟩ := h
 have k0 := AtCall_all (s_values_All_ok H0); try dsimp only at k0
 replace h := itb h; rcases h with ⟨c0, h⟩ | ⟨c0, h⟩
 ·cases h
  simp only [go_sem, *]
  exact ⟨_, rfl⟩
 ·replace h := bsome h; obtain ⟨x0, H1, h⟩ := h
  try simp only [go_sem, *]
  refine L_values_Next_L0 p0 r0 H1 ?_ ?_
  ·clear h
   simp only [go_sem, I_values_Next_L0, *]
  ·intro e τ hJ
   obtain ⟨rfl, f0, ⟨gr_1_1, f1⟩, f2, f3⟩ := hJ
   cases h
   simp only [go_sem, *]
   exact ⟨_, rfl⟩
noncomputable def b_traces_Witness_L0 (p0 : S_Circuit) (p1 : S_Trace) (s0 : Int × Int × (List Bool)) : Option ((Int × Int × (List Bool)) ⊕ ((Int) ⊕ (Int × Int))) :=
 if (decide (s0.2.1 < (p1.Inputs.length : Int))) = true then
  (idx p1.Inputs s0.2.1).bind fun x4 =>
  (s_values_Props p0 s0.2.2 x4).bind fun r4 =>
  if (r4.2.2 != 0) = true then
   some (Sum.inr (Sum.inr (s0.1, r4.2.2)))
  else
   ((if r4.1 = true then
      some (s0.2.1 == (IntKind.wrap .i64 ((p1.Inputs.length : Int) - 1)))
     else
      some false).bind fun x6 =>
    if x6 = true then
     (s_slices_Index_of_bool r4.2.1 true).bind fun r5 =>
     some r5
    else
     some s0.1).bind fun x5 =>
   if r4.1 = true then
    (s_values_Next p0 s0.2.2 x4).bind fun r6 =>
    if (r6.2 != 0) = true then
     some (Sum.inr (Sum.inr (x5, r6.2)))
    else
     some (Sum.inl (x5, (IntKind.wrap .i64 (s0.2.1 + 1)), r6.1))
   else
    some (Sum.inr (Sum.inl x5))
 else
  some (Sum.inr (Sum.inl s0.1))
def I_traces_Witness_L0 (p0 : S_Circuit) (p1 : S_Trace) (s0 : Int × Int × (List Bool)) (σ : St) : Prop := σ.get 2 = (.cl k_traces_Witness_1 [(.ptr 1 1 0), (.ptr 1 2 0)]) ∧ σ.get 3 = (.ptr 0 0 0) ∧ σ.get 8 = (.d true (.lst 1 (s0.2.2.map eB))) ∧ σ.get 29 = (.d false (.lst 1 (p1.Inputs.map (eL 1 eB)))) ∧ σ.get 30 = (.d true (.int .i64 (p1.Inputs.length : Int))) ∧ σ.get 31 = (.d true (.int .i64 s0.2.1)) ∧ σ.obj 1 1 = oB7 p1 ∧ σ.obj 1 2 = some (.box [(.d true (.int .i64 s0.1))]) ∧ σ.obj 0 0 = oB1 p0 ∧ σ.up.length = 1
def J_traces_Witness_L0 (p0 : S_Circuit) (p1 : S_Trace) (r : (Int) ⊕ (Int × Int)) (e : Ex) (σ' : St) : Prop := (Sum.elim (fun o0 => e = (.exit 0) ∧ σ'.obj 1 2 = some (.box [(.d true (.int .i64 o0))]) ∧ σ'.up.length = 1) (fun o1 => e = .ret ∧ σ'.get 6 = (.d true (.int .i64 o1.2)) ∧ σ'.obj 1 2 = some (.box [(.d true (.int .i64 o1.1))]) ∧ σ'.up.length = 1)) r
theorem L_traces_Witness_L0 (p0 : S_Circuit) (p1 : S_Trace) {s : Int × Int × (List Bool)} {r : (Int) ⊕ (Int × Int)} (h : Lp (b_traces_Witness_L0 p0 p1) s = some r) {σ : St} {Q : Ex → St → Prop} (hI : I_traces_Witness_L0 p0 p1 s σ) (hQ : ∀ e σ', J_traces_Witness_L0 p0 p1 r e σ' → Q e σ') : WC env (.loop c_traces_walk_l1) σ Q :=
 WC_Lp (I_traces_Witness_L0 p0 p1) (J_traces_Witness_L0 p0 p1) (by
  clear h hI hQ
  clear s r σ Q
  intro s0 σ x hI h
  obtain ⟨f15, f16, f17, f18, f19, f20, f21, f22, f23, f24⟩ := hI
  unfold b_traces_Witness_L0 at h
  replace h := itb h; rcases h with ⟨c7, h⟩ | ⟨c7, h⟩
  ·replace h := bsome h; obtain ⟨x4, H9, h⟩ := h
   have n1 := idx_n H9; have q1 := idx_q H9; have y1 := idx_x H9
   replace h := bsome h; obtain ⟨r4, H10, h⟩ := h
   have k4 := AtCall_all (s_values_Props_ok H10); try dsimp only at k4
   replace h := itb h; rcases h with ⟨c8, h⟩ | ⟨c8, h⟩
   ·cases h
    simp (maxDischargeDepth := 6) only [go_sem, LQ_inr, J_traces_Witness_L0, c_traces_walk_l1, c_traces_Witness_p1, clF_small (f := k_traces_Witness_1) rfl, clA_small (f := k_traces_Witness_1) rfl, fnV_small (E := env) (f := k_traces_Witness_1) fn_traces_Witness_1 rfl rfl, *]
   ·replace h := bsome h; obtain ⟨x5, H11, h⟩ := h
    try simp (maxDischargeDepth := 6) only [go_sem, c_traces_walk_l1, c_traces_Witness_p1, clF_small (f := k_traces_Witness_1) rfl, clA_small (f := k_traces_Witness_1) rfl, fnV_small (E := env) (f := k_traces_Witness_1) fn_traces_Witness_1 rfl rfl, *]
    refine WC.mono (Q := fun e σ' => e = .normal ∧ σ'.get 2 = (.d true (.bool r4.1)) ∧ σ'.obj 2 1 = oB7 p1 ∧ σ'.obj 2 2 = some (.box [(.d true (.int .i64 x5))]) ∧ σ'.obj 1 0 = oB1 p0 ∧ σ'.up.length = 2) ?_ ?_
    ·replace h := H11
     clear H11
     replace h := bsome h; obtain ⟨x6, H12, h⟩ := h
     try simp (maxDischargeDepth := 6) only [go_sem, c_traces_walk_l1, c_traces_Witness_p1, clF_small (f := k_traces_Witness_1) rfl, clA_small (f := k_traces_Witness_1) rfl, fnV_small (E := env) (f := k_traces_Witness_1) fn_traces_Witness_1 rfl rfl, c_traces_Witness_1_p2, *]
     refine WC.mono (Q := fun e σ' => e = .normal ∧ σ'.get 2 = (.d true (.bool r4.1)) ∧ σ'.get 3 = (.d true (.lst 1 (r4.2.1.map eB))) ∧ σ'.get 5 = (.ptr 2 2 0) ∧ σ'.get 19 = (.d true (.bool x6)) ∧ σ'.obj 2 1 = oB7 p1 ∧ σ'.obj 2 2 = some (.box [(.d true (.int .i64 s0.1))]) ∧ σ'.obj 1 0 = oB1 p0 ∧ σ'.up.length = 2) ?_ ?_
     ·replace h := H12
      clear H12
      replace h := itb h; rcases h with ⟨c9, h⟩ | ⟨c9, h⟩
      ·cases h
       simp (maxDischargeDepth := 6) only [go_sem, c_traces_walk_l1, c_traces_Witness_p1, clF_small (f := k_traces_Witness_1) rfl, clA_small (f := k_traces_Witness_1) rfl, fnV_small (E := env) (f := k_traces_Witness_1) fn_traces_Witness_1 rfl rfl, c_traces_Witness_1_p2, c_traces_Witness_1_p1, *]
      ·cases h
       simp (maxDischargeDepth := 6) only [go_sem, c_traces_walk_l1, c_traces_Witness_p1, clF_small (f := k_traces_Witness_1) rfl, clA_small (f := k_traces_Witness_1) rfl, fnV_small (E := env) (f := k_traces_Witness_1) fn_traces_Witness_1 rfl rfl, c_traces_Witness_1_p2, c_traces_Witness_1_p1, *]
     ·intro e τ hJ
      obtain ⟨rfl, f25, f26, f27, f28, f29, f30, f31, f32⟩ := hJ
      replace h := itb h; rcases h with ⟨c10, h⟩ | ⟨c10, h⟩
      ·replace h := bsome h; obtain ⟨r5, H13, h⟩ := h
       have k5 := AtCall_all (s_slices_Index_of_bool_ok H13); try dsimp only at k5
       cases h
       simp (maxDischargeDepth := 6) only [go_sem, c_traces_walk_l1, c_traces_Witness_p1, clF_small (f := k_traces_Witness_1) rfl, clA_small (f := k_traces_Witness_1) rfl, fnV_small (E := env) (f := k_traces_Witness_1) fn_traces_Witness_1 rfl rfl, c_traces_Witness_1_p2, *]
      ·cases h
       simp (maxDischargeDepth := 6) only [go_sem, c_traces_walk_l1, c_traces_Witness_p1, clF_small (f := k_traces_Witness_1) rfl, clA_small (f := k_traces_Witness_1) rfl, fnV_small (E := env) (f := k_traces_Witness_1) fn_traces_Witness_1 rfl rfl, c_traces_Witness_1_p2, *]
    ·intro e τ hJ
     obtain ⟨rfl, f33, f34, f35, f36, f37⟩ := hJ
     replace h := itb h; rcases h with ⟨c11, h⟩ | ⟨c11, h⟩
     ·replace h := bsome h; obtain ⟨r6, H14, h⟩ := h
      have k6 := AtCall_all (s_values_Next_ok H14); try dsimp only at k6
      replace h := itb h; rcases h with ⟨c12, h⟩ | ⟨c12, h⟩
      ·cases h
       simp (maxDischargeDepth := 6) only [go_sem, LQ_inr, J_traces_Witness_L0, c_traces_walk_l1, c_traces_Witness_p1, clF_small (f := k_traces_Witness_1) rfl, clA_small (f := k_traces_Witness_1) rfl, fnV_small (E := env) (f := k_traces_Witness_1) fn_traces_Witness_1 rfl rfl, *]
      ·cases h
       simp (maxDischargeDepth := 6) only [go_sem, LQ_inl, I_traces_Witness_L0, c_traces_walk_l1, c_traces_Witness_p1, clF_small (f := k_traces_Witness_1) rfl, clA_small (f := k_traces_Witness_1) rfl, fnV_small (E := env) (f := k_traces_Witness_1) fn_traces_Witness_1 rfl rfl, *]
     ·cases h
      simp (maxDischargeDepth := 6) only [go_sem, LQ_inr, J_traces_Witness_L0, c_traces_walk_l1, c_traces_Witness_p1, clF_small (f := k_traces_Witness_1) rfl, clA_small (f := k_traces_Witness_1) rfl, fnV_small (E := env) (f := k_traces_Witness_1) fn_traces_Witness_1 rfl rfl, *]
  ·cases h
   simp (maxDischargeDepth := 6) only [go_sem, LQ_inr, J_traces_Witness_L0, c_traces_walk_l1, c_traces_Witness_p1, clF_small (f := k_traces_Witness_1) rfl, clA_small (f := k_traces_Witness_1) rfl, fnV_small (E := env) (f := k_traces_Witness_1) fn_traces_Witness_1 rfl rfl, *]
) h hI hQ
noncomputable def s_traces_Witness (p0 : S_Circuit) (p1 : S_Trace) : Option (Int × Int) :=
 ((s_traces_Check p0 p1).bind fun r0 =>
  if (r0 != 0) = true then
   some ((-1), r0)
  else
   (mkn (p1.First.length : Int)).bind fun m0 =>
   if (decide (0 < (p1.Inputs.length : Int))) = true then
    (idx p1.Inputs 0).bind fun x1 =>
    (s_values_Props p0 (cpl 0 m0 p1.First (List.replicate m0 false)) x1).bind fun r1 =>
    if (r1.2.2 != 0) = true then
     some ((-1), r1.2.2)
    else
     ((if r1.1 = true then
        some (0 == (IntKind.wrap .i64 ((p1.Inputs.length : Int) - 1)))
       else
        some false).bind fun x3 =>
      if x3 = true then
       (s_slices_Index_of_bool r1.2.1 true).bind fun r2 =>
       some r2
      else
       some (-1)).bind fun x2 =>
     if r1.1 = true then
      (s_values_Next p0 (cpl 0 m0 p1.First (List.replicate m0 false)) x1).bind fun r3 =>
      if (r3.2 != 0) = true then
       some (x2, r3.2)
      else
       (Lp (b_traces_Witness_L0 p0 p1) (x2, (IntKind.wrap .i64 (0 + 1)), r3.1)).bind fun x4 =>
       match x4 with
       | .inl x4' =>
        some (x4', 0)
       | .inr x4' =>
        some (x4'.1, x4'.2)
     else
      some (x2, 0)
   else
    some ((-1), 0)).bind fun x0 =>
 if (x0.2 != 0) = true then
  some (0, x0.2)
 else
  if (decide (x0.1 < 0)) = true then
   some (0, 57)
  else
   some (x0.1, 0)
theorem s_traces_Witness_ok {p0 : S_Circuit} {p1 : S_Trace} {r : Int × Int} (h : s_traces_Witness p0 p1 = some r) : Ans env k_traces_Witness [(.ag [(.d true (.int .i64 p0.Inputs)), (.d false (.lst 2 (p0.Latches.map eS_Latch))), (.d false (.lst 2 (p0.Ands.map eS_And))), (.d false (.lst 1 (p0.Bads.map eI))), (.d false (.lst 1 (p0.Constraints.map eI)))]), (.ag [(.d false (.lst 1 (p1.First.map eB))), (.d false (.lst 1 (p1.Inputs.map (eL 1 eB))))])] (.tp [(.d true (.int .i64 r.1)), (.d true (.int .i64 r.2))]) := by
 unfold s_traces_Witness at h
 unfold Ans
 rw [AtF fn_traces_Witness]
 simp only [n_traces_Witness]
 replace h := bsome h; obtain ⟨x0, H0, h⟩ := h
 try simp only [go_sem, *]
 refine WC.mono (Q := fun e σ' => e = .normal ∧ σ'.get 6 = (.ptr 0 2 0) ∧ σ'.get 7 = (.d true (.int .i64 x0.2)) ∧ σ'.obj 0 2 = some (.box [(.d true (.int .i64 x0.1))]) ∧ σ'.up.length = 0) ?_ ?_
 ·replace h := H0
  clear H0
  replace h := bsome h; obtain ⟨r0, H1, h⟩ := h
  have k0 := AtCall_all (s_traces_Check_ok H1); try dsimp only at k0
  replace h := itb h; rcases h with ⟨c0, h⟩ | ⟨c0, h⟩
  ·cases h
   simp only [go_sem, c_traces_Witness_p1, *]
  ·replace h := bsome h; obtain ⟨m0, H2, h⟩ := h
   have zH2 := bnd_mkn H2
   try simp only [go_sem, c_traces_Witness_p1, (cpy_row eB p1.First (List.replicate m0 false)), *]
   rw [WC_loop' c_traces_walk_l1.eq_1]
   replace h := itb h; rcases h with ⟨c1, h⟩ | ⟨c1, h⟩
   ·replace h := bsome h; obtain ⟨x1, H3, h⟩ := h
    have n0 := idx_n H3; have q0 := idx_q H3; have y0 := idx_x H3
    simp only [Int.toNat_zero] at n0 q0 y0
    replace h := bsome h; obtain ⟨r1, H4, h⟩ := h
    have k1 := AtCall_all (s_values_Props_ok H4); try dsimp only at k1
    try simp only [List.map_cons, List.map_nil, List.map_append, List.map_set, List.nil_append, List.map_replicate, eI, eU8, eB, eL, eS_Latch, eS_And, eS_Circuit, eS_Obligation, eS_Wait, eA4_Int, eS_Trace] at k1
    replace h := itb h; rcases h with ⟨c2, h⟩ | ⟨c2, h⟩
    ·cases h
     simp only [go_sem, c_traces_Witness_p1, (cpy_row eB p1.First (List.replicate m0 false)), *]
    ·replace h := bsome h; obtain ⟨x2, H5, h⟩ := h
     try simp (maxDischargeDepth := 6) only [go_sem, c_traces_Witness_p1, clF_small (f := k_traces_Witness_1) rfl, clA_small (f := k_traces_Witness_1) rfl, fnV_small (E := env) (f := k_traces_Witness_1) fn_traces_Witness_1 rfl rfl, (cpy_row eB p1.First (List.replicate m0 false)), *]
     refine WC.mono (Q := fun e σ' => e = .normal ∧ σ'.get 2 = (.d true (.bool r1.1)) ∧ σ'.obj 2 1 = oB7 p1 ∧ σ'.obj 2 2 = some (.box [(.d true (.int .i64 x2))]) ∧ σ'.obj 1 0 = oB1 p0 ∧ σ'.obj 1 2 = some (.rw 1 ((cpl 0 m0 p1.First (List.replicate m0 false)).map eB) false) ∧ σ'.up.length = 2) ?_ ?_
     ·replace h := H5
      clear H5
      replace h := bsome h; obtain ⟨x3, H6, h⟩ := h
      try simp (maxDischargeDepth := 6) only [go_sem, c_traces_Witness_p1, clF_small (f := k_traces_Witness_1) rfl, clA_small (f := k_traces_Witness_1) rfl, fnV_small (E := env) (f := k_traces_Witness_1) fn_traces_Witness_1 rfl rfl, c_traces_Witness_1_p2, (cpy_row eB p1.First (List.replicate m0 false)), *]
      refine WC.mono (Q := fun e σ' => e = .normal ∧ σ'.get 2 = (.d true (.bool r1.1)) ∧ σ'.get 3 = (.d true (.lst 1 (r1.2.1.map eB))) ∧ σ'.get 5 = (.ptr 2 2 0) ∧ σ'.get 19 = (.d true (.bool x3)) ∧ σ'.obj 2 1 = oB7 p1 ∧ σ'.obj 2 2 = some (.box [(.d true (.int .i64 (-1)))]) ∧ σ'.obj 1 0 = oB1 p0 ∧ σ'.obj 1 2 = some (.rw 1 ((cpl 0 m0 p1.First (List.replicate m0 false)).map eB) false) ∧ σ'.up.length = 2) ?_ ?_
      ·replace h := H6
       clear H6
       replace h := itb h; rcases h with ⟨c3, h⟩ | ⟨c3, h⟩
       ·cases h
        simp (maxDischargeDepth := 6) only [go_sem, c_traces_Witness_p1, clF_small (f := k_traces_Witness_1) rfl, clA_small (f := k_traces_Witness_1) rfl, fnV_small (E := env) (f := k_traces_Witness_1) fn_traces_Witness_1 rfl rfl, c_traces_Witness_1_p2, c_traces_Witness_1_p1, (cpy_row eB p1.First (List.replicate m0 false)), *]
       ·cases h
        simp (maxDischargeDepth := 6) only [go_sem, c_traces_Witness_p1, clF_small (f := k_traces_Witness_1) rfl, clA_small (f := k_traces_Witness_1) rfl, fnV_small (E := env) (f := k_traces_Witness_1) fn_traces_Witness_1 rfl rfl, c_traces_Witness_1_p2, c_traces_Witness_1_p1, (cpy_row eB p1.First (List.replicate m0 false)), *]
      ·intro e τ hJ
       obtain ⟨rfl, f0, f1, f2, f3, f4, f5, f6, f7, f8⟩ := hJ
       replace h := itb h; rcases h with ⟨c4, h⟩ | ⟨c4, h⟩
       ·replace h := bsome h; obtain ⟨r2, H7, h⟩ := h
        have k2 := AtCall_all (s_slices_Index_of_bool_ok H7); try dsimp only at k2
        cases h
        simp (maxDischargeDepth := 6) only [go_sem, c_traces_Witness_p1, clF_small (f := k_traces_Witness_1) rfl, clA_small (f := k_traces_Witness_1) rfl, fnV_small (E := env) (f := k_traces_Witness_1) fn_traces_Witness_1 rfl rfl, c_traces_Witness_1_p2, (cpy_row eB p1.First (List.replicate m0 false)), *]
       ·cases h
        simp (maxDischargeDepth := 6) only [go_sem, c_traces_Witness_p1, clF_small (f := k_traces_Witness_1) rfl, clA_small (f := k_traces_Witness_1) rfl, fnV_small (E := env) (f := k_traces_Witness_1) fn_traces_Witness_1 rfl rfl, c_traces_Witness_1_p2, (cpy_row eB p1.First (List.replicate m0 false)), *]
     ·intro e τ hJ
      obtain ⟨rfl, f9, f10, f11, f12, f13, f14⟩ := hJ
      replace h := itb h; rcases h with ⟨c5, h⟩ | ⟨c5, h⟩
      ·replace h := bsome h; obtain ⟨r3, H8, h⟩ := h
       have k3 := AtCall_all (s_values_Next_ok H8); try dsimp only at k3
       try simp only [List.map_cons, List.map_nil, List.map_append, List.map_set, List.nil_append, List.map_replicate, eI, eU8, eB, eL, eS_Latch, eS_And, eS_Circuit, eS_Obligation, eS_Wait, eA4_Int, eS_Trace] at k3
       replace h := itb h; rcases h with ⟨c6, h⟩ | ⟨c6, h⟩
       ·cases h
        simp (maxDischargeDepth := 6) only [go_sem, c_traces_Witness_p1, clF_small (f := k_traces_Witness_1) rfl, clA_small (f := k_traces_Witness_1) rfl, fnV_small (E := env) (f := k_traces_Witness_1) fn_traces_Witness_1 rfl rfl, (cpy_row eB p1.First (List.replicate m0 false)), *]
       ·replace h := bsome h; obtain ⟨x4, H9, h⟩ := h
        try simp (maxDischargeDepth := 6) only [go_sem, c_traces_Witness_p1, clF_small (f := k_traces_Witness_1) rfl, clA_small (f := k_traces_Witness_1) rfl, fnV_small (E := env) (f := k_traces_Witness_1) fn_traces_Witness_1 rfl rfl, (cpy_row eB p1.First (List.replicate m0 false)), *]
        refine L_traces_Witness_L0 p0 p1 H9 ?_ ?_
        ·clear h
         simp (maxDischargeDepth := 6) only [go_sem, I_traces_Witness_L0, c_traces_Witness_p1, clF_small (f := k_traces_Witness_1) rfl, clA_small (f := k_traces_Witness_1) rfl, fnV_small (E := env) (f := k_traces_Witness_1) fn_traces_Witness_1 rfl rfl, (cpy_row eB p1.First (List.replicate m0 false)), *]
        ·intro e τ hJ
         rcases x4 with x4' | x4'
         ·obtain ⟨rfl, f15, f16⟩ := hJ
          cases h
          simp (maxDischargeDepth := 6) only [go_sem, c_traces_Witness_p1, clF_small (f := k_traces_Witness_1) rfl, clA_small (f := k_traces_Witness_1) rfl, fnV_small (E := env) (f := k_traces_Witness_1) fn_traces_Witness_1 rfl rfl, (cpy_row eB p1.First (List.replicate m0 false)), *]
         ·obtain ⟨rfl, f17, f18, f19⟩ := hJ
          cases h
          simp (maxDischargeDepth := 6) only [go_sem, c_traces_Witness_p1, clF_small (f := k_traces_Witness_1) rfl, clA_small (f := k_traces_Witness_1) rfl, fnV_small (E := env) (f := k_traces_Witness_1) fn_traces_Witness_1 rfl rfl, (cpy_row eB p1.First (List.replicate m0 false)), *]
      ·cases h
       simp (maxDischargeDepth := 6) only [go_sem, c_traces_Witness_p1, clF_small (f := k_traces_Witness_1) rfl, clA_small (f := k_traces_Witness_1) rfl, fnV_small (E := env) (f := k_traces_Witness_1) fn_traces_Witness_1 rfl rfl, (cpy_row eB p1.First (List.replicate m0 false)), *]
   ·cases h
    simp only [go_sem, c_traces_Witness_p1, (cpy_row eB p1.First (List.replicate m0 false)), *]
 ·intro e τ hJ
  obtain ⟨rfl, f20, f21, f22, f23⟩ := hJ
  replace h := itb h; rcases h with ⟨c7, h⟩ | ⟨c7, h⟩
  ·cases h
   simp only [go_sem, *]
   exact ⟨_, rfl⟩
  ·replace h := itb h; rcases h with ⟨c8, h⟩ | ⟨c8, h⟩
   ·cases h
    simp only [go_sem, *]
    exact ⟨_, rfl⟩
   ·cases h
    simp only [go_sem, *]
    exact ⟨_, rfl⟩
noncomputable def s_law38_QueueWitness (p0 : S_Circuit) (p1 : (List S_Obligation)) (p2 : Int) (p3 : (List Bool)) (p4 : (List Bool)) : Option (Bool) :=
 (s_law38_alive ).bind fun r0 =>
 ((s_ref36_Great p0).bind fun r1 =>
  if r1 = true then
   some true
  else
   (s_ref02_Check p0).bind fun r2 =>
   if (r2 != 0) = true then
    some true
   else
    if (decide ((p1.length : Int) > 60)) = true then
     some true
    else
     (s_ref38_Right p0 p1).bind fun r3 =>
     if (r3 != 0) = true then
      some true
     else
      if (decide (p2 < 0)) = true then
       some true
      else
       if (decide (p2 ≥ (p1.length : Int))) = true then
        some true
       else
        if ((p3.length : Int) != (p0.Latches.length : Int)) = true then
         some true
        else
         if ((p4.length : Int) != p0.Inputs) = true then
          some true
         else
          some (!r0)).bind fun x0 =>
 if x0 = true then
  some r0
 else
  (s_queue_Trace p0 p1 p2 p3 p4).bind fun r4 =>
  (s_queue_Chain p0 p1 p2).bind fun r5 =>
  (if (r4.2 != 0) = true then
    some true
   else
    if (r5.2 != 0) = true then
     some true
    else
     if ((r4.1.Inputs.length : Int) != (IntKind.wrap .i64 ((r5.1.length : Int) + 1))) = true then
      some true
     else
      (s_ref04_Same r4.1.First p3).bind fun r6 =>
      some (!r6)).bind fun x1 =>
  if x1 = true then
   some false
  else
   (s_traces_First p0 p3).bind fun r7 =>
   (s_values_Props p0 p3 p4).bind fun r8 =>
   (if (r7.2 != 0) = true then
     some true
    else
     some (r8.2.2 != 0)).bind fun x2 =>
   if x2 = true then
    some false
   else
    (if r7.1 = true then
      if r8.1 = true then
       (s_ref06_All p0 r4.1).bind fun r9 =>
       (s_law38_so p0 p1 r5.1 r9).bind fun r10 =>
       some (!r10)
      else
       some true
     else
      some true).bind fun x3 =>
    if x3 = true then
     some r0
    else
     (s_traces_Witness p0 r4.1).bind fun r11 =>
     (if r0 = true then
       some (r11.2 == 0)
      else
       some false).bind fun x4 =>
     some x4
theorem s_law38_QueueWitness_ok {p0 : S_Circuit} {p1 : (List S_Obligation)} {p2 : Int} {p3 : (List Bool)} {p4 : (List Bool)} {r : Bool} (h : s_law38_QueueWitness p0 p1 p2 p3 p4 = some r) : AnsL env k_law38_QueueWitness [(.ag [(.d true (.int .i64 p0.Inputs)), (.d true (.lst 2 (p0.Latches.map eS_Latch))), (.d true (.lst 2 (p0.Ands.map eS_And))), (.d true (.lst 1 (p0.Bads.map eI))), (.d true (.lst 1 (p0.Constraints.map eI)))]), (.d true (.lst 3 (p1.map eS_Obligation))), (.d true (.int .i64 p2)), (.d true (.lst 1 (p3.map eB))), (.d true (.lst 1 (p4.map eB)))] (.d true (.bool r)) := by
 unfold s_law38_QueueWitness at h
 unfold AnsL
 rw [AtF fn_law38_QueueWitness]
 simp only [n_law38_QueueWitness]
 replace h := bsome h; obtain ⟨r0, H0, h⟩ := h
 have k0 := AtCall_all (s_law38_alive_ok H0); try dsimp only at k0
 replace h := bsome h; obtain ⟨x0, H1, h⟩ := h
 try simp only [go_sem, *]
 refine WC.mono (Q := fun e σ' => e = .normal ∧ σ'.get 1 = (.d true (.lst 3 (p1.map eS_Obligation))) ∧ σ'.get 2 = (.d true (.int .i64 p2)) ∧ σ'.get 3 = (.d true (.lst 1 (p3.map eB))) ∧ σ'.get 4 = (.d true (.lst 1 (p4.map eB))) ∧ σ'.get 5 = (.ptr 0 0 0) ∧ σ'.get 11 = (.d true (.bool r0)) ∧ σ'.get 70 = (.d true (.bool x0)) ∧ σ'.obj 0 0 = oB4 p0 ∧ σ'.obj 0 1 = none ∧ σ'.up.length = 0) ?_ ?_
 ·replace h := H1
  clear H1
  replace h := bsome h; obtain ⟨r1, H2, h⟩ := h
  have k1 := AtCall_all (s_ref36_Great_ok H2); try dsimp only at k1
  replace h := itb h; rcases h with ⟨c0, h⟩ | ⟨c0, h⟩
  ·cases h
   simp only [go_sem, c_law38_QueueWitness_p1, *]
  ·replace h := bsome h; obtain ⟨r2, H3, h⟩ := h
   have k2 := AtCall_all (s_ref02_Check_ok H3); try dsimp only at k2
   replace h := itb h; rcases h with ⟨c1, h⟩ | ⟨c1, h⟩
   ·cases h
    simp only [go_sem, c_law38_QueueWitness_p1, *]
   ·replace h := itb h; rcases h with ⟨c2, h⟩ | ⟨c2, h⟩
    ·cases h
     simp only [go_sem, c_law38_QueueWitness_p1, *]
    ·replace h := bsome h; obtain ⟨r3, H4, h⟩ := h
     have k3 := AtCall_all (s_ref38_Right_ok H4); try dsimp only at k3
     replace h := itb h; rcases h with ⟨c3, h⟩ | ⟨c3, h⟩
     ·cases h
      simp only [go_sem, c_law38_QueueWitness_p1, *]
     ·replace h := itb h; rcases h with ⟨c4, h⟩ | ⟨c4, h⟩
      ·cases h
       simp only [go_sem, c_law38_QueueWitness_p1, *]
      ·replace h := itb h; rcases h with ⟨c5, h⟩ | ⟨c5, h⟩
       ·cases h
        simp only [go_sem, c_law38_QueueWitness_p1, *]
       ·replace h := itb h; rcases h with ⟨c6, h⟩ | ⟨c6, h⟩
        ·cases h
         simp only [go_sem, c_law38_QueueWitness_p1, *]
        ·replace h := itb h; rcases h with ⟨c7, h⟩ | ⟨c7, h⟩
         ·cases h
          simp only [go_sem, c_law38_QueueWitness_p1, *]
         ·cases h
          simp only [go_sem, c_law38_QueueWitness_p1, *]
 ·intro e τ hJ
  obtain ⟨rfl, f0, f1, f2, f3, f4, f5, f6, f7, f8, f9⟩ := hJ
  replace h := itb h; rcases h with ⟨c8, h⟩ | ⟨c8, h⟩
  ·cases h
   simp only [go_sem, KLaw, *]
  ·replace h := bsome h; obtain ⟨r4, H5, h⟩ := h
   have k4 := AtCall_all (s_queue_Trace_ok H5); try dsimp only at k4
   replace h := bsome h; obtain ⟨r5, H6, h⟩ := h
   have k5 := AtCall_all (s_queue_Chain_ok H6); try dsimp only at k5
   replace h := bsome h; obtain ⟨x1, H7, h⟩ := h
   try simp only [go_sem, *]
   refine WC.mono (Q := fun e σ' => e = .normal ∧ σ'.get 1 = (.d true (.lst 3 (p1.map eS_Obligation))) ∧ σ'.get 3 = (.d true (.lst 1 (p3.map eB))) ∧ σ'.get 4 = (.d true (.lst 1 (p4.map eB))) ∧ σ'.get 5 = (.ptr 0 0 0) ∧ σ'.get 11 = (.d true (.bool r0)) ∧ σ'.get 12 = (.ptr 0 1 0) ∧ σ'.get 14 = (.d true (.lst 1 (r5.1.map eI))) ∧ σ'.get 109 = (.d true (.bool x1)) ∧ σ'.obj 0 0 = oB4 p0 ∧ σ'.obj 0 1 = oB6 r4.1 ∧ σ'.up.length = 0) ?_ ?_
   ·replace h := H7
    clear H7
    replace h := itb h; rcases h with ⟨c9, h⟩ | ⟨c9, h⟩
    ·cases h
     simp only [go_sem, c_law38_QueueWitness_p2, *]
    ·replace h := itb h; rcases h with ⟨c10, h⟩ | ⟨c10, h⟩
     ·cases h
      simp only [go_sem, c_law38_QueueWitness_p2, *]
     ·replace h := itb h; rcases h with ⟨c11, h⟩ | ⟨c11, h⟩
      ·cases h
       simp only [go_sem, c_law38_QueueWitness_p2, *]
      ·replace h := bsome h; obtain ⟨r6, H8, h⟩ := h
       have k6 := AtCall_all (s_ref04_Same_ok H8); try dsimp only at k6
       cases h
       simp only [go_sem, c_law38_QueueWitness_p2, *]
   ·intro e τ hJ
    obtain ⟨rfl, f10, f11, f12, f13, f14, f15, f16, f17, f18, f19, f20⟩ := hJ
    replace h := itb h; rcases h with ⟨c12, h⟩ | ⟨c12, h⟩
    ·cases h
     simp only [go_sem, KLaw, *]
    ·replace h := bsome h; obtain ⟨r7, H9, h⟩ := h
     have k7 := AtCall_all (s_traces_First_ok H9); try dsimp only at k7
     replace h := bsome h; obtain ⟨r8, H10, h⟩ := h
     have k8 := AtCall_all (s_values_Props_ok H10); try dsimp only at k8
     replace h := bsome h; obtain ⟨x2, H11, h⟩ := h
     try simp only [go_sem, *]
     refine WC.mono (Q := fun e σ' => e = .normal ∧ σ'.get 1 = (.d true (.lst 3 (p1.map eS_Obligation))) ∧ σ'.get 5 = (.ptr 0 0 0) ∧ σ'.get 11 = (.d true (.bool r0)) ∧ σ'.get 12 = (.ptr 0 1 0) ∧ σ'.get 14 = (.d true (.lst 1 (r5.1.map eI))) ∧ σ'.get 16 = (.d true (.bool r7.1)) ∧ σ'.get 18 = (.d true (.bool r8.1)) ∧ σ'.get 129 = (.d true (.bool x2)) ∧ σ'.obj 0 0 = oB4 p0 ∧ σ'.obj 0 1 = oB6 r4.1 ∧ σ'.up.length = 0) ?_ ?_
     ·replace h := H11
      clear H11
      replace h := itb h; rcases h with ⟨c13, h⟩ | ⟨c13, h⟩
      ·cases h
       simp only [go_sem, c_law38_QueueWitness_p3, *]
      ·cases h
       simp only [go_sem, c_law38_QueueWitness_p3, *]
     ·intro e τ hJ
      obtain ⟨rfl, f21, f22, f23, f24, f25, f26, f27, f28, f29, f30, f31⟩ := hJ
      replace h := itb h; rcases h with ⟨c14, h⟩ | ⟨c14, h⟩
      ·cases h
       simp only [go_sem, KLaw, *]
      ·replace h := bsome h; obtain ⟨x3, H12, h⟩ := h
       try simp only [go_sem, *]
       refine WC.mono (Q := fun e σ' => e = .normal ∧ σ'.get 5 = (.ptr 0 0 0) ∧ σ'.get 11 = (.d true (.bool r0)) ∧ σ'.get 12 = (.ptr 0 1 0) ∧ σ'.get 145 = (.d true (.bool x3)) ∧ σ'.obj 0 0 = oB4 p0 ∧ σ'.obj 0 1 = oB6 r4.1 ∧ σ'.up.length = 0) ?_ ?_
       ·replace h := H12
        clear H12
        replace h := itb h; rcases h with ⟨c15, h⟩ | ⟨c15, h⟩
        ·replace h := itb h; rcases h with ⟨c16, h⟩ | ⟨c16, h⟩
         ·replace h := bsome h; obtain ⟨r9, H13, h⟩ := h
          have k9 := AtCall_all (s_ref06_All_ok H13); try dsimp only at k9
          replace h := bsome h; obtain ⟨r10, H14, h⟩ := h
          have k10 := AtCall_all (s_law38_so_ok H14); try dsimp only at k10
          cases h
          simp only [go_sem, c_law38_QueueWitness_p4, *]
         ·cases h
          simp only [go_sem, c_law38_QueueWitness_p4, *]
        ·cases h
         simp only [go_sem, c_law38_QueueWitness_p4, *]
       ·intro e τ hJ
        obtain ⟨rfl, f32, f33, f34, f35, f36, f37, f38⟩ := hJ
        replace h := itb h; rcases h with ⟨c17, h⟩ | ⟨c17, h⟩
        ·cases h
         simp only [go_sem, KLaw, *]
        ·replace h := bsome h; obtain ⟨r11, H15, h⟩ := h
         have k11 := AtCall_all (s_traces_Witness_ok H15); try dsimp only at k11
         replace h := bsome h; obtain ⟨x4, H16, h⟩ := h
         try simp only [go_sem, *]
         refine WC.mono (Q := fun e σ' => e = .normal ∧ σ'.get 10 = (.d true (.bool x4)) ∧ σ'.up.length = 0) ?_ ?_
         ·replace h := H16
          clear H16
          replace h := itb h; rcases h with ⟨c18, h⟩ | ⟨c18, h⟩
          ·cases h
           simp only [go_sem, c_law38_QueueWitness_p5, *]
          ·cases h
           simp only [go_sem, c_law38_QueueWitness_p5, *]
         ·intro e τ hJ
          obtain ⟨rfl, f39, f40⟩ := hJ
          cases h
          simp only [go_sem, KLaw, *]
end Go.Proofs.Ytkhgnkfdpabflab.Vm
