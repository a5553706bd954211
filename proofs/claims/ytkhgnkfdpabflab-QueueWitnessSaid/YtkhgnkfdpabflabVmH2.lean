/- Walks over the code of functions. Printed. -/
import Derived.Test.YtkhgnkfdpabflabVmH1
namespace Go.Proofs.Ytkhgnkfdpabflab.Vm
open Go
set_option linter.unusedSimpArgs false
set_option linter.unusedVariables false
set_option maxRecDepth 4000
set_option maxHeartbeats 4000000
attribute [local go_sem] WC_skip WC_exit WC_ret WC_seq WC_block WC_cond WC_rg KSeq_normal KSeq_ret KSeq_exit KBlock_normal KBlock_ret KBlock_exit KN_eq KRg_eq KSt_eq KSet_eq KLen_eq KPick_eq KG_eq KCond_eq boolP_d biteC_true biteC_false biteO_true biteO_false WO_nil WO_mv WO_nilr WO_pick WO_bin WO_beq WO_eqs WO_un WO_cvt WO_alloc WO_box WO_load WO_store WO_fad WO_fval WO_ix WO_ixb WO_ixa WO_bld WO_bsl WO_mks WO_slc WO_len WO_mx WO_mn WO_app WO_cpy WO_clr WO_xt WO_fn WO_chk WO_g
 WO_call WO_callv callK KHand KCallv KRes KBack_ret KRet_eq KAns env_fn St.hand St.lend St.lends St.lend1 St.vals St.frz fr1_obj fr1_get fr1_upl frO_rw frO_fz frO_none St.rowOf List.foldl_nil List.foldl_cons List.map_cons List.map_nil
 optP_some optP_none
 St.get_set St.obj_set St.get_setObj St.obj_setObj St.get_kill St.obj_kill0 St.obj_killS St.get_ini St.obj_ini0 gt_nil gt_zero gt_succ St.val_t St.val_c
 stl_get stl_obj0 stl_objS stl_upl stv_d stv_dx stv_nil stv_row0 stv_rowS stv_ptr stv_rel0 stv_pd stv_ag stv_tp stv_cl stvs_nil stvs_cons obs_box obs_rw obs_fz
 ret_get ret_obj ret_up ini_objS ini_upl ini_upl0 set_upl kill_upl setObj_upl0 setObj_uplS
 kill_d kill_dx kill_nil kill_row0 kill_rowS kill_ptr0 kill_ptrS kill_rel0 kill_relS kill_pd kill_ag kill_tp kill_cl kills_nil kills_cons obk_box obk_rw obk_fz
 pre step bin_int bin_shr bin_shl beq_bool arith_add arith_sub arith_mul arith_and arith_or arith_xor arith_eql arith_neq arith_lss arith_leq arith_gtr arith_geq arith_quo2 arith_rem2 arith_shr1 arith_shl1 maxOf_two minOf_two un lenOf cellsOf ofCells wid sub? slice_map slice_head slice_full' slice_z slice_c slice_s put St.new zcells St.load St.store Vm.fad St.ix St.slc St.els St.app St.wants St.skip I.dst resVal resVals Z.v Z.t? ofT T.cells V.shift V.shifts V.down V.downs downL chkV eqs eqFlat fill fillT flatFill T.noL T.flat
 dat dat2 dat1 dats1 dats2 Fn.pure FreeRows_nil FreeRows_cons setRows ren ren2 ren1 KTk take takes2 take2 takes1 take1 take0 rowsOb Vm.st Option.isNone_none Option.isNone_some List.mem_cons List.not_mem_nil not_or
 Option.map_some Option.map_none Option.bind_some List.length_cons List.length_nil List.length_append List.length_set cpl_length List.length_map List.length_replicate List.map_append List.map_set List.map_replicate List.getElem?_map List.getElem?_cons_zero List.getElem?_cons_succ List.drop_zero List.take_zero List.drop_succ_cons List.take_succ_cons List.take_nil List.drop_nil List.zip_cons_cons List.zip_nil_left List.zip_nil_right List.mapM_cons List.mapM_nil Option.pure_def Option.bind_eq_bind List.all_cons List.all_nil List.append_eq_nil_iff List.cons_ne_nil List.map_eq_nil_iff List.set_cons_zero List.set_cons_succ List.replicate_succ List.replicate_zero
 Nat.reduceEqDiff Nat.reduceLeDiff Nat.reduceAdd Nat.reduceSub Nat.reduceLT Nat.reduceMul Nat.reduceBEq Nat.ble_eq reduceIte reduceCtorEq Nat.add_zero Nat.sub_zero Nat.zero_add and_true true_and and_false false_and and_self or_true true_or false_or or_false if_true if_false Nat.one_ne_zero not_true not_false_eq_true not_false_iff Bool.false_eq_true forall_const true_implies false_implies implies_true BEq.rfl Bool.not_true Bool.not_false Bool.and_true Bool.true_and Bool.and_false Bool.false_and Bool.and_self Bool.true_bne Bool.false_bne not_true_eq_false List.nil_append List.append_nil List.cons_append dInt dBool Nat.le_refl Nat.le_add_right St.toT St.toTs ne_eq
 ff_set ff_setObj ff_setObjl ff_ini0 ff_iniS ff_ret ff_frz1 mg_get mg_obj0 mg_objS mg_up KBack_mg mrv_d mrv_nil mrv_ptr0 mrv_ptrS mrv_row0 mrv_rowS mrv_ag mrv_tp mrv_cl mrvs_nil mrvs_cons obm_box obm_rw obm_fz
 Sum.elim_inl Sum.elim_inr Option.some.injEq Ob.rw.injEq exists_eq2 eI eU8 eU64 eB eL eS_Latch eS_And eS_Circuit eS_Obligation eS_Wait eA4_Int eS_Trace oB0 oB1 oB2 oB3 oB4 oB5 oB6 oB7 at_queue_chain at_slices_ContainsFunc_of_Lbool at_slices_IndexFunc_of_Lbool at_traces_Check_1 at_values_Props_1 at_values_Props_2 at_values_list c_gates_Vars c_law38_so c_queue_Trace c_queue_chain c_ref02_Check c_ref04_After c_ref04_Bad c_ref04_Frame c_ref04_Holds c_ref04_Same c_ref04_Value c_ref06_All c_ref13_Lit c_ref13_Valid c_ref36_Great c_ref37_In c_ref38_Right c_slices_ContainsFunc_of_Lbool c_slices_Contains_of_bool c_slices_IndexFunc_of_Lbool c_slices_Index_of_bool c_traces_Check c_traces_Check_1 c_traces_First c_traces_starts c_values_All c_values_Props c_values_Props_1 c_values_Props_2 c_values_list c_values_of cloneX ex_slices_Clone_of_bool fn_gates_Check fn_gates_Vars fn_gates_starts fn_queue_Chain fn_queue_chain fn_ref02_Check fn_ref02_Great fn_ref02_Size fn_ref02_literals fn_ref04_After fn_ref04_Bad fn_ref04_Frame fn_ref04_Holds fn_ref04_Value fn_ref13_Lit fn_ref13_Valid fn_ref37_In fn_slices_Clone_of_bool fn_slices_ContainsFunc_of_Lbool fn_slices_Contains_of_bool fn_slices_IndexFunc_of_Lbool fn_slices_Index_of_bool fn_traces_Check_1 fn_traces_starts fn_values_All fn_values_Props_1 fn_values_Props_2 fn_values_list fn_values_of n_gates_Check n_gates_Vars n_gates_starts n_queue_Chain n_queue_chain n_ref02_Check n_ref02_Great n_ref02_Size n_ref02_literals n_ref04_After n_ref04_Bad n_ref04_Frame n_ref04_Holds n_ref04_Value n_ref13_Lit n_ref13_Valid n_ref37_In n_slices_ContainsFunc_of_Lbool n_slices_Contains_of_bool n_slices_IndexFunc_of_Lbool n_slices_Index_of_bool n_traces_Check_1 n_traces_starts n_values_All n_values_Props_1 n_values_Props_2 n_values_list n_values_of
noncomputable def b_ref02_Check_L0 (p0 : S_Circuit) (r1 : Int) (s0 : Int) : Option ((Int) ⊕ ((Unit) ⊕ (Unit))) :=
 if (decide (s0 < (p0.Latches.length : Int))) = true then
  ((idx p0.Latches s0).bind fun x3 =>
   (s_ref02_literals ([x3.Next] : List Int) r1).bind fun r4 =>
   if r4 = true then
    if (decide (x3.Reset < 0)) = true then
     some true
    else
     some (decide (x3.Reset > 2))
   else
    some true).bind fun x2 =>
  if x2 = true then
   some (Sum.inr (Sum.inr ()))
  else
   some (Sum.inl (IntKind.wrap .i64 (s0 + 1)))
 else
  some (Sum.inr (Sum.inl ()))
def I_ref02_Check_L0 (p0 : S_Circuit) (r1 : Int) (s0 : Int) (σ : St) : Prop := σ.get 1 = (.ptr 0 0 0) ∧ σ.get 3 = (.d true (.int .i64 r1)) ∧ σ.get 4 = (.d true (.int .i64 s0)) ∧ σ.obj 0 0 = oB1 p0 ∧ σ.up.length = 0
def J_ref02_Check_L0 (p0 : S_Circuit) (r1 : Int) (r : (Unit) ⊕ (Unit)) (e : Ex) (σ' : St) : Prop := (Sum.elim (fun o0 => e = (.exit 0) ∧ σ'.get 1 = (.ptr 0 0 0) ∧ σ'.obj 0 0 = oB1 p0 ∧ σ'.up.length = 0) (fun o1 => e = .ret ∧ σ'.get 2 = (.d true (.int .i64 8)) ∧ σ'.up.length = 0)) r
theorem L_ref02_Check_L0 (p0 : S_Circuit) (r1 : Int) {s : Int} {r : (Unit) ⊕ (Unit)} (h : Lp (b_ref02_Check_L0 p0 r1) s = some r) {σ : St} {Q : Ex → St → Prop} (hI : I_ref02_Check_L0 p0 r1 s σ) (hQ : ∀ e σ', J_ref02_Check_L0 p0 r1 r e σ' → Q e σ') : WC env (.loop c_ref02_Check_l1) σ Q :=
 WC_Lp (I_ref02_Check_L0 p0 r1) (J_ref02_Check_L0 p0 r1) (by
  clear h hI hQ
  clear s r σ Q
  intro s0 σ x hI h
  obtain ⟨f9, f10, f11, f12, f13⟩ := hI
  unfold b_ref02_Check_L0 at h
  replace h := itb h; rcases h with ⟨c7, h⟩ | ⟨c7, h⟩
  ·replace h := bsome h; obtain ⟨x2, H6, h⟩ := h
   try simp only [go_sem, c_ref02_Check_l1, *]
   refine WC.mono (Q := fun e σ' => e = .normal ∧ σ'.get 1 = (.ptr 0 0 0) ∧ σ'.get 3 = (.d true (.int .i64 r1)) ∧ σ'.get 4 = (.d true (.int .i64 s0)) ∧ σ'.get 78 = (.d true (.bool x2)) ∧ σ'.obj 0 0 = oB1 p0 ∧ σ'.up.length = 0) ?_ ?_
   ·replace h := H6
    clear H6
    replace h := bsome h; obtain ⟨x3, H7, h⟩ := h
    have n0 := idx_n H7; have q0 := idx_q H7; have y0 := idx_x H7
    replace h := bsome h; obtain ⟨r4, H8, h⟩ := h
    have k4 := AtCall_all (s_ref02_literals_ok H8); try dsimp only at k4
    try simp only [List.map_cons, List.map_nil, List.map_append, List.map_set, List.nil_append, List.map_replicate, eI, eU8, eB, eL, eS_Latch, eS_And, eS_Circuit, eS_Obligation, eS_Wait, eA4_Int, eS_Trace] at k4
    replace h := itb h; rcases h with ⟨c8, h⟩ | ⟨c8, h⟩
    ·replace h := itb h; rcases h with ⟨c9, h⟩ | ⟨c9, h⟩
     ·cases h
      simp only [go_sem, c_ref02_Check_l1, c_ref02_Check_p3, *]
     ·cases h
      simp only [go_sem, c_ref02_Check_l1, c_ref02_Check_p3, *]
    ·cases h
     simp only [go_sem, c_ref02_Check_l1, c_ref02_Check_p3, *]
   ·intro e τ hJ
    obtain ⟨rfl, f14, f15, f16, f17, f18, f19⟩ := hJ
    replace h := itb h; rcases h with ⟨c10, h⟩ | ⟨c10, h⟩
    ·cases h
     simp only [go_sem, LQ_inr, J_ref02_Check_L0, c_ref02_Check_l1, *]
    ·cases h
     simp only [go_sem, LQ_inl, I_ref02_Check_L0, c_ref02_Check_l1, *]
  ·cases h
   simp only [go_sem, LQ_inr, J_ref02_Check_L0, c_ref02_Check_l1, *]
) h hI hQ
def b_ref02_Check_L1 (p0 : S_Circuit) (s1 : Int) : Option ((Int) ⊕ ((Unit) ⊕ (Unit))) :=
 if (decide (s1 < (p0.Ands.length : Int))) = true then
  (idx p0.Ands s1).bind fun x3 =>
  (if (decide (x3.B < 0)) = true then
    some true
   else
    if (decide (x3.A < x3.B)) = true then
     some true
    else
     some (decide ((IntKind.wrap .i64 (Int.tdiv x3.A 2)) > (IntKind.wrap .i64 ((IntKind.wrap .i64 (p0.Inputs + (p0.Latches.length : Int))) + s1))))).bind fun x4 =>
  if x4 = true then
   some (Sum.inr (Sum.inr ()))
  else
   some (Sum.inl (IntKind.wrap .i64 (s1 + 1)))
 else
  some (Sum.inr (Sum.inl ()))
def I_ref02_Check_L1 (p0 : S_Circuit) (s1 : Int) (σ : St) : Prop := σ.get 1 = (.ptr 0 0 0) ∧ σ.get 5 = (.d true (.int .i64 s1)) ∧ σ.obj 0 0 = oB1 p0 ∧ σ.up.length = 0
def J_ref02_Check_L1 (p0 : S_Circuit) (r : (Unit) ⊕ (Unit)) (e : Ex) (σ' : St) : Prop := (Sum.elim (fun o0 => e = (.exit 2) ∧ σ'.up.length = 0) (fun o1 => e = .ret ∧ σ'.get 2 = (.d true (.int .i64 8)) ∧ σ'.up.length = 0)) r
theorem L_ref02_Check_L1 (p0 : S_Circuit) {s : Int} {r : (Unit) ⊕ (Unit)} (h : Lp (b_ref02_Check_L1 p0) s = some r) {σ : St} {Q : Ex → St → Prop} (hI : I_ref02_Check_L1 p0 s σ) (hQ : ∀ e σ', J_ref02_Check_L1 p0 r e σ' → Q e σ') : WC env (.loop c_ref02_Check_l2) σ Q :=
 WC_Lp (I_ref02_Check_L1 p0) (J_ref02_Check_L1 p0) (by
  clear h hI hQ
  clear s r σ Q
  intro s1 σ x hI h
  obtain ⟨f12, f13, f14, f15⟩ := hI
  unfold b_ref02_Check_L1 at h
  replace h := itb h; rcases h with ⟨c7, h⟩ | ⟨c7, h⟩
  ·replace h := bsome h; obtain ⟨x3, H7, h⟩ := h
   have n0 := idx_n H7; have q0 := idx_q H7; have y0 := idx_x H7
   replace h := bsome h; obtain ⟨x4, H8, h⟩ := h
   try simp only [go_sem, c_ref02_Check_l2, *]
   refine WC.mono (Q := fun e σ' => e = .normal ∧ σ'.get 1 = (.ptr 0 0 0) ∧ σ'.get 5 = (.d true (.int .i64 s1)) ∧ σ'.get 114 = (.d true (.bool x4)) ∧ σ'.obj 0 0 = oB1 p0 ∧ σ'.up.length = 0) ?_ ?_
   ·replace h := H8
    clear H8
    replace h := itb h; rcases h with ⟨c8, h⟩ | ⟨c8, h⟩
    ·cases h
     simp only [go_sem, c_ref02_Check_l2, c_ref02_Check_p4, *]
    ·replace h := itb h; rcases h with ⟨c9, h⟩ | ⟨c9, h⟩
     ·cases h
      simp only [go_sem, c_ref02_Check_l2, c_ref02_Check_p4, *]
     ·cases h
      simp only [go_sem, c_ref02_Check_l2, c_ref02_Check_p4, *]
   ·intro e τ hJ
    obtain ⟨rfl, f16, f17, f18, f19, f20⟩ := hJ
    replace h := itb h; rcases h with ⟨c10, h⟩ | ⟨c10, h⟩
    ·cases h
     simp only [go_sem, LQ_inr, J_ref02_Check_L1, c_ref02_Check_l2, *]
    ·cases h
     simp only [go_sem, LQ_inl, I_ref02_Check_L1, c_ref02_Check_l2, *]
  ·cases h
   simp only [go_sem, LQ_inr, J_ref02_Check_L1, c_ref02_Check_l2, *]
) h hI hQ
noncomputable def s_ref02_Check (p0 : S_Circuit) : Option (Int) :=
 if (decide (p0.Inputs < 0)) = true then
  some 8
 else
  (if (decide (p0.Inputs > 1000)) = true then
    some true
   else
    (s_ref02_Size p0).bind fun r0 =>
    if (decide (r0 > 1000)) = true then
     some true
    else
     if (decide ((p0.Bads.length : Int) > 100)) = true then
      some true
     else
      some (decide ((p0.Constraints.length : Int) > 100))).bind fun x0 =>
  if x0 = true then
   some 4
  else
   (s_ref02_Size p0).bind fun r1 =>
   ((s_ref02_literals p0.Bads r1).bind fun r2 =>
    if r2 = true then
     (s_ref02_literals p0.Constraints r1).bind fun r3 =>
     some (!r3)
    else
     some true).bind fun x1 =>
   if x1 = true then
    some 8
   else
    (Lp (b_ref02_Check_L0 p0 r1) 0).bind fun x2 =>
    match x2 with
    | .inl x2' =>
     (Lp (b_ref02_Check_L1 p0) 0).bind fun x3 =>
     match x3 with
     | .inl x3' =>
      some 0
     | .inr x3' =>
      some 8
    | .inr x2' =>
     some 8
theorem s_ref02_Check_ok {p0 : S_Circuit} {r : Int} (h : s_ref02_Check p0 = some r) : Ans env k_ref02_Check [(.ag [(.d true (.int .i64 p0.Inputs)), (.d false (.lst 2 (p0.Latches.map eS_Latch))), (.d false (.lst 2 (p0.Ands.map eS_And))), (.d false (.lst 1 (p0.Bads.map eI))), (.d false (.lst 1 (p0.Constraints.map eI)))])] (.d true (.int .i64 r)) := by
 unfold s_ref02_Check at h
 unfold Ans
 rw [AtF fn_ref02_Check]
 simp only [n_ref02_Check]
 replace h := itb h; rcases h with ⟨c0, h⟩ | ⟨c0, h⟩
 ·cases h
  simp only [go_sem, *]
  exact ⟨_, rfl⟩
 ·replace h := bsome h; obtain ⟨x0, H0, h⟩ := h
  try simp only [go_sem, *]
  refine WC.mono (Q := fun e σ' => e = .normal ∧ σ'.get 1 = (.ptr 0 0 0) ∧ σ'.get 29 = (.d true (.bool x0)) ∧ σ'.obj 0 0 = oB1 p0 ∧ σ'.up.length = 0) ?_ ?_
  ·replace h := H0
   clear H0
   replace h := itb h; rcases h with ⟨c1, h⟩ | ⟨c1, h⟩
   ·cases h
    simp only [go_sem, c_ref02_Check_p1, *]
   ·replace h := bsome h; obtain ⟨r0, H1, h⟩ := h
    have k0 := AtCall_all (s_ref02_Size_ok H1); try dsimp only at k0
    replace h := itb h; rcases h with ⟨c2, h⟩ | ⟨c2, h⟩
    ·cases h
     simp only [go_sem, c_ref02_Check_p1, *]
    ·replace h := itb h; rcases h with ⟨c3, h⟩ | ⟨c3, h⟩
     ·cases h
      simp only [go_sem, c_ref02_Check_p1, *]
     ·cases h
      simp only [go_sem, c_ref02_Check_p1, *]
  ·intro e τ hJ
   obtain ⟨rfl, f0, f1, f2, f3⟩ := hJ
   replace h := itb h; rcases h with ⟨c4, h⟩ | ⟨c4, h⟩
   ·cases h
    simp only [go_sem, *]
    exact ⟨_, rfl⟩
   ·replace h := bsome h; obtain ⟨r1, H2, h⟩ := h
    have k1 := AtCall_all (s_ref02_Size_ok H2); try dsimp only at k1
    replace h := bsome h; obtain ⟨x1, H3, h⟩ := h
    try simp only [go_sem, *]
    refine WC.mono (Q := fun e σ' => e = .normal ∧ σ'.get 1 = (.ptr 0 0 0) ∧ σ'.get 3 = (.d true (.int .i64 r1)) ∧ σ'.get 43 = (.d true (.bool x1)) ∧ σ'.obj 0 0 = oB1 p0 ∧ σ'.up.length = 0) ?_ ?_
    ·replace h := H3
     clear H3
     replace h := bsome h; obtain ⟨r2, H4, h⟩ := h
     have k2 := AtCall_all (s_ref02_literals_ok H4); try dsimp only at k2
     replace h := itb h; rcases h with ⟨c5, h⟩ | ⟨c5, h⟩
     ·replace h := bsome h; obtain ⟨r3, H5, h⟩ := h
      have k3 := AtCall_all (s_ref02_literals_ok H5); try dsimp only at k3
      cases h
      simp only [go_sem, c_ref02_Check_p2, *]
     ·cases h
      simp only [go_sem, c_ref02_Check_p2, *]
    ·intro e τ hJ
     obtain ⟨rfl, f4, f5, f6, f7, f8⟩ := hJ
     replace h := itb h; rcases h with ⟨c6, h⟩ | ⟨c6, h⟩
     ·cases h
      simp only [go_sem, *]
      exact ⟨_, rfl⟩
     ·replace h := bsome h; obtain ⟨x2, H6, h⟩ := h
      try simp only [go_sem, *]
      refine L_ref02_Check_L0 p0 r1 H6 ?_ ?_
      ·clear h
       simp only [go_sem, I_ref02_Check_L0, *]
      ·intro e τ hJ
       rcases x2 with x2' | x2'
       ·obtain ⟨rfl, f9, f10, f11⟩ := hJ
        replace h := bsome h; obtain ⟨x3, H7, h⟩ := h
        try simp only [go_sem, *]
        refine L_ref02_Check_L1 p0 H7 ?_ ?_
        ·clear h
         simp only [go_sem, I_ref02_Check_L1, *]
        ·intro e τ hJ
         rcases x3 with x3' | x3'
         ·obtain ⟨rfl, f12⟩ := hJ
          cases h
          simp only [go_sem, *]
          exact ⟨_, rfl⟩
         ·obtain ⟨rfl, f13, f14⟩ := hJ
          cases h
          simp only [go_sem, *]
          exact ⟨_, rfl⟩
       ·obtain ⟨rfl, f15, f16⟩ := hJ
        cases h
        simp only [go_sem, *]
        exact ⟨_, rfl⟩
noncomputable def s_ref36_Great (p0 : S_Circuit) : Option (Bool) :=
 (s_ref02_Great p0).bind fun r0 =>
 if r0 = true then
  some true
 else
  ((s_ref02_Check p0).bind fun r1 =>
   if (r1 == 0) = true then
    (s_ref02_Size p0).bind fun r2 =>
    if (decide (r2 > 40)) = true then
     some true
    else
     if (decide ((p0.Bads.length : Int) > 10)) = true then
      some true
     else
      some (decide ((p0.Constraints.length : Int) > 10))
   else
    some false).bind fun x0 =>
  some x0
theorem s_ref36_Great_ok {p0 : S_Circuit} {r : Bool} (h : s_ref36_Great p0 = some r) : Ans env k_ref36_Great [(.ag [(.d true (.int .i64 p0.Inputs)), (.d false (.lst 2 (p0.Latches.map eS_Latch))), (.d false (.lst 2 (p0.Ands.map eS_And))), (.d false (.lst 1 (p0.Bads.map eI))), (.d false (.lst 1 (p0.Constraints.map eI)))])] (.d true (.bool r)) := by
 unfold s_ref36_Great at h
 unfold Ans
 rw [AtF fn_ref36_Great]
 simp only [n_ref36_Great]
 replace h := bsome h; obtain ⟨r0, H0, h⟩ := h
 have k0 := AtCall_all (s_ref02_Great_ok H0); try dsimp only at k0
 replace h := itb h; rcases h with ⟨c0, h⟩ | ⟨c0, h⟩
 ·cases h
  simp only [go_sem, *]
  exact ⟨_, rfl⟩
 ·replace h := bsome h; obtain ⟨x0, H1, h⟩ := h
  try simp only [go_sem, *]
  refine WC.mono (Q := fun e σ' => e = .normal ∧ σ'.get 2 = (.d true (.bool x0)) ∧ σ'.up.length = 0) ?_ ?_
  ·replace h := H1
   clear H1
   replace h := bsome h; obtain ⟨r1, H2, h⟩ := h
   have k1 := AtCall_all (s_ref02_Check_ok H2); try dsimp only at k1
   replace h := itb h; rcases h with ⟨c1, h⟩ | ⟨c1, h⟩
   ·replace h := bsome h; obtain ⟨r2, H3, h⟩ := h
    have k2 := AtCall_all (s_ref02_Size_ok H3); try dsimp only at k2
    replace h := itb h; rcases h with ⟨c2, h⟩ | ⟨c2, h⟩
    ·cases h
     simp only [go_sem, c_ref36_Great_p1, *]
    ·replace h := itb h; rcases h with ⟨c3, h⟩ | ⟨c3, h⟩
     ·cases h
      simp only [go_sem, c_ref36_Great_p1, *]
     ·cases h
      simp only [go_sem, c_ref36_Great_p1, *]
   ·cases h
    simp only [go_sem, c_ref36_Great_p1, *]
  ·intro e τ hJ
   obtain ⟨rfl, f0, f1⟩ := hJ
   cases h
   simp only [go_sem, *]
   exact ⟨_, rfl⟩
def s_ref13_Lit (p0 : Int) (p1 : Int) : Option (Bool) :=
 (if (decide (p1 ≥ 2)) = true then
   some (decide (p1 ≤ (IntKind.wrap .i64 ((IntKind.wrap .i64 (2 * p0)) + 1))))
  else
   some false).bind fun x0 =>
 some x0
theorem s_ref13_Lit_ok {p0 : Int} {p1 : Int} {r : Bool} (h : s_ref13_Lit p0 p1 = some r) : Ans env k_ref13_Lit [(.d true (.int .i64 p0)), (.d true (.int .i64 p1))] (.d true (.bool r)) := by
 unfold s_ref13_Lit at h
 unfold Ans
 rw [AtF fn_ref13_Lit]
 simp only [n_ref13_Lit]
 replace h := bsome h; obtain ⟨x0, H0, h⟩ := h
 try simp only [go_sem, *]
 refine WC.mono (Q := fun e σ' => e = .normal ∧ σ'.get 4 = (.d true (.bool x0)) ∧ σ'.up.length = 0) ?_ ?_
 ·replace h := H0
  clear H0
  replace h := itb h; rcases h with ⟨c0, h⟩ | ⟨c0, h⟩
  ·cases h
   simp only [go_sem, c_ref13_Lit_p1, *]
  ·cases h
   simp only [go_sem, c_ref13_Lit_p1, *]
 ·intro e τ hJ
  obtain ⟨rfl, f0, f1⟩ := hJ
  cases h
  simp only [go_sem, *]
  exact ⟨_, rfl⟩
noncomputable def b_ref13_Valid_L0 (p0 : Int) (p1 : (List Int)) (s0 : Int) : Option ((Int) ⊕ ((Unit) ⊕ (Unit))) :=
 if (decide (s0 < (p1.length : Int))) = true then
  ((idx p1 s0).bind fun x1 =>
   (s_ref13_Lit p0 x1).bind fun r0 =>
   if r0 = true then
    if (decide (s0 > 0)) = true then
     (idx p1 (IntKind.wrap .i64 (s0 - 1))).bind fun x2 =>
     if (decide ((IntKind.wrap .i64 (x1 - x2)) < 1)) = true then
      some true
     else
      if ((Int.tmod x2 2) == 0) = true then
       some (x1 == (IntKind.wrap .i64 (x2 + 1)))
      else
       some false
    else
     some false
   else
    some true).bind fun x0 =>
  if x0 = true then
   some (Sum.inr (Sum.inr ()))
  else
   some (Sum.inl (IntKind.wrap .i64 (s0 + 1)))
 else
  some (Sum.inr (Sum.inl ()))
def I_ref13_Valid_L0 (p0 : Int) (p1 : (List Int)) (s0 : Int) (σ : St) : Prop := σ.get 0 = (.d true (.int .i64 p0)) ∧ σ.get 1 = (.d false (.lst 1 (p1.map eI))) ∧ σ.get 5 = (.d true (.int .i64 s0)) ∧ σ.up.length = 0
def J_ref13_Valid_L0 (p0 : Int) (p1 : (List Int)) (r : (Unit) ⊕ (Unit)) (e : Ex) (σ' : St) : Prop := (Sum.elim (fun o0 => e = (.exit 0) ∧ σ'.up.length = 0) (fun o1 => e = .ret ∧ σ'.get 4 = (.d true (.bool false)) ∧ σ'.up.length = 0)) r
theorem L_ref13_Valid_L0 (p0 : Int) (p1 : (List Int)) {s : Int} {r : (Unit) ⊕ (Unit)} (h : Lp (b_ref13_Valid_L0 p0 p1) s = some r) {σ : St} {Q : Ex → St → Prop} (hI : I_ref13_Valid_L0 p0 p1 s σ) (hQ : ∀ e σ', J_ref13_Valid_L0 p0 p1 r e σ' → Q e σ') : WC env (.loop c_ref13_Valid_l1) σ Q :=
 WC_Lp (I_ref13_Valid_L0 p0 p1) (J_ref13_Valid_L0 p0 p1) (by
  clear h hI hQ
  clear s r σ Q
  intro s0 σ x hI h
  obtain ⟨f0, f1, f2, f3⟩ := hI
  unfold b_ref13_Valid_L0 at h
  replace h := itb h; rcases h with ⟨c0, h⟩ | ⟨c0, h⟩
  ·replace h := bsome h; obtain ⟨x0, H0, h⟩ := h
   try simp only [go_sem, c_ref13_Valid_l1, *]
   refine WC.mono (Q := fun e σ' => e = .normal ∧ σ'.get 0 = (.d true (.int .i64 p0)) ∧ σ'.get 1 = (.d false (.lst 1 (p1.map eI))) ∧ σ'.get 5 = (.d true (.int .i64 s0)) ∧ σ'.get 61 = (.d true (.bool x0)) ∧ σ'.up.length = 0) ?_ ?_
   ·replace h := H0
    clear H0
    replace h := bsome h; obtain ⟨x1, H1, h⟩ := h
    have n0 := idx_n H1; have q0 := idx_q H1; have y0 := idx_x H1
    replace h := bsome h; obtain ⟨r0, H2, h⟩ := h
    have k0 := AtCall_all (s_ref13_Lit_ok H2); try dsimp only at k0
    replace h := itb h; rcases h with ⟨c1, h⟩ | ⟨c1, h⟩
    ·replace h := itb h; rcases h with ⟨c2, h⟩ | ⟨c2, h⟩
     ·replace h := bsome h; obtain ⟨x2, H3, h⟩ := h
      have n1 := idx_n H3; have q1 := idx_q H3; have y1 := idx_x H3
      replace h := itb h; rcases h with ⟨c3, h⟩ | ⟨c3, h⟩
      ·cases h
       simp only [go_sem, c_ref13_Valid_l1, c_ref13_Valid_p1, *]
      ·replace h := itb h; rcases h with ⟨c4, h⟩ | ⟨c4, h⟩
       ·cases h
        simp only [go_sem, c_ref13_Valid_l1, c_ref13_Valid_p1, *]
       ·cases h
        simp only [go_sem, c_ref13_Valid_l1, c_ref13_Valid_p1, *]
     ·cases h
      simp only [go_sem, c_ref13_Valid_l1, c_ref13_Valid_p1, *]
    ·cases h
     simp only [go_sem, c_ref13_Valid_l1, c_ref13_Valid_p1, *]
   ·intro e τ hJ
    obtain ⟨rfl, f4, f5, f6, f7, f8⟩ := hJ
    replace h := itb h; rcases h with ⟨c5, h⟩ | ⟨c5, h⟩
    ·cases h
     simp only [go_sem, LQ_inr, J_ref13_Valid_L0, c_ref13_Valid_l1, *]
    ·cases h
     simp only [go_sem, LQ_inl, I_ref13_Valid_L0, c_ref13_Valid_l1, *]
  ·cases h
   simp only [go_sem, LQ_inr, J_ref13_Valid_L0, c_ref13_Valid_l1, *]
) h hI hQ
noncomputable def s_ref13_Valid (p0 : Int) (p1 : (List Int)) : Option (Bool) :=
 (Lp (b_ref13_Valid_L0 p0 p1) 0).bind fun x0 =>
 match x0 with
 | .inl x0' =>
  some true
 | .inr x0' =>
  some false
theorem s_ref13_Valid_ok {p0 : Int} {p1 : (List Int)} {r : Bool} (h : s_ref13_Valid p0 p1 = some r) : Ans env k_ref13_Valid [(.d true (.int .i64 p0)), (.d false (.lst 1 (p1.map eI)))] (.d true (.bool r)) := by
 unfold s_ref13_Valid at h
 unfold Ans
 rw [AtF fn_ref13_Valid]
 simp only [n_ref13_Valid]
 replace h := bsome h; obtain ⟨x0, H0, h⟩ := h
 try simp only [go_sem, *]
 refine L_ref13_Valid_L0 p0 p1 H0 ?_ ?_
 ·clear h
  simp only [go_sem, I_ref13_Valid_L0, *]
 ·intro e τ hJ
  rcases x0 with x0' | x0'
  ·obtain ⟨rfl, f0⟩ := hJ
   cases h
   simp only [go_sem, *]
   exact ⟨_, rfl⟩
  ·obtain ⟨rfl, f1, f2⟩ := hJ
   cases h
   simp only [go_sem, *]
   exact ⟨_, rfl⟩
noncomputable def b_ref38_Right_L0 (p0 : S_Circuit) (p1 : (List S_Obligation)) (s0 : Int) : Option ((Int) ⊕ ((Unit) ⊕ (Unit))) :=
 if (decide (s0 < (p1.length : Int))) = true then
  ((idx p1 s0).bind fun x1 =>
   (s_ref13_Valid (p0.Latches.length : Int) x1.Cube).bind fun r1 =>
   if r1 = true then
    if ((x1.Inputs.length : Int) != p0.Inputs) = true then
     some true
    else
     if (decide (x1.Next < (-1))) = true then
      some true
     else
      some (decide (x1.Next ≥ s0))
   else
    some true).bind fun x0 =>
  if x0 = true then
   some (Sum.inr (Sum.inr ()))
  else
   some (Sum.inl (IntKind.wrap .i64 (s0 + 1)))
 else
  some (Sum.inr (Sum.inl ()))
def I_ref38_Right_L0 (p0 : S_Circuit) (p1 : (List S_Obligation)) (s0 : Int) (σ : St) : Prop := σ.get 1 = (.d false (.lst 3 (p1.map eS_Obligation))) ∧ σ.get 2 = (.ptr 0 0 0) ∧ σ.get 6 = (.d true (.int .i64 s0)) ∧ σ.obj 0 0 = oB1 p0 ∧ σ.up.length = 0
def J_ref38_Right_L0 (p0 : S_Circuit) (p1 : (List S_Obligation)) (r : (Unit) ⊕ (Unit)) (e : Ex) (σ' : St) : Prop := (Sum.elim (fun o0 => e = (.exit 0) ∧ σ'.up.length = 0) (fun o1 => e = .ret ∧ σ'.get 4 = (.d true (.int .i64 8)) ∧ σ'.up.length = 0)) r
theorem L_ref38_Right_L0 (p0 : S_Circuit) (p1 : (List S_Obligation)) {s : Int} {r : (Unit) ⊕ (Unit)} (h : Lp (b_ref38_Right_L0 p0 p1) s = some r) {σ : St} {Q : Ex → St → Prop} (hI : I_ref38_Right_L0 p0 p1 s σ) (hQ : ∀ e σ', J_ref38_Right_L0 p0 p1 r e σ' → Q e σ') : WC env (.loop c_ref38_Right_l1) σ Q :=
 WC_Lp (I_ref38_Right_L0 p0 p1) (J_ref38_Right_L0 p0 p1) (by
  clear h hI hQ
  clear s r σ Q
  intro s0 σ x hI h
  obtain ⟨f0, f1, f2, f3, f4⟩ := hI
  unfold b_ref38_Right_L0 at h
  replace h := itb h; rcases h with ⟨c2, h⟩ | ⟨c2, h⟩
  ·replace h := bsome h; obtain ⟨x0, H1, h⟩ := h
   try simp only [go_sem, c_ref38_Right_l1, *]
   refine WC.mono (Q := fun e σ' => e = .normal ∧ σ'.get 1 = (.d false (.lst 3 (p1.map eS_Obligation))) ∧ σ'.get 2 = (.ptr 0 0 0) ∧ σ'.get 6 = (.d true (.int .i64 s0)) ∧ σ'.get 58 = (.d true (.bool x0)) ∧ σ'.obj 0 0 = oB1 p0 ∧ σ'.up.length = 0) ?_ ?_
   ·replace h := H1
    clear H1
    replace h := bsome h; obtain ⟨x1, H2, h⟩ := h
    have n0 := idx_n H2; have q0 := idx_q H2; have y0 := idx_x H2
    replace h := bsome h; obtain ⟨r1, H3, h⟩ := h
    have k1 := AtCall_all (s_ref13_Valid_ok H3); try dsimp only at k1
    replace h := itb h; rcases h with ⟨c3, h⟩ | ⟨c3, h⟩
    ·replace h := itb h; rcases h with ⟨c4, h⟩ | ⟨c4, h⟩
     ·cases h
      simp only [go_sem, c_ref38_Right_l1, c_ref38_Right_p1, *]
     ·replace h := itb h; rcases h with ⟨c5, h⟩ | ⟨c5, h⟩
      ·cases h
       simp only [go_sem, c_ref38_Right_l1, c_ref38_Right_p1, *]
      ·cases h
       simp only [go_sem, c_ref38_Right_l1, c_ref38_Right_p1, *]
    ·cases h
     simp only [go_sem, c_ref38_Right_l1, c_ref38_Right_p1, *]
   ·intro e τ hJ
    obtain ⟨rfl, f5, f6, f7, f8, f9, f10⟩ := hJ
    replace h := itb h; rcases h with ⟨c6, h⟩ | ⟨c6, h⟩
    ·cases h
     simp only [go_sem, LQ_inr, J_ref38_Right_L0, c_ref38_Right_l1, *]
    ·cases h
     simp only [go_sem, LQ_inl, I_ref38_Right_L0, c_ref38_Right_l1, *]
  ·cases h
   simp only [go_sem, LQ_inr, J_ref38_Right_L0, c_ref38_Right_l1, *]
) h hI hQ
noncomputable def s_ref38_Right (p0 : S_Circuit) (p1 : (List S_Obligation)) : Option (Int) :=
 (s_ref02_Check p0).bind fun r0 =>
 if (r0 != 0) = true then
  some r0
 else
  if (decide ((p1.length : Int) > 1000)) = true then
   some 4
  else
   (Lp (b_ref38_Right_L0 p0 p1) 0).bind fun x0 =>
   match x0 with
   | .inl x0' =>
    some 0
   | .inr x0' =>
    some 8
theorem s_ref38_Right_ok {p0 : S_Circuit} {p1 : (List S_Obligation)} {r : Int} (h : s_ref38_Right p0 p1 = some r) : Ans env k_ref38_Right [(.ag [(.d true (.int .i64 p0.Inputs)), (.d false (.lst 2 (p0.Latches.map eS_Latch))), (.d false (.lst 2 (p0.Ands.map eS_And))), (.d false (.lst 1 (p0.Bads.map eI))), (.d false (.lst 1 (p0.Constraints.map eI)))]), (.d false (.lst 3 (p1.map eS_Obligation)))] (.d true (.int .i64 r)) := by
 unfold s_ref38_Right at h
 unfold Ans
 rw [AtF fn_ref38_Right]
 simp only [n_ref38_Right]
 replace h := bsome h; obtain ⟨r0, H0, h⟩ := h
 have k0 := AtCall_all (s_ref02_Check_ok H0); try dsimp only at k0
 replace h := itb h; rcases h with ⟨c0, h⟩ | ⟨c0, h⟩
 ·cases h
  simp only [go_sem, *]
  exact ⟨_, rfl⟩
 ·replace h := itb h; rcases h with ⟨c1, h⟩ | ⟨c1, h⟩
  ·cases h
   simp only [go_sem, *]
   exact ⟨_, rfl⟩
  ·replace h := bsome h; obtain ⟨x0, H1, h⟩ := h
   try simp only [go_sem, *]
   refine L_ref38_Right_L0 p0 p1 H1 ?_ ?_
   ·clear h
    simp only [go_sem, I_ref38_Right_L0, *]
   ·intro e τ hJ
    rcases x0 with x0' | x0'
    ·obtain ⟨rfl, f0⟩ := hJ
     cases h
     simp only [go_sem, *]
     exact ⟨_, rfl⟩
    ·obtain ⟨rfl, f1, f2⟩ := hJ
     cases h
     simp only [go_sem, *]
     exact ⟨_, rfl⟩
noncomputable def s_queue_Trace (p0 : S_Circuit) (p1 : (List S_Obligation)) (p2 : Int) (p3 : (List Bool)) (p4 : (List Bool)) : Option (S_Trace × Int) :=
 (s_queue_Chain p0 p1 p2).bind fun r0 =>
 if (r0.2 != 0) = true then
  some ((S_Trace.mk ([] : List Bool) ([] : List (List Bool))), r0.2)
 else
  (if ((p3.length : Int) != (p0.Latches.length : Int)) = true then
    some true
   else
    some ((p4.length : Int) != p0.Inputs)).bind fun x0 =>
  if x0 = true then
   some ((S_Trace.mk ([] : List Bool) ([] : List (List Bool))), 2)
  else
   if (decide ((r0.1.length : Int) ≥ 100)) = true then
    some ((S_Trace.mk ([] : List Bool) ([] : List (List Bool))), 4)
   else
    if p3.length ≤ big then
     if p4.length ≤ big then
      (chn (fun o : S_Obligation => o.Next) p1 p2).bind fun x1 =>
      (selM (fun o : S_Obligation => o.Inputs) p1 x1).bind fun y0 =>
      if ([p4] : List (List Bool)).length + x1.length ≤ big then
       if ∀ o ∈ p1, o.Inputs.length ≤ big then
        some ((S_Trace.mk p3 (([p4] : List (List Bool)) ++ y0)), 0)
       else none
      else none
     else none
    else none
theorem s_queue_Trace_ok {p0 : S_Circuit} {p1 : (List S_Obligation)} {p2 : Int} {p3 : (List Bool)} {p4 : (List Bool)} {r : S_Trace × Int} (h : s_queue_Trace p0 p1 p2 p3 p4 = some r) : Ans env k_queue_Trace [(.ag [(.d true (.int .i64 p0.Inputs)), (.d false (.lst 2 (p0.Latches.map eS_Latch))), (.d false (.lst 2 (p0.Ands.map eS_And))), (.d false (.lst 1 (p0.Bads.map eI))), (.d false (.lst 1 (p0.Constraints.map eI)))]), (.d false (.lst 3 (p1.map eS_Obligation))), (.d true (.int .i64 p2)), (.d false (.lst 1 (p3.map eB))), (.d false (.lst 1 (p4.map eB)))] (.tp [(.ag [(.d true (.lst 1 (r.1.First.map eB))), (.d true (.lst 1 (r.1.Inputs.map (eL 1 eB))))]), (.d true (.int .i64 r.2))]) := by
 unfold s_queue_Trace at h
 unfold Ans
 rw [AtF fn_queue_Trace]
 simp only [n_queue_Trace]
 replace h := bsome h; obtain ⟨r0, H0, h⟩ := h
 have k0 := AtCall_all (s_queue_Chain_ok H0); try dsimp only at k0
 replace h := itb h; rcases h with ⟨c0, h⟩ | ⟨c0, h⟩
 ·cases h
  simp only [go_sem, *]
  exact ⟨_, rfl⟩
 ·replace h := bsome h; obtain ⟨x0, H1, h⟩ := h
  try simp only [go_sem, *]
  refine WC.mono (Q := fun e σ' => e = .normal ∧ σ'.get 2 = (.d true (.int .i64 p2)) ∧ σ'.get 3 = (.d false (.lst 1 (p3.map eB))) ∧ σ'.get 4 = (.d false (.lst 1 (p4.map eB))) ∧ σ'.get 6 = (.ptr 0 1 0) ∧ σ'.get 10 = (.ptr 0 2 0) ∧ σ'.get 12 = (.d true (.lst 1 (r0.1.map eI))) ∧ σ'.get 39 = (.d true (.bool x0)) ∧ σ'.obj 0 1 = some (.box [(.d false (.lst 3 (p1.map eS_Obligation)))]) ∧ σ'.obj 0 2 = oB5 (([] : List Bool).length) (([] : List (List Bool)).length) ∧ σ'.obj 0 3 = some (.rw 1 (([] : List Bool).map eB) false) ∧ σ'.obj 0 4 = some (.rw 1 (([] : List (List Bool)).map (eL 1 eB)) false) ∧ σ'.obj 0 5 = none ∧ σ'.obj 0 6 = none ∧ σ'.obj 0 7 = none ∧ σ'.obj 0 8 = none ∧ FreeFrom σ' 0 41 ∧ σ'.up.length = 0) ?_ ?_
  ·replace h := H1
   clear H1
   replace h := itb h; rcases h with ⟨c1, h⟩ | ⟨c1, h⟩
   ·cases h
    simp only [go_sem, c_queue_Trace_p1, *]
   ·cases h
    simp only [go_sem, c_queue_Trace_p1, *]
  ·intro e τ hJ
   obtain ⟨rfl, f0, f1, f2, f3, f4, f5, f6, f7, f8, f9, f10, f11, f12, f13, f14, f15, f16⟩ := hJ
   replace h := itb h; rcases h with ⟨c2, h⟩ | ⟨c2, h⟩
   ·cases h
    simp only [go_sem, *]
    exact ⟨_, rfl⟩
   ·replace h := itb h; rcases h with ⟨c3, h⟩ | ⟨c3, h⟩
    ·cases h
     simp only [go_sem, *]
     exact ⟨_, rfl⟩
    ·replace h := need h; obtain ⟨H2, h⟩ := h
     replace h := need h; obtain ⟨H3, h⟩ := h
     replace h := bsome h; obtain ⟨x1, H4, h⟩ := h
     replace h := bsome h; obtain ⟨y0, H5, h⟩ := h
     replace h := need h; obtain ⟨H6, h⟩ := h
     replace h := need h; obtain ⟨H7, h⟩ := h
     try simp only [go_sem, (show isMrg 41 = true from isMrg_odd 20), *]
     refine WC_traceRf (enc := eS_Obligation) (ca := fun o => .lst 1 (o.Cube.map eI)) (f := fun o => o.Inputs) (nx := fun o => o.Next) (es := ([p4] : List (List Bool))) (p := false) (gr := false) (fs := (.lst 1 (p3.map eB))) (fun _ => rfl) H4 H5 H6 H7 ?_ ?_ ?_ ?_ ?_ ?_ ?_ ?_ ?_
     ·simp only [go_sem, (show isMrg 41 = true from isMrg_odd 20), *]
     ·simp only [go_sem, (show isMrg 41 = true from isMrg_odd 20), *]
     ·simp only [go_sem, (show isMrg 41 = true from isMrg_odd 20), *]
     ·simp only [go_sem, (show isMrg 41 = true from isMrg_odd 20), *]
     ·simp only [go_sem, (show isMrg 41 = true from isMrg_odd 20), *]
     ·simp only [go_sem, (show isMrg 41 = true from isMrg_odd 20), *]
     ·simp only [go_sem, (show isMrg 41 = true from isMrg_odd 20), *]
     ·simp only [go_sem, (show isMrg 41 = true from isMrg_odd 20), *]
     ·intro τ f17 f18 f19 ⟨gr_0_5, f20⟩ f21
      cases h
      simp only [go_sem, (show isMrg 41 = true from isMrg_odd 20), *]
      exact ⟨_, rfl⟩
def b_ref04_Same_L0 (p0 : (List Bool)) (p1 : (List Bool)) (s0 : Int) : Option ((Int) ⊕ ((Unit) ⊕ (Unit))) :=
 if (decide (s0 < (p0.length : Int))) = true then
  (idx p0 s0).bind fun x0 =>
  (idx p1 s0).bind fun x1 =>
  if ((x0 == x1) != true) = true then
   some (Sum.inr (Sum.inr ()))
  else
   some (Sum.inl (IntKind.wrap .i64 (s0 + 1)))
 else
  some (Sum.inr (Sum.inl ()))
def I_ref04_Same_L0 (p0 : (List Bool)) (p1 : (List Bool)) (s0 : Int) (σ : St) : Prop := σ.get 0 = (.d false (.lst 1 (p0.map eB))) ∧ σ.get 1 = (.d false (.lst 1 (p1.map eB))) ∧ σ.get 5 = (.d true (.int .i64 s0)) ∧ σ.up.length = 0
def J_ref04_Same_L0 (p0 : (List Bool)) (p1 : (List Bool)) (r : (Unit) ⊕ (Unit)) (e : Ex) (σ' : St) : Prop := (Sum.elim (fun o0 => e = (.exit 0) ∧ σ'.up.length = 0) (fun o1 => e = .ret ∧ σ'.get 4 = (.d true (.bool false)) ∧ σ'.up.length = 0)) r
theorem L_ref04_Same_L0 (p0 : (List Bool)) (p1 : (List Bool)) {s : Int} {r : (Unit) ⊕ (Unit)} (h : Lp (b_ref04_Same_L0 p0 p1) s = some r) {σ : St} {Q : Ex → St → Prop} (hI : I_ref04_Same_L0 p0 p1 s σ) (hQ : ∀ e σ', J_ref04_Same_L0 p0 p1 r e σ' → Q e σ') : WC env (.loop c_ref04_Same_l1) σ Q :=
 WC_Lp (I_ref04_Same_L0 p0 p1) (J_ref04_Same_L0 p0 p1) (by
  clear h hI hQ
  clear s r σ Q
  intro s0 σ x hI h
  obtain ⟨f0, f1, f2, f3⟩ := hI
  unfold b_ref04_Same_L0 at h
  replace h := itb h; rcases h with ⟨c1, h⟩ | ⟨c1, h⟩
  ·replace h := bsome h; obtain ⟨x0, H0, h⟩ := h
   have n0 := idx_n H0; have q0 := idx_q H0; have y0 := idx_x H0
   replace h := bsome h; obtain ⟨x1, H1, h⟩ := h
   have n1 := idx_n H1; have q1 := idx_q H1; have y1 := idx_x H1
   replace h := itb h; rcases h with ⟨c2, h⟩ | ⟨c2, h⟩
   ·cases h
    simp only [go_sem, LQ_inr, J_ref04_Same_L0, c_ref04_Same_l1, *]
   ·cases h
    simp only [go_sem, LQ_inl, I_ref04_Same_L0, c_ref04_Same_l1, *]
  ·cases h
   simp only [go_sem, LQ_inr, J_ref04_Same_L0, c_ref04_Same_l1, *]
) h hI hQ
noncomputable def s_ref04_Same (p0 : (List Bool)) (p1 : (List Bool)) : Option (Bool) :=
 if ((p0.length : Int) != (p1.length : Int)) = true then
  some false
 else
  (Lp (b_ref04_Same_L0 p0 p1) 0).bind fun x0 =>
  match x0 with
  | .inl x0' =>
   some true
  | .inr x0' =>
   some false
theorem s_ref04_Same_ok {p0 : (List Bool)} {p1 : (List Bool)} {r : Bool} (h : s_ref04_Same p0 p1 = some r) : Ans env k_ref04_Same [(.d false (.lst 1 (p0.map eB))), (.d false (.lst 1 (p1.map eB)))] (.d true (.bool r)) := by
 unfold s_ref04_Same at h
 unfold Ans
 rw [AtF fn_ref04_Same]
 simp only [n_ref04_Same]
 replace h := itb h; rcases h with ⟨c0, h⟩ | ⟨c0, h⟩
 ·cases h
  simp only [go_sem, *]
  exact ⟨_, rfl⟩
 ·replace h := bsome h; obtain ⟨x0, H0, h⟩ := h
  try simp only [go_sem, *]
  refine L_ref04_Same_L0 p0 p1 H0 ?_ ?_
  ·clear h
   simp only [go_sem, I_ref04_Same_L0, *]
  ·intro e τ hJ
   rcases x0 with x0' | x0'
   ·obtain ⟨rfl, f0⟩ := hJ
    cases h
    simp only [go_sem, *]
    exact ⟨_, rfl⟩
   ·obtain ⟨rfl, f1, f2⟩ := hJ
    cases h
    simp only [go_sem, *]
    exact ⟨_, rfl⟩
def b_traces_starts_L0 (p0 : S_Circuit) (p1 : (List Bool)) (s0 : Int) : Option ((Int) ⊕ ((Unit) ⊕ (Unit))) :=
 if (decide (s0 < (p0.Latches.length : Int))) = true then
  (idx p0.Latches s0).bind fun x0 =>
  (if (x0.Reset != 2) = true then
    (idx p1 s0).bind fun x2 =>
    some ((x2 == (x0.Reset == 1)) != true)
   else
    some false).bind fun x1 =>
  if x1 = true then
   some (Sum.inr (Sum.inr ()))
  else
   some (Sum.inl (IntKind.wrap .i64 (s0 + 1)))
 else
  some (Sum.inr (Sum.inl ()))
def I_traces_starts_L0 (p0 : S_Circuit) (p1 : (List Bool)) (s0 : Int) (σ : St) : Prop := σ.get 1 = (.d false (.lst 1 (p1.map eB))) ∧ σ.get 8 = (.d false (.lst 2 (p0.Latches.map eS_Latch))) ∧ σ.get 9 = (.d true (.int .i64 (p0.Latches.length : Int))) ∧ σ.get 10 = (.d true (.int .i64 s0)) ∧ σ.up.length = 0
def J_traces_starts_L0 (p0 : S_Circuit) (p1 : (List Bool)) (r : (Unit) ⊕ (Unit)) (e : Ex) (σ' : St) : Prop := (Sum.elim (fun o0 => e = (.exit 0) ∧ σ'.up.length = 0) (fun o1 => e = .ret ∧ σ'.get 4 = (.d true (.bool false)) ∧ σ'.up.length = 0)) r
theorem L_traces_starts_L0 (p0 : S_Circuit) (p1 : (List Bool)) {s : Int} {r : (Unit) ⊕ (Unit)} (h : Lp (b_traces_starts_L0 p0 p1) s = some r) {σ : St} {Q : Ex → St → Prop} (hI : I_traces_starts_L0 p0 p1 s σ) (hQ : ∀ e σ', J_traces_starts_L0 p0 p1 r e σ' → Q e σ') : WC env (.loop c_traces_starts_l1) σ Q :=
 WC_Lp (I_traces_starts_L0 p0 p1) (J_traces_starts_L0 p0 p1) (by
  clear h hI hQ
  clear s r σ Q
  intro s0 σ x hI h
  obtain ⟨f0, f1, f2, f3, f4⟩ := hI
  unfold b_traces_starts_L0 at h
  replace h := itb h; rcases h with ⟨c0, h⟩ | ⟨c0, h⟩
  ·replace h := bsome h; obtain ⟨x0, H0, h⟩ := h
   have n0 := idx_n H0; have q0 := idx_q H0; have y0 := idx_x H0
   replace h := bsome h; obtain ⟨x1, H1, h⟩ := h
   try simp only [go_sem, c_traces_starts_l1, *]
   refine WC.mono (Q := fun e σ' => e = .normal ∧ σ'.get 1 = (.d false (.lst 1 (p1.map eB))) ∧ σ'.get 8 = (.d false (.lst 2 (p0.Latches.map eS_Latch))) ∧ σ'.get 9 = (.d true (.int .i64 (p0.Latches.length : Int))) ∧ σ'.get 10 = (.d true (.int .i64 s0)) ∧ σ'.get 27 = (.d true (.bool x1)) ∧ σ'.up.length = 0) ?_ ?_
   ·replace h := H1
    clear H1
    replace h := itb h; rcases h with ⟨c1, h⟩ | ⟨c1, h⟩
    ·replace h := bsome h; obtain ⟨x2, H2, h⟩ := h
     have n1 := idx_n H2; have q1 := idx_q H2; have y1 := idx_x H2
     cases h
     simp only [go_sem, c_traces_starts_l1, c_traces_starts_p1, *]
    ·cases h
     simp only [go_sem, c_traces_starts_l1, c_traces_starts_p1, *]
   ·intro e τ hJ
    obtain ⟨rfl, f5, f6, f7, f8, f9, f10⟩ := hJ
    replace h := itb h; rcases h with ⟨c2, h⟩ | ⟨c2, h⟩
    ·cases h
     simp only [go_sem, LQ_inr, J_traces_starts_L0, c_traces_starts_l1, *]
    ·cases h
     simp only [go_sem, LQ_inl, I_traces_starts_L0, c_traces_starts_l1, *]
  ·cases h
   simp only [go_sem, LQ_inr, J_traces_starts_L0, c_traces_starts_l1, *]
) h hI hQ
noncomputable def s_traces_starts (p0 : S_Circuit) (p1 : (List Bool)) : Option (Bool) :=
 (Lp (b_traces_starts_L0 p0 p1) 0).bind fun x0 =>
 match x0 with
 | .inl x0' =>
  some true
 | .inr x0' =>
  some false
theorem s_traces_starts_ok {p0 : S_Circuit} {p1 : (List Bool)} {r : Bool} (h : s_traces_starts p0 p1 = some r) : Ans env k_traces_starts [(.ag [(.d true (.int .i64 p0.Inputs)), (.d false (.lst 2 (p0.Latches.map eS_Latch))), (.d false (.lst 2 (p0.Ands.map eS_And))), (.d false (.lst 1 (p0.Bads.map eI))), (.d false (.lst 1 (p0.Constraints.map eI)))]), (.d false (.lst 1 (p1.map eB)))] (.d true (.bool r)) := by
 unfold s_traces_starts at h
 unfold Ans
 rw [AtF fn_traces_starts]
 simp only [n_traces_starts]
 replace h := bsome h; obtain ⟨x0, H0, h⟩ := h
 try simp only [go_sem, *]
 refine L_traces_starts_L0 p0 p1 H0 ?_ ?_
 ·clear h
  simp only [go_sem, I_traces_starts_L0, *]
 ·intro e τ hJ
  rcases x0 with x0' | x0'
  ·obtain ⟨rfl, f0⟩ := hJ
   cases h
   simp only [go_sem, *]
   exact ⟨_, rfl⟩
  ·obtain ⟨rfl, f1, f2⟩ := hJ
   cases h
   simp only [go_sem, *]
   exact ⟨_, rfl⟩
noncomputable def s_traces_First (p0 : S_Circuit) (p1 : (List Bool)) : Option (Bool × Int) :=
 (s_gates_Check p0).bind fun r0 =>
 if (r0 != 0) = true then
  some (false, r0)
 else
  if ((p1.length : Int) != (p0.Latches.length : Int)) = true then
   some (false, 2)
  else
   (s_traces_starts p0 p1).bind fun r1 =>
   some (r1, 0)
theorem s_traces_First_ok {p0 : S_Circuit} {p1 : (List Bool)} {r : Bool × Int} (h : s_traces_First p0 p1 = some r) : Ans env k_traces_First [(.ag [(.d true (.int .i64 p0.Inputs)), (.d false (.lst 2 (p0.Latches.map eS_Latch))), (.d false (.lst 2 (p0.Ands.map eS_And))), (.d false (.lst 1 (p0.Bads.map eI))), (.d false (.lst 1 (p0.Constraints.map eI)))]), (.d false (.lst 1 (p1.map eB)))] (.tp [(.d true (.bool r.1)), (.d true (.int .i64 r.2))]) := by
 unfold s_traces_First at h
 unfold Ans
 rw [AtF fn_traces_First]
 simp only [n_traces_First]
 replace h := bsome h; obtain ⟨r0, H0, h⟩ := h
 have k0 := AtCall_all (s_gates_Check_ok H0); try dsimp only at k0
 replace h := itb h; rcases h with ⟨c0, h⟩ | ⟨c0, h⟩
 ·cases h
  simp only [go_sem, *]
  exact ⟨_, rfl⟩
 ·replace h := itb h; rcases h with ⟨c1, h⟩ | ⟨c1, h⟩
  ·cases h
   simp only [go_sem, *]
   exact ⟨_, rfl⟩
  ·replace h := bsome h; obtain ⟨r1, H1, h⟩ := h
   have k1 := AtCall_all (s_traces_starts_ok H1); try dsimp only at k1
   cases h
   simp only [go_sem, *]
   exact ⟨_, rfl⟩
noncomputable def s_gates_Vars (p0 : S_Circuit) : Option (Int × Int) :=
 (s_gates_Check p0).bind fun r0 =>
 if (r0 != 0) = true then
  some (0, r0)
 else
  (s_gates_starts p0).bind fun r1 =>
  some ((IntKind.wrap .i64 (r1.a3 - 1)), 0)
theorem s_gates_Vars_ok {p0 : S_Circuit} {r : Int × Int} (h : s_gates_Vars p0 = some r) : Ans env k_gates_Vars [(.ag [(.d true (.int .i64 p0.Inputs)), (.d false (.lst 2 (p0.Latches.map eS_Latch))), (.d false (.lst 2 (p0.Ands.map eS_And))), (.d false (.lst 1 (p0.Bads.map eI))), (.d false (.lst 1 (p0.Constraints.map eI)))])] (.tp [(.d true (.int .i64 r.1)), (.d true (.int .i64 r.2))]) := by
 unfold s_gates_Vars at h
 unfold Ans
 rw [AtF fn_gates_Vars]
 simp only [n_gates_Vars]
 replace h := bsome h; obtain ⟨r0, H0, h⟩ := h
 have k0 := AtCall_all (s_gates_Check_ok H0); try dsimp only at k0
 replace h := itb h; rcases h with ⟨c0, h⟩ | ⟨c0, h⟩
 ·cases h
  simp only [go_sem, *]
  exact ⟨_, rfl⟩
 ·replace h := bsome h; obtain ⟨r1, H1, h⟩ := h
  have k1 := AtCall_all (s_gates_starts_ok H1); try dsimp only at k1
  cases h
  simp only [go_sem, (show ∀ (p : Bool) (k : IntKind), natOf 4 (.d p (.int k 3)) = some 3 from fun _ _ => rfl), *]
  exact ⟨_, rfl⟩
def s_values_of (p0 : (List Bool)) (p1 : Int) : Option (Bool) :=
 (idx p0 (shrI .i64 p1 1)).bind fun x0 =>
 some ((x0 == ((andI .i64 p1 1) == 1)) != true)
theorem s_values_of_ok {p0 : (List Bool)} {p1 : Int} {r : Bool} (h : s_values_of p0 p1 = some r) : Ans env k_values_of [(.d false (.lst 1 (p0.map eB))), (.d true (.int .i64 p1))] (.d true (.bool r)) := by
 unfold s_values_of at h
 unfold Ans
 rw [AtF fn_values_of]
 simp only [n_values_of]
 replace h := bsome h; obtain ⟨x0, H0, h⟩ := h
 have n0 := idx_n H0; have q0 := idx_q H0; have y0 := idx_x H0
 cases h
 simp only [go_sem, *]
 exact ⟨_, rfl⟩
noncomputable def b_values_All_L0 (p0 : S_Circuit) (p1 : (List Bool)) (p2 : (List Bool)) (m0 : Nat) (s0 : (List Bool) × Int) : Option (((List Bool) × Int) ⊕ ((List Bool))) :=
 if (decide (s0.2 < (p0.Ands.length : Int))) = true then
  ((idx p0.Ands s0.2).bind fun x2 =>
   (s_values_of s0.1 x2.A).bind fun r1 =>
   if r1 = true then
    (s_values_of s0.1 x2.B).bind fun r2 =>
    (idx s0.1 (IntKind.wrap .i64 ((IntKind.wrap .i64 ((IntKind.wrap .i64 (1 + ((cpn (m0 - (Int.toNat 1)) p2 : Nat) : Int))) + (p1.length : Int))) + s0.2))).bind fun x3 =>
    some (s0.1.set (Int.toNat (IntKind.wrap .i64 ((IntKind.wrap .i64 ((IntKind.wrap .i64 (1 + ((cpn (m0 - (Int.toNat 1)) p2 : Nat) : Int))) + (p1.length : Int))) + s0.2))) r2)
   else
    (idx s0.1 (IntKind.wrap .i64 ((IntKind.wrap .i64 ((IntKind.wrap .i64 (1 + ((cpn (m0 - (Int.toNat 1)) p2 : Nat) : Int))) + (p1.length : Int))) + s0.2))).bind fun x4 =>
    some (s0.1.set (Int.toNat (IntKind.wrap .i64 ((IntKind.wrap .i64 ((IntKind.wrap .i64 (1 + ((cpn (m0 - (Int.toNat 1)) p2 : Nat) : Int))) + (p1.length : Int))) + s0.2))) false)).bind fun x1 =>
  some (Sum.inl (x1, (IntKind.wrap .i64 (s0.2 + 1))))
 else
  some (Sum.inr s0.1)
def I_values_All_L0 (p0 : S_Circuit) (p1 : (List Bool)) (p2 : (List Bool)) (m0 : Nat) (s0 : (List Bool) × Int) (σ : St) : Prop := σ.get 3 = (.ptr 0 0 0) ∧ σ.get 10 = (.row 0 1 0 s0.1.length 1) ∧ σ.get 11 = (.d true (.int .i64 (IntKind.wrap .i64 ((IntKind.wrap .i64 (1 + ((cpn (m0 - (Int.toNat 1)) p2 : Nat) : Int))) + (p1.length : Int))))) ∧ σ.get 61 = (.d true (.int .i64 (p0.Ands.length : Int))) ∧ σ.get 62 = (.d true (.int .i64 s0.2)) ∧ σ.obj 0 0 = oB1 p0 ∧ σ.obj 0 1 = some (.rw 1 (s0.1.map eB) false) ∧ σ.up.length = 0
def J_values_All_L0 (p0 : S_Circuit) (p1 : (List Bool)) (p2 : (List Bool)) (m0 : Nat) (r : (List Bool)) (e : Ex) (σ' : St) : Prop := e = (.exit 0) ∧ σ'.get 10 = (.row 0 1 0 r.length 1) ∧ σ'.obj 0 1 = some (.rw 1 (r.map eB) false) ∧ σ'.up.length = 0
theorem L_values_All_L0 (p0 : S_Circuit) (p1 : (List Bool)) (p2 : (List Bool)) (m0 : Nat) {s : (List Bool) × Int} {r : (List Bool)} (h : Lp (b_values_All_L0 p0 p1 p2 m0) s = some r) {σ : St} {Q : Ex → St → Prop} (hI : I_values_All_L0 p0 p1 p2 m0 s σ) (hQ : ∀ e σ', J_values_All_L0 p0 p1 p2 m0 r e σ' → Q e σ') : WC env (.loop c_values_All_l1) σ Q :=
 WC_Lp (I_values_All_L0 p0 p1 p2 m0) (J_values_All_L0 p0 p1 p2 m0) (by
  clear h hI hQ
  clear s r σ Q
  intro s0 σ x hI h
  obtain ⟨f8, f9, f10, f11, f12, f13, f14, f15⟩ := hI
  unfold b_values_All_L0 at h
  replace h := itb h; rcases h with ⟨c3, h⟩ | ⟨c3, h⟩
  ·replace h := bsome h; obtain ⟨x1, H7, h⟩ := h
   try simp only [go_sem, c_values_All_l1, *]
   refine WC.mono (Q := fun e σ' => e = .normal ∧ σ'.get 3 = (.ptr 0 0 0) ∧ σ'.get 10 = (.row 0 1 0 x1.length 1) ∧ σ'.get 11 = (.d true (.int .i64 (IntKind.wrap .i64 ((IntKind.wrap .i64 (1 + ((cpn (m0 - (Int.toNat 1)) p2 : Nat) : Int))) + (p1.length : Int))))) ∧ σ'.get 61 = (.d true (.int .i64 (p0.Ands.length : Int))) ∧ σ'.get 62 = (.d true (.int .i64 s0.2)) ∧ σ'.obj 0 0 = oB1 p0 ∧ σ'.obj 0 1 = some (.rw 1 (x1.map eB) false) ∧ σ'.up.length = 0) ?_ ?_
   ·replace h := H7
    clear H7
    replace h := bsome h; obtain ⟨x2, H8, h⟩ := h
    have n0 := idx_n H8; have q0 := idx_q H8; have y0 := idx_x H8
    replace h := bsome h; obtain ⟨r1, H9, h⟩ := h
    have k1 := AtCall_all (s_values_of_ok H9); try dsimp only at k1
    replace h := itb h; rcases h with ⟨c4, h⟩ | ⟨c4, h⟩
    ·replace h := bsome h; obtain ⟨r2, H10, h⟩ := h
     have k2 := AtCall_all (s_values_of_ok H10); try dsimp only at k2
     replace h := bsome h; obtain ⟨x3, H11, h⟩ := h
     have n1 := idx_n H11; have q1 := idx_q H11; have y1 := idx_x H11
     cases h
     simp only [go_sem, c_values_All_l1, c_values_All_p2, *]
    ·replace h := bsome h; obtain ⟨x4, H12, h⟩ := h
     have n2 := idx_n H12; have q2 := idx_q H12; have y2 := idx_x H12
     cases h
     simp only [go_sem, c_values_All_l1, c_values_All_p2, *]
   ·intro e τ hJ
    obtain ⟨rfl, f16, f17, f18, f19, f20, f21, f22, f23⟩ := hJ
    cases h
    simp only [go_sem, LQ_inl, I_values_All_L0, c_values_All_l1, *]
  ·cases h
   simp only [go_sem, LQ_inr, J_values_All_L0, c_values_All_l1, *]
) h hI hQ
noncomputable def s_values_All (p0 : S_Circuit) (p1 : (List Bool)) (p2 : (List Bool)) : Option ((List Bool) × Int) :=
 (s_gates_Vars p0).bind fun r0 =>
 if (r0.2 != 0) = true then
  some (([] : List Bool), r0.2)
 else
  (if ((p1.length : Int) != (p0.Latches.length : Int)) = true then
    some true
   else
    some ((p2.length : Int) != p0.Inputs)).bind fun x0 =>
  if x0 = true then
   some (([] : List Bool), 2)
  else
   (mkn (IntKind.wrap .i64 (r0.1 + 1))).bind fun m0 =>
   if inC m0 1 (m0 : Int) then
    if (Int.toNat 1) + (m0 - (Int.toNat 1)) ≤ m0 then
     if inC m0 (IntKind.wrap .i64 (1 + ((cpn (m0 - (Int.toNat 1)) p2 : Nat) : Int))) (IntKind.wrap .i64 ((IntKind.wrap .i64 (1 + ((cpn (m0 - (Int.toNat 1)) p2 : Nat) : Int))) + (p1.length : Int))) then
      if (Int.toNat (IntKind.wrap .i64 (1 + ((cpn (m0 - (Int.toNat 1)) p2 : Nat) : Int)))) + ((Int.toNat (IntKind.wrap .i64 ((IntKind.wrap .i64 (1 + ((cpn (m0 - (Int.toNat 1)) p2 : Nat) : Int))) + (p1.length : Int)))) - (Int.toNat (IntKind.wrap .i64 (1 + ((cpn (m0 - (Int.toNat 1)) p2 : Nat) : Int))))) ≤ m0 then
       (Lp (b_values_All_L0 p0 p1 p2 m0) ((cpl (Int.toNat (IntKind.wrap .i64 (1 + ((cpn (m0 - (Int.toNat 1)) p2 : Nat) : Int)))) ((Int.toNat (IntKind.wrap .i64 ((IntKind.wrap .i64 (1 + ((cpn (m0 - (Int.toNat 1)) p2 : Nat) : Int))) + (p1.length : Int)))) - (Int.toNat (IntKind.wrap .i64 (1 + ((cpn (m0 - (Int.toNat 1)) p2 : Nat) : Int))))) p1 (cpl (Int.toNat 1) (m0 - (Int.toNat 1)) p2 (List.replicate m0 false))), 0)).bind fun x1 =>
       some (x1, 0)
      else none
     else none
    else none
   else none
theorem s_values_All_ok {p0 : S_Circuit} {p1 : (List Bool)} {p2 : (List Bool)} {r : (List Bool) × Int} (h : s_values_All p0 p1 p2 = some r) : Ans env k_values_All [(.ag [(.d true (.int .i64 p0.Inputs)), (.d false (.lst 2 (p0.Latches.map eS_Latch))), (.d false (.lst 2 (p0.Ands.map eS_And))), (.d false (.lst 1 (p0.Bads.map eI))), (.d false (.lst 1 (p0.Constraints.map eI)))]), (.d false (.lst 1 (p1.map eB))), (.d false (.lst 1 (p2.map eB)))] (.tp [(.d true (.lst 1 (r.1.map eB))), (.d true (.int .i64 r.2))]) := by
 unfold s_values_All at h
 unfold Ans
 rw [AtF fn_values_All]
 simp only [n_values_All]
 replace h := bsome h; obtain ⟨r0, H0, h⟩ := h
 have k0 := AtCall_all (s_gates_Vars_ok H0); try dsimp only at k0
 replace h := itb h; rcases h with ⟨c0, h⟩ | ⟨c0, h⟩
 ·cases h
  simp only [go_sem, *]
  exact ⟨_, rfl⟩
 ·replace h := bsome h; obtain ⟨x0, H1, h⟩ := h
  try simp only [go_sem, *]
  refine WC.mono (Q := fun e σ' => e = .normal ∧ σ'.get 1 = (.d false (.lst 1 (p1.map eB))) ∧ σ'.get 2 = (.d false (.lst 1 (p2.map eB))) ∧ σ'.get 3 = (.ptr 0 0 0) ∧ σ'.get 8 = (.d true (.int .i64 r0.1)) ∧ σ'.get 33 = (.d true (.bool x0)) ∧ σ'.obj 0 0 = oB1 p0 ∧ σ'.obj 0 1 = none ∧ σ'.up.length = 0) ?_ ?_
  ·replace h := H1
   clear H1
   replace h := itb h; rcases h with ⟨c1, h⟩ | ⟨c1, h⟩
   ·cases h
    simp only [go_sem, c_values_All_p1, *]
   ·cases h
    simp only [go_sem, c_values_All_p1, *]
  ·intro e τ hJ
   obtain ⟨rfl, f0, f1, f2, f3, f4, f5, f6, f7⟩ := hJ
   replace h := itb h; rcases h with ⟨c2, h⟩ | ⟨c2, h⟩
   ·cases h
    simp only [go_sem, *]
    exact ⟨_, rfl⟩
   ·replace h := bsome h; obtain ⟨m0, H2, h⟩ := h
    have zH2 := bnd_mkn H2
    replace h := need h; obtain ⟨H3, h⟩ := h
    have zH3 := (cut_lo H3)
    try simp only [List.length_cons, List.length_nil, cpl_length, List.length_append, List.length_set, List.length_replicate, Nat.zero_add, Nat.reduceAdd] at zH3
    replace h := need h; obtain ⟨H4, h⟩ := h
    try simp only [List.length_cons, List.length_nil, cpl_length, List.length_append, List.length_set, List.length_replicate, Nat.zero_add, Nat.reduceAdd] at H4
    replace h := need h; obtain ⟨H5, h⟩ := h
    have zH5 := (cut_both H5)
    have yH5 := bnd_mx H5
    try simp only [List.length_cons, List.length_nil, cpl_length, List.length_append, List.length_set, List.length_replicate, Nat.zero_add, Nat.reduceAdd] at zH5 yH5
    replace h := need h; obtain ⟨H6, h⟩ := h
    try simp only [List.length_cons, List.length_nil, cpl_length, List.length_append, List.length_set, List.length_replicate, Nat.zero_add, Nat.reduceAdd] at H6
    replace h := bsome h; obtain ⟨x1, H7, h⟩ := h
    try simp only [go_sem, (cpy_row eB p2 (List.replicate m0 false)), (cpy_row eB p1 (cpl (Int.toNat 1) (m0 - (Int.toNat 1)) p2 (List.replicate m0 false))), *]
    refine L_values_All_L0 p0 p1 p2 m0 H7 ?_ ?_
    ·clear h
     simp only [go_sem, I_values_All_L0, (cpy_row eB p2 (List.replicate m0 false)), (cpy_row eB p1 (cpl (Int.toNat 1) (m0 - (Int.toNat 1)) p2 (List.replicate m0 false))), *]
    ·intro e τ hJ
     obtain ⟨rfl, f8, f9, f10⟩ := hJ
     cases h
     simp only [go_sem, (cpy_row eB p2 (List.replicate m0 false)), (cpy_row eB p1 (cpl (Int.toNat 1) (m0 - (Int.toNat 1)) p2 (List.replicate m0 false))), *]
     exact ⟨_, rfl⟩
def b_slices_Index_of_bool_L0 (p0 : (List Bool)) (p1 : Bool) (s0 : Int) : Option ((Int) ⊕ ((Unit) ⊕ (Int))) :=
 if (decide (s0 < (p0.length : Int))) = true then
  (idx p0 s0).bind fun x0 =>
  if ((p1 == x0) != false) = true then
   some (Sum.inr (Sum.inr s0))
  else
   some (Sum.inl (IntKind.wrap .i64 (s0 + 1)))
 else
  some (Sum.inr (Sum.inl ()))
def I_slices_Index_of_bool_L0 (p0 : (List Bool)) (p1 : Bool) (s0 : Int) (σ : St) : Prop := σ.get 0 = (.d false (.lst 1 (p0.map eB))) ∧ σ.get 1 = (.d true (.bool p1)) ∧ σ.get 7 = (.d true (.int .i64 (p0.length : Int))) ∧ σ.get 8 = (.d true (.int .i64 s0)) ∧ σ.up.length = 0
def J_slices_Index_of_bool_L0 (p0 : (List Bool)) (p1 : Bool) (r : (Unit) ⊕ (Int)) (e : Ex) (σ' : St) : Prop := (Sum.elim (fun o0 => e = (.exit 0) ∧ σ'.up.length = 0) (fun o1 => e = .ret ∧ σ'.get 4 = (.d true (.int .i64 o1)) ∧ σ'.up.length = 0)) r
theorem L_slices_Index_of_bool_L0 (p0 : (List Bool)) (p1 : Bool) {s : Int} {r : (Unit) ⊕ (Int)} (h : Lp (b_slices_Index_of_bool_L0 p0 p1) s = some r) {σ : St} {Q : Ex → St → Prop} (hI : I_slices_Index_of_bool_L0 p0 p1 s σ) (hQ : ∀ e σ', J_slices_Index_of_bool_L0 p0 p1 r e σ' → Q e σ') : WC env (.loop c_slices_Index_of_bool_l1) σ Q :=
 WC_Lp (I_slices_Index_of_bool_L0 p0 p1) (J_slices_Index_of_bool_L0 p0 p1) (by
  clear h hI hQ
  clear s r σ Q
  intro s0 σ x hI h
  obtain ⟨f0, f1, f2, f3, f4⟩ := hI
  unfold b_slices_Index_of_bool_L0 at h
  replace h := itb h; rcases h with ⟨c0, h⟩ | ⟨c0, h⟩
  ·replace h := bsome h; obtain ⟨x0, H0, h⟩ := h
   have n0 := idx_n H0; have q0 := idx_q H0; have y0 := idx_x H0
   replace h := itb h; rcases h with ⟨c1, h⟩ | ⟨c1, h⟩
   ·cases h
    simp only [go_sem, LQ_inr, J_slices_Index_of_bool_L0, c_slices_Index_of_bool_l1, *]
   ·cases h
    simp only [go_sem, LQ_inl, I_slices_Index_of_bool_L0, c_slices_Index_of_bool_l1, *]
  ·cases h
   simp only [go_sem, LQ_inr, J_slices_Index_of_bool_L0, c_slices_Index_of_bool_l1, *]
) h hI hQ
noncomputable def s_slices_Index_of_bool (p0 : (List Bool)) (p1 : Bool) : Option (Int) :=
 (Lp (b_slices_Index_of_bool_L0 p0 p1) 0).bind fun x0 =>
 match x0 with
 | .inl x0' =>
  some (-1)
 | .inr x0' =>
  some x0'
theorem s_slices_Index_of_bool_ok {p0 : (List Bool)} {p1 : Bool} {r : Int} (h : s_slices_Index_of_bool p0 p1 = some r) : Ans env k_slices_Index_of_bool [(.d false (.lst 1 (p0.map eB))), (.d true (.bool p1))] (.d true (.int .i64 r)) := by
 unfold s_slices_Index_of_bool at h
 unfold Ans
 rw [AtF fn_slices_Index_of_bool]
 simp only [n_slices_Index_of_bool]
 replace h := bsome h; obtain ⟨x0, H0, h⟩ := h
 try simp only [go_sem, *]
 refine L_slices_Index_of_bool_L0 p0 p1 H0 ?_ ?_
 ·clear h
  simp only [go_sem, I_slices_Index_of_bool_L0, *]
 ·intro e τ hJ
  rcases x0 with x0' | x0'
  ·obtain ⟨rfl, f0⟩ := hJ
   cases h
   simp only [go_sem, *]
   exact ⟨_, rfl⟩
  ·obtain ⟨rfl, f1, f2⟩ := hJ
   cases h
   simp only [go_sem, *]
   exact ⟨_, rfl⟩
noncomputable def s_slices_Contains_of_bool (p0 : (List Bool)) (p1 : Bool) : Option (Bool) :=
 (s_slices_Index_of_bool p0 p1).bind fun r0 =>
 some (decide (r0 ≥ 0))
theorem s_slices_Contains_of_bool_ok {p0 : (List Bool)} {p1 : Bool} {r : Bool} (h : s_slices_Contains_of_bool p0 p1 = some r) : Ans env k_slices_Contains_of_bool [(.d false (.lst 1 (p0.map eB))), (.d true (.bool p1))] (.d true (.bool r)) := by
 unfold s_slices_Contains_of_bool at h
 unfold Ans
 rw [AtF fn_slices_Contains_of_bool]
 simp only [n_slices_Contains_of_bool]
 replace h := bsome h; obtain ⟨r0, H0, h⟩ := h
 have k0 := AtCall_all (s_slices_Index_of_bool_ok H0); try dsimp only at k0
 cases h
 simp only [go_sem, *]
 exact ⟨_, rfl⟩
noncomputable def b_values_Props_L0 (p0 : S_Circuit) (r0 : (List Bool) × Int) (s0 : (List Bool) × Int) : Option (((List Bool) × Int) ⊕ ((List Bool))) :=
 if (decide (s0.2 < (p0.Bads.length : Int))) = true then
  (idx p0.Bads s0.2).bind fun x0 =>
  (s_values_of r0.1 x0).bind fun r1 =>
  if s0.1.length + 1 ≤ big then
   some (Sum.inl ((s0.1 ++ ([r1] : List Bool)), (IntKind.wrap .i64 (s0.2 + 1))))
  else none
 else
  some (Sum.inr s0.1)
def I_values_Props_L0 (p0 : S_Circuit) (r0 : (List Bool) × Int) (s0 : (List Bool) × Int) (σ : St) : Prop := σ.get 4 = (.cl k_values_Props_1 [(.ptr 1 0 0)]) ∧ σ.get 12 = (.d true (.lst 1 (r0.1.map eB))) ∧ σ.get 14 = (.row 0 1 0 s0.1.length 1) ∧ σ.get 26 = (.d true (.int .i64 (p0.Bads.length : Int))) ∧ σ.get 27 = (.d true (.int .i64 s0.2)) ∧ σ.obj 1 0 = oB1 p0 ∧ (∃ gr_1_1, σ.obj 0 1 = some (.rw 1 (s0.1.map eB) gr_1_1)) ∧ σ.obj 0 3 = none ∧ σ.up.length = 1
def J_values_Props_L0 (p0 : S_Circuit) (r0 : (List Bool) × Int) (r : (List Bool)) (e : Ex) (σ' : St) : Prop := e = (.exit 0) ∧ σ'.get 14 = (.row 0 1 0 r.length 1) ∧ σ'.obj 1 0 = oB1 p0 ∧ (∃ gr_1_1, σ'.obj 0 1 = some (.rw 1 (r.map eB) gr_1_1)) ∧ σ'.obj 0 3 = none ∧ σ'.up.length = 1
theorem L_values_Props_L0 (p0 : S_Circuit) (r0 : (List Bool) × Int) {s : (List Bool) × Int} {r : (List Bool)} (h : Lp (b_values_Props_L0 p0 r0) s = some r) {σ : St} {Q : Ex → St → Prop} (hI : I_values_Props_L0 p0 r0 s σ) (hQ : ∀ e σ', J_values_Props_L0 p0 r0 r e σ' → Q e σ') : WC env (.loop c_values_list_l1) σ Q :=
 WC_Lp (I_values_Props_L0 p0 r0) (J_values_Props_L0 p0 r0) (by
  clear h hI hQ
  clear s r σ Q
  intro s0 σ x hI h
  obtain ⟨f0, f1, f2, f3, f4, f5, ⟨gr_1_1, f6⟩, f7, f8⟩ := hI
  unfold b_values_Props_L0 at h
  replace h := itb h; rcases h with ⟨c1, h⟩ | ⟨c1, h⟩
  ·replace h := bsome h; obtain ⟨x0, H1, h⟩ := h
   have n0 := idx_n H1; have q0 := idx_q H1; have y0 := idx_x H1
   replace h := bsome h; obtain ⟨r1, H2, h⟩ := h
   have k1 := AtCall_all (s_values_of_ok H2); try dsimp only at k1
   replace h := need h; obtain ⟨H3, h⟩ := h
   cases h
   simp (maxDischargeDepth := 6) only [go_sem, LQ_inl, I_values_Props_L0, c_values_list_l1, clF_small (f := k_values_Props_1) rfl, clA_small (f := k_values_Props_1) rfl, fnV_small (E := env) (f := k_values_Props_1) fn_values_Props_1 rfl rfl, *]
  ·cases h
   simp only [go_sem, LQ_inr, J_values_Props_L0, c_values_list_l1, *]
) h hI hQ
noncomputable def b_values_Props_L1 (p0 : S_Circuit) (r0 : (List Bool) × Int) (s1 : (List Bool) × Int) : Option (((List Bool) × Int) ⊕ ((List Bool))) :=
 if (decide (s1.2 < (p0.Constraints.length : Int))) = true then
  (idx p0.Constraints s1.2).bind fun x1 =>
  (s_values_of r0.1 x1).bind fun r1 =>
  if s1.1.length + 1 ≤ big then
   some (Sum.inl ((s1.1 ++ ([r1] : List Bool)), (IntKind.wrap .i64 (s1.2 + 1))))
  else none
 else
  some (Sum.inr s1.1)
def I_values_Props_L1 (p0 : S_Circuit) (r0 : (List Bool) × Int) (s1 : (List Bool) × Int) (σ : St) : Prop := σ.get 4 = (.cl k_values_Props_2 [(.ptr 1 0 0)]) ∧ σ.get 12 = (.d true (.lst 1 (r0.1.map eB))) ∧ σ.get 14 = (.row 0 1 0 s1.1.length 1) ∧ σ.get 26 = (.d true (.int .i64 (p0.Constraints.length : Int))) ∧ σ.get 27 = (.d true (.int .i64 s1.2)) ∧ σ.obj 1 0 = oB1 p0 ∧ (∃ gr_1_1, σ.obj 0 1 = some (.rw 1 (s1.1.map eB) gr_1_1)) ∧ σ.obj 0 3 = none ∧ σ.up.length = 1
def J_values_Props_L1 (p0 : S_Circuit) (r0 : (List Bool) × Int) (r : (List Bool)) (e : Ex) (σ' : St) : Prop := e = (.exit 0) ∧ σ'.get 14 = (.row 0 1 0 r.length 1) ∧ (∃ gr_1_1, σ'.obj 0 1 = some (.rw 1 (r.map eB) gr_1_1)) ∧ σ'.obj 0 3 = none ∧ σ'.up.length = 1
theorem L_values_Props_L1 (p0 : S_Circuit) (r0 : (List Bool) × Int) {s : (List Bool) × Int} {r : (List Bool)} (h : Lp (b_values_Props_L1 p0 r0) s = some r) {σ : St} {Q : Ex → St → Prop} (hI : I_values_Props_L1 p0 r0 s σ) (hQ : ∀ e σ', J_values_Props_L1 p0 r0 r e σ' → Q e σ') : WC env (.loop c_values_list_l1) σ Q :=
 WC_Lp (I_values_Props_L1 p0 r0) (J_values_Props_L1 p0 r0) (by
  clear h hI hQ
  clear s r σ Q
  intro s1 σ x hI h
  obtain ⟨f5, f6, f7, f8, f9, f10, ⟨gr_1_1, f11⟩, f12, f13⟩ := hI
  unfold b_values_Props_L1 at h
  replace h := itb h; rcases h with ⟨c1, h⟩ | ⟨c1, h⟩
  ·replace h := bsome h; obtain ⟨x1, H2, h⟩ := h
   have n0 := idx_n H2; have q0 := idx_q H2; have y0 := idx_x H2
   replace h := bsome h; obtain ⟨r1, H3, h⟩ := h
   have k2 := AtCall_all (s_values_of_ok H3); try dsimp only at k2
   replace h := need h; obtain ⟨H4, h⟩ := h
   cases h
   simp (maxDischargeDepth := 6) only [go_sem, LQ_inl, I_values_Props_L1, c_values_list_l1, (show ((0 : Int) != 0) = false from rfl), clF_small (f := k_values_Props_2) rfl, clA_small (f := k_values_Props_2) rfl, fnV_small (E := env) (f := k_values_Props_2) fn_values_Props_2 rfl rfl, *]
  ·cases h
   simp only [go_sem, LQ_inr, J_values_Props_L1, c_values_list_l1, (show ((0 : Int) != 0) = false from rfl), *]
) h hI hQ
noncomputable def s_values_Props (p0 : S_Circuit) (p1 : (List Bool)) (p2 : (List Bool)) : Option (Bool × (List Bool) × Int) :=
 (s_values_All p0 p1 p2).bind fun r0 =>
 if (r0.2 != 0) = true then
  some (false, ([] : List Bool), r0.2)
 else
  (Lp (b_values_Props_L0 p0 r0) (([] : List Bool), 0)).bind fun x0 =>
  (Lp (b_values_Props_L1 p0 r0) (([] : List Bool), 0)).bind fun x1 =>
  (s_slices_Contains_of_bool x1 false).bind fun r1 =>
  some ((!r1), x0, 0)
theorem s_values_Props_ok {p0 : S_Circuit} {p1 : (List Bool)} {p2 : (List Bool)} {r : Bool × (List Bool) × Int} (h : s_values_Props p0 p1 p2 = some r) : Ans env k_values_Props [(.ag [(.d true (.int .i64 p0.Inputs)), (.d false (.lst 2 (p0.Latches.map eS_Latch))), (.d false (.lst 2 (p0.Ands.map eS_And))), (.d false (.lst 1 (p0.Bads.map eI))), (.d false (.lst 1 (p0.Constraints.map eI)))]), (.d false (.lst 1 (p1.map eB))), (.d false (.lst 1 (p2.map eB)))] (.tp [(.d true (.bool r.1)), (.d true (.lst 1 (r.2.1.map eB))), (.d true (.int .i64 r.2.2))]) := by
 unfold s_values_Props at h
 unfold Ans
 rw [AtF fn_values_Props]
 simp only [n_values_Props]
 replace h := bsome h; obtain ⟨r0, H0, h⟩ := h
 have k0 := AtCall_all (s_values_All_ok H0); try dsimp only at k0
 replace h := itb h; rcases h with ⟨c0, h⟩ | ⟨c0, h⟩
 ·cases h
  simp only [go_sem, *]
  exact ⟨_, rfl⟩
 ·replace h := bsome h; obtain ⟨x0, H1, h⟩ := h
  try simp only [go_sem, *]
  refine L_values_Props_L0 p0 r0 H1 ?_ ?_
  ·clear h
   simp only [go_sem, I_values_Props_L0, *]
  ·intro e τ hJ
   obtain ⟨rfl, f0, f1, ⟨gr_1_1, f2⟩, f3, f4⟩ := hJ
   replace h := bsome h; obtain ⟨x1, H2, h⟩ := h
   try simp only [go_sem, (show ((0 : Int) != 0) = false from rfl), *]
   refine L_values_Props_L1 p0 r0 H2 ?_ ?_
   ·clear h
    simp only [go_sem, I_values_Props_L1, (show ((0 : Int) != 0) = false from rfl), *]
   ·intro e τ hJ
    obtain ⟨rfl, f5, ⟨gr_1_1, f6⟩, f7, f8⟩ := hJ
    replace h := bsome h; obtain ⟨r1, H3, h⟩ := h
    have k2 := AtCall_all (s_slices_Contains_of_bool_ok H3); try dsimp only at k2
    cases h
    simp only [go_sem, (show ((0 : Int) != 0) = false from rfl), *]
    exact ⟨_, rfl⟩
def s_ref04_Value (p0 : (List Bool)) (p1 : Int) : Option (Bool) :=
 (idx p0 (IntKind.wrap .i64 (Int.tdiv p1 2))).bind fun x0 =>
 some ((x0 == ((Int.tmod p1 2) == 1)) != true)
theorem s_ref04_Value_ok {p0 : (List Bool)} {p1 : Int} {r : Bool} (h : s_ref04_Value p0 p1 = some r) : Ans env k_ref04_Value [(.d false (.lst 1 (p0.map eB))), (.d true (.int .i64 p1))] (.d true (.bool r)) := by
 unfold s_ref04_Value at h
 unfold Ans
 rw [AtF fn_ref04_Value]
 simp only [n_ref04_Value]
 replace h := bsome h; obtain ⟨x0, H0, h⟩ := h
 have n0 := idx_n H0; have q0 := idx_q H0; have y0 := idx_x H0
 cases h
 simp only [go_sem, *]
 exact ⟨_, rfl⟩
noncomputable def b_ref04_Frame_L0 (p0 : S_Circuit) (s0 : (List Bool) × Int) : Option (((List Bool) × Int) ⊕ ((List Bool))) :=
 if (decide (s0.2 < (p0.Ands.length : Int))) = true then
  ((idx p0.Ands s0.2).bind fun x1 =>
   (s_ref04_Value s0.1 x1.A).bind fun r0 =>
   if r0 = true then
    (s_ref04_Value s0.1 x1.B).bind fun r1 =>
    if s0.1.length + 1 ≤ big then
     some (s0.1 ++ ([r1] : List Bool))
    else none
   else
    if s0.1.length + 1 ≤ big then
     some (s0.1 ++ ([false] : List Bool))
    else none).bind fun x0 =>
  some (Sum.inl (x0, (IntKind.wrap .i64 (s0.2 + 1))))
 else
  some (Sum.inr s0.1)
def I_ref04_Frame_L0 (p0 : S_Circuit) (s0 : (List Bool) × Int) (σ : St) : Prop := σ.get 3 = (.ptr 0 0 0) ∧ σ.get 7 = (.row 0 1 0 s0.1.length 1) ∧ σ.get 8 = (.d true (.int .i64 s0.2)) ∧ σ.obj 0 0 = oB1 p0 ∧ σ.obj 0 1 = some (.rw 1 (s0.1.map eB) true) ∧ σ.obj 0 2 = none ∧ σ.obj 0 3 = none ∧ σ.obj 0 5 = none ∧ σ.up.length = 0
def J_ref04_Frame_L0 (p0 : S_Circuit) (r : (List Bool)) (e : Ex) (σ' : St) : Prop := e = (.exit 0) ∧ σ'.get 7 = (.row 0 1 0 r.length 1) ∧ σ'.obj 0 1 = some (.rw 1 (r.map eB) true) ∧ σ'.obj 0 2 = none ∧ σ'.obj 0 3 = none ∧ σ'.obj 0 5 = none ∧ σ'.up.length = 0
theorem L_ref04_Frame_L0 (p0 : S_Circuit) {s : (List Bool) × Int} {r : (List Bool)} (h : Lp (b_ref04_Frame_L0 p0) s = some r) {σ : St} {Q : Ex → St → Prop} (hI : I_ref04_Frame_L0 p0 s σ) (hQ : ∀ e σ', J_ref04_Frame_L0 p0 r e σ' → Q e σ') : WC env (.loop c_ref04_Frame_l1) σ Q :=
 WC_Lp (I_ref04_Frame_L0 p0) (J_ref04_Frame_L0 p0) (by
  clear h hI hQ
  clear s r σ Q
  intro s0 σ x hI h
  obtain ⟨f0, f1, f2, f3, f4, f5, f6, f7, f8⟩ := hI
  unfold b_ref04_Frame_L0 at h
  replace h := itb h; rcases h with ⟨c0, h⟩ | ⟨c0, h⟩
  ·replace h := bsome h; obtain ⟨x0, H2, h⟩ := h
   try simp only [go_sem, c_ref04_Frame_l1, *]
   refine WC.mono (Q := fun e σ' => e = .normal ∧ σ'.get 3 = (.ptr 0 0 0) ∧ σ'.get 7 = (.row 0 1 0 x0.length 1) ∧ σ'.get 8 = (.d true (.int .i64 s0.2)) ∧ σ'.obj 0 0 = oB1 p0 ∧ σ'.obj 0 1 = some (.rw 1 (x0.map eB) true) ∧ σ'.obj 0 2 = none ∧ σ'.obj 0 3 = none ∧ σ'.obj 0 5 = none ∧ σ'.up.length = 0) ?_ ?_
   ·replace h := H2
    clear H2
    replace h := bsome h; obtain ⟨x1, H3, h⟩ := h
    have n0 := idx_n H3; have q0 := idx_q H3; have y0 := idx_x H3
    replace h := bsome h; obtain ⟨r0, H4, h⟩ := h
    have k0 := AtCall_all (s_ref04_Value_ok H4); try dsimp only at k0
    replace h := itb h; rcases h with ⟨c1, h⟩ | ⟨c1, h⟩
    ·replace h := bsome h; obtain ⟨r1, H5, h⟩ := h
     have k1 := AtCall_all (s_ref04_Value_ok H5); try dsimp only at k1
     replace h := need h; obtain ⟨H6, h⟩ := h
     cases h
     simp only [go_sem, c_ref04_Frame_l1, c_ref04_Frame_p1, *]
    ·replace h := need h; obtain ⟨H7, h⟩ := h
     cases h
     simp only [go_sem, c_ref04_Frame_l1, c_ref04_Frame_p1, *]
   ·intro e τ hJ
    obtain ⟨rfl, f9, f10, f11, f12, f13, f14, f15, f16, f17⟩ := hJ
    cases h
    simp only [go_sem, LQ_inl, I_ref04_Frame_L0, c_ref04_Frame_l1, *]
  ·cases h
   simp only [go_sem, LQ_inr, J_ref04_Frame_L0, c_ref04_Frame_l1, *]
) h hI hQ
noncomputable def s_ref04_Frame (p0 : S_Circuit) (p1 : (List Bool)) (p2 : (List Bool)) : Option ((List Bool)) :=
 if ([false] : List Bool).length + p2.length ≤ big then
  if (([false] : List Bool) ++ p2).length + p1.length ≤ big then
   (Lp (b_ref04_Frame_L0 p0) (((([false] : List Bool) ++ p2) ++ p1), 0)).bind fun x0 =>
   some x0
  else none
 else none
theorem s_ref04_Frame_ok {p0 : S_Circuit} {p1 : (List Bool)} {p2 : (List Bool)} {r : (List Bool)} (h : s_ref04_Frame p0 p1 p2 = some r) : Ans env k_ref04_Frame [(.ag [(.d true (.int .i64 p0.Inputs)), (.d false (.lst 2 (p0.Latches.map eS_Latch))), (.d false (.lst 2 (p0.Ands.map eS_And))), (.d false (.lst 1 (p0.Bads.map eI))), (.d false (.lst 1 (p0.Constraints.map eI)))]), (.d false (.lst 1 (p1.map eB))), (.d false (.lst 1 (p2.map eB)))] (.d true (.lst 1 (r.map eB))) := by
 unfold s_ref04_Frame at h
 unfold Ans
 rw [AtF fn_ref04_Frame]
 simp only [n_ref04_Frame]
 replace h := need h; obtain ⟨H0, h⟩ := h
 try simp only [List.length_cons, List.length_nil, cpl_length, List.length_append, List.length_set, List.length_replicate, Nat.zero_add, Nat.reduceAdd] at H0
 try simp only [Nat.add_comm 1 p2.length] at H0
 replace h := need h; obtain ⟨H1, h⟩ := h
 try simp only [List.length_cons, List.length_nil, cpl_length, List.length_append, List.length_set, List.length_replicate, Nat.zero_add, Nat.reduceAdd] at H1
 try simp only [Nat.add_comm 1 p2.length, Nat.add_right_comm p2.length 1 p1.length] at H1
 replace h := bsome h; obtain ⟨x0, H2, h⟩ := h
 try simp only [go_sem, (Nat.add_comm 1 p2.length), (Nat.add_right_comm p2.length 1 p1.length), *]
 refine L_ref04_Frame_L0 p0 H2 ?_ ?_
 ·clear h
  simp only [go_sem, I_ref04_Frame_L0, (Nat.add_comm 1 p2.length), (Nat.add_right_comm p2.length 1 p1.length), *]
 ·intro e τ hJ
  obtain ⟨rfl, f0, f1, f2, f3, f4, f5⟩ := hJ
  cases h
  simp only [go_sem, (Nat.add_comm 1 p2.length), (Nat.add_right_comm p2.length 1 p1.length), *]
  exact ⟨_, rfl⟩
noncomputable def b_ref04_After_L0 (p0 : S_Circuit) (r0 : (List Bool)) (s0 : (List Bool) × Int) : Option (((List Bool) × Int) ⊕ ((List Bool))) :=
 if (decide (s0.2 < (p0.Latches.length : Int))) = true then
  (idx p0.Latches s0.2).bind fun x0 =>
  (s_ref04_Value r0 x0.Next).bind fun r1 =>
  if s0.1.length + 1 ≤ big then
   some (Sum.inl ((s0.1 ++ ([r1] : List Bool)), (IntKind.wrap .i64 (s0.2 + 1))))
  else none
 else
  some (Sum.inr s0.1)
def I_ref04_After_L0 (p0 : S_Circuit) (r0 : (List Bool)) (s0 : (List Bool) × Int) (σ : St) : Prop := σ.get 3 = (.ptr 0 0 0) ∧ σ.get 7 = (.d true (.lst 1 (r0.map eB))) ∧ σ.get 8 = (.row 0 1 0 s0.1.length 1) ∧ σ.get 9 = (.d true (.int .i64 s0.2)) ∧ σ.obj 0 0 = oB1 p0 ∧ (∃ gr_0_1, σ.obj 0 1 = some (.rw 1 (s0.1.map eB) gr_0_1)) ∧ σ.obj 0 3 = none ∧ σ.up.length = 0
def J_ref04_After_L0 (p0 : S_Circuit) (r0 : (List Bool)) (r : (List Bool)) (e : Ex) (σ' : St) : Prop := e = (.exit 0) ∧ σ'.get 8 = (.row 0 1 0 r.length 1) ∧ (∃ gr_0_1, σ'.obj 0 1 = some (.rw 1 (r.map eB) gr_0_1)) ∧ σ'.obj 0 3 = none ∧ σ'.up.length = 0
theorem L_ref04_After_L0 (p0 : S_Circuit) (r0 : (List Bool)) {s : (List Bool) × Int} {r : (List Bool)} (h : Lp (b_ref04_After_L0 p0 r0) s = some r) {σ : St} {Q : Ex → St → Prop} (hI : I_ref04_After_L0 p0 r0 s σ) (hQ : ∀ e σ', J_ref04_After_L0 p0 r0 r e σ' → Q e σ') : WC env (.loop c_ref04_After_l1) σ Q :=
 WC_Lp (I_ref04_After_L0 p0 r0) (J_ref04_After_L0 p0 r0) (by
  clear h hI hQ
  clear s r σ Q
  intro s0 σ x hI h
  obtain ⟨f0, f1, f2, f3, f4, ⟨gr_0_1, f5⟩, f6, f7⟩ := hI
  unfold b_ref04_After_L0 at h
  replace h := itb h; rcases h with ⟨c0, h⟩ | ⟨c0, h⟩
  ·replace h := bsome h; obtain ⟨x0, H1, h⟩ := h
   have n0 := idx_n H1; have q0 := idx_q H1; have y0 := idx_x H1
   replace h := bsome h; obtain ⟨r1, H2, h⟩ := h
   have k1 := AtCall_all (s_ref04_Value_ok H2); try dsimp only at k1
   replace h := need h; obtain ⟨H3, h⟩ := h
   cases h
   simp only [go_sem, LQ_inl, I_ref04_After_L0, c_ref04_After_l1, *]
  ·cases h
   simp only [go_sem, LQ_inr, J_ref04_After_L0, c_ref04_After_l1, *]
) h hI hQ
noncomputable def s_ref04_After (p0 : S_Circuit) (p1 : (List Bool)) (p2 : (List Bool)) : Option ((List Bool)) :=
 (s_ref04_Frame p0 p1 p2).bind fun r0 =>
 (Lp (b_ref04_After_L0 p0 r0) (([] : List Bool), 0)).bind fun x0 =>
 some x0
theorem s_ref04_After_ok {p0 : S_Circuit} {p1 : (List Bool)} {p2 : (List Bool)} {r : (List Bool)} (h : s_ref04_After p0 p1 p2 = some r) : Ans env k_ref04_After [(.ag [(.d true (.int .i64 p0.Inputs)), (.d false (.lst 2 (p0.Latches.map eS_Latch))), (.d false (.lst 2 (p0.Ands.map eS_And))), (.d false (.lst 1 (p0.Bads.map eI))), (.d false (.lst 1 (p0.Constraints.map eI)))]), (.d false (.lst 1 (p1.map eB))), (.d false (.lst 1 (p2.map eB)))] (.d true (.lst 1 (r.map eB))) := by
 unfold s_ref04_After at h
 unfold Ans
 rw [AtF fn_ref04_After]
 simp only [n_ref04_After]
 replace h := bsome h; obtain ⟨r0, H0, h⟩ := h
 have k0 := AtCall_all (s_ref04_Frame_ok H0); try dsimp only at k0
 replace h := bsome h; obtain ⟨x0, H1, h⟩ := h
 try simp only [go_sem, *]
 refine L_ref04_After_L0 p0 r0 H1 ?_ ?_
 ·clear h
  simp only [go_sem, I_ref04_After_L0, *]
 ·intro e τ hJ
  obtain ⟨rfl, f0, ⟨gr_0_1, f1⟩, f2, f3⟩ := hJ
  cases h
  simp only [go_sem, *]
  exact ⟨_, rfl⟩
noncomputable def b_ref06_All_L0 (p0 : S_Circuit) (p1 : S_Trace) (s0 : (List (List Bool)) × Int) : Option (((List (List Bool)) × Int) ⊕ ((List (List Bool)))) :=
 if (decide ((IntKind.wrap .i64 (s0.2 + 1)) < (p1.Inputs.length : Int))) = true then
  (idx s0.1 s0.2).bind fun x0 =>
  (idx p1.Inputs s0.2).bind fun x1 =>
  (s_ref04_After p0 x0 x1).bind fun r0 =>
  if s0.1.length + 1 ≤ big then
   some (Sum.inl ((s0.1 ++ ([r0] : List (List Bool))), (IntKind.wrap .i64 (s0.2 + 1))))
  else none
 else
  some (Sum.inr s0.1)
def I_ref06_All_L0 (p0 : S_Circuit) (p1 : S_Trace) (s0 : (List (List Bool)) × Int) (σ : St) : Prop := σ.get 2 = (.ptr 0 0 0) ∧ σ.get 3 = (.ptr 0 1 0) ∧ σ.get 5 = (.row 0 4 0 s0.1.length 1) ∧ σ.get 6 = (.d true (.int .i64 s0.2)) ∧ σ.obj 0 0 = oB1 p0 ∧ σ.obj 0 1 = oB7 p1 ∧ (∃ gr_0_4, σ.obj 0 4 = some (.rw 1 (s0.1.map (eL 1 eB)) gr_0_4)) ∧ σ.obj 0 3 = none ∧ σ.obj 0 6 = none ∧ σ.up.length = 0
def J_ref06_All_L0 (p0 : S_Circuit) (p1 : S_Trace) (r : (List (List Bool))) (e : Ex) (σ' : St) : Prop := e = (.exit 0) ∧ σ'.get 5 = (.row 0 4 0 r.length 1) ∧ (∃ gr_0_4, σ'.obj 0 4 = some (.rw 1 (r.map (eL 1 eB)) gr_0_4)) ∧ σ'.obj 0 3 = none ∧ σ'.obj 0 6 = none ∧ σ'.up.length = 0
theorem L_ref06_All_L0 (p0 : S_Circuit) (p1 : S_Trace) {s : (List (List Bool)) × Int} {r : (List (List Bool))} (h : Lp (b_ref06_All_L0 p0 p1) s = some r) {σ : St} {Q : Ex → St → Prop} (hI : I_ref06_All_L0 p0 p1 s σ) (hQ : ∀ e σ', J_ref06_All_L0 p0 p1 r e σ' → Q e σ') : WC env (.loop c_ref06_All_l1) σ Q :=
 WC_Lp (I_ref06_All_L0 p0 p1) (J_ref06_All_L0 p0 p1) (by
  clear h hI hQ
  clear s r σ Q
  intro s0 σ x hI h
  obtain ⟨f0, f1, f2, f3, f4, f5, ⟨gr_0_4, f6⟩, f7, f8, f9⟩ := hI
  unfold b_ref06_All_L0 at h
  replace h := itb h; rcases h with ⟨c0, h⟩ | ⟨c0, h⟩
  ·replace h := bsome h; obtain ⟨x0, H1, h⟩ := h
   have n0 := idx_n H1; have q0 := idx_q H1; have y0 := idx_x H1
   replace h := bsome h; obtain ⟨x1, H2, h⟩ := h
   have n1 := idx_n H2; have q1 := idx_q H2; have y1 := idx_x H2
   replace h := bsome h; obtain ⟨r0, H3, h⟩ := h
   have k0 := AtCall_all (s_ref04_After_ok H3); try dsimp only at k0
   replace h := need h; obtain ⟨H4, h⟩ := h
   cases h
   simp only [go_sem, LQ_inl, I_ref06_All_L0, c_ref06_All_l1, *]
  ·cases h
   simp only [go_sem, LQ_inr, J_ref06_All_L0, c_ref06_All_l1, *]
) h hI hQ
noncomputable def s_ref06_All (p0 : S_Circuit) (p1 : S_Trace) : Option ((List (List Bool))) :=
 if ([] : List Bool).length + p1.First.length ≤ big then
  (Lp (b_ref06_All_L0 p0 p1) (([([] ++ p1.First)] : List (List Bool)), 0)).bind fun x0 =>
  some x0
 else none
theorem s_ref06_All_ok {p0 : S_Circuit} {p1 : S_Trace} {r : (List (List Bool))} (h : s_ref06_All p0 p1 = some r) : Ans env k_ref06_All [(.ag [(.d true (.int .i64 p0.Inputs)), (.d false (.lst 2 (p0.Latches.map eS_Latch))), (.d false (.lst 2 (p0.Ands.map eS_And))), (.d false (.lst 1 (p0.Bads.map eI))), (.d false (.lst 1 (p0.Constraints.map eI)))]), (.ag [(.d false (.lst 1 (p1.First.map eB))), (.d false (.lst 1 (p1.Inputs.map (eL 1 eB))))])] (.d true (.lst 1 (r.map (eL 1 eB)))) := by
 unfold s_ref06_All at h
 unfold Ans
 rw [AtF fn_ref06_All]
 simp only [n_ref06_All]
 replace h := need h; obtain ⟨H0, h⟩ := h
 try simp only [List.length_cons, List.length_nil, cpl_length, List.length_append, List.length_set, List.length_replicate, Nat.zero_add, Nat.reduceAdd] at H0
 replace h := bsome h; obtain ⟨x0, H1, h⟩ := h
 try simp only [go_sem, *]
 refine L_ref06_All_L0 p0 p1 H1 ?_ ?_
 ·clear h
  simp only [go_sem, I_ref06_All_L0, *]
 ·intro e τ hJ
  obtain ⟨rfl, f0, ⟨gr_0_4, f1⟩, f2, f3, f4⟩ := hJ
  cases h
  simp only [go_sem, *]
  exact ⟨_, rfl⟩
def b_ref37_In_L0 (p0 : (List Int)) (p1 : (List Bool)) (s0 : Int) : Option ((Int) ⊕ ((Unit) ⊕ (Unit))) :=
 if (decide (s0 < (p0.length : Int))) = true then
  (idx p0 s0).bind fun x0 =>
  (idx p1 (IntKind.wrap .i64 ((IntKind.wrap .i64 (Int.tdiv x0 2)) - 1))).bind fun x1 =>
  if ((x1 == ((Int.tmod x0 2) == 0)) != true) = true then
   some (Sum.inr (Sum.inr ()))
  else
   some (Sum.inl (IntKind.wrap .i64 (s0 + 1)))
 else
  some (Sum.inr (Sum.inl ()))
def I_ref37_In_L0 (p0 : (List Int)) (p1 : (List Bool)) (s0 : Int) (σ : St) : Prop := σ.get 0 = (.d false (.lst 1 (p0.map eI))) ∧ σ.get 1 = (.d false (.lst 1 (p1.map eB))) ∧ σ.get 5 = (.d true (.int .i64 s0)) ∧ σ.up.length = 0
def J_ref37_In_L0 (p0 : (List Int)) (p1 : (List Bool)) (r : (Unit) ⊕ (Unit)) (e : Ex) (σ' : St) : Prop := (Sum.elim (fun o0 => e = (.exit 0) ∧ σ'.up.length = 0) (fun o1 => e = .ret ∧ σ'.get 4 = (.d true (.bool false)) ∧ σ'.up.length = 0)) r
theorem L_ref37_In_L0 (p0 : (List Int)) (p1 : (List Bool)) {s : Int} {r : (Unit) ⊕ (Unit)} (h : Lp (b_ref37_In_L0 p0 p1) s = some r) {σ : St} {Q : Ex → St → Prop} (hI : I_ref37_In_L0 p0 p1 s σ) (hQ : ∀ e σ', J_ref37_In_L0 p0 p1 r e σ' → Q e σ') : WC env (.loop c_ref37_In_l1) σ Q :=
 WC_Lp (I_ref37_In_L0 p0 p1) (J_ref37_In_L0 p0 p1) (by
  clear h hI hQ
  clear s r σ Q
  intro s0 σ x hI h
  obtain ⟨f0, f1, f2, f3⟩ := hI
  unfold b_ref37_In_L0 at h
  replace h := itb h; rcases h with ⟨c0, h⟩ | ⟨c0, h⟩
  ·replace h := bsome h; obtain ⟨x0, H0, h⟩ := h
   have n0 := idx_n H0; have q0 := idx_q H0; have y0 := idx_x H0
   replace h := bsome h; obtain ⟨x1, H1, h⟩ := h
   have n1 := idx_n H1; have q1 := idx_q H1; have y1 := idx_x H1
   replace h := itb h; rcases h with ⟨c1, h⟩ | ⟨c1, h⟩
   ·cases h
    simp only [go_sem, LQ_inr, J_ref37_In_L0, c_ref37_In_l1, *]
   ·cases h
    simp only [go_sem, LQ_inl, I_ref37_In_L0, c_ref37_In_l1, *]
  ·cases h
   simp only [go_sem, LQ_inr, J_ref37_In_L0, c_ref37_In_l1, *]
) h hI hQ
noncomputable def s_ref37_In (p0 : (List Int)) (p1 : (List Bool)) : Option (Bool) :=
 (Lp (b_ref37_In_L0 p0 p1) 0).bind fun x0 =>
 match x0 with
 | .inl x0' =>
  some true
 | .inr x0' =>
  some false
theorem s_ref37_In_ok {p0 : (List Int)} {p1 : (List Bool)} {r : Bool} (h : s_ref37_In p0 p1 = some r) : Ans env k_ref37_In [(.d false (.lst 1 (p0.map eI))), (.d false (.lst 1 (p1.map eB)))] (.d true (.bool r)) := by
 unfold s_ref37_In at h
 unfold Ans
 rw [AtF fn_ref37_In]
 simp only [n_ref37_In]
 replace h := bsome h; obtain ⟨x0, H0, h⟩ := h
 try simp only [go_sem, *]
 refine L_ref37_In_L0 p0 p1 H0 ?_ ?_
 ·clear h
  simp only [go_sem, I_ref37_In_L0, *]
 ·intro e τ hJ
  rcases x0 with x0' | x0'
  ·obtain ⟨rfl, f0⟩ := hJ
   cases h
   simp only [go_sem, *]
   exact ⟨_, rfl⟩
  ·obtain ⟨rfl, f1, f2⟩ := hJ
   cases h
   simp only [go_sem, *]
   exact ⟨_, rfl⟩
noncomputable def b_ref04_Holds_L0 (p0 : S_Circuit) (r0 : (List Bool)) (s0 : Int) : Option ((Int) ⊕ ((Unit) ⊕ (Unit))) :=
 if (decide (s0 < (p0.Constraints.length : Int))) = true then
  (idx p0.Constraints s0).bind fun x0 =>
  (s_ref04_Value r0 x0).bind fun r1 =>
  if r1 = true then
   some (Sum.inl (IntKind.wrap .i64 (s0 + 1)))
  else
   some (Sum.inr (Sum.inr ()))
 else
  some (Sum.inr (Sum.inl ()))
def I_ref04_Holds_L0 (p0 : S_Circuit) (r0 : (List Bool)) (s0 : Int) (σ : St) : Prop := σ.get 3 = (.ptr 0 0 0) ∧ σ.get 7 = (.d true (.lst 1 (r0.map eB))) ∧ σ.get 8 = (.d true (.int .i64 s0)) ∧ σ.obj 0 0 = oB1 p0 ∧ σ.up.length = 0
def J_ref04_Holds_L0 (p0 : S_Circuit) (r0 : (List Bool)) (r : (Unit) ⊕ (Unit)) (e : Ex) (σ' : St) : Prop := (Sum.elim (fun o0 => e = (.exit 0) ∧ σ'.up.length = 0) (fun o1 => e = .ret ∧ σ'.get 6 = (.d true (.bool false)) ∧ σ'.up.length = 0)) r
theorem L_ref04_Holds_L0 (p0 : S_Circuit) (r0 : (List Bool)) {s : Int} {r : (Unit) ⊕ (Unit)} (h : Lp (b_ref04_Holds_L0 p0 r0) s = some r) {σ : St} {Q : Ex → St → Prop} (hI : I_ref04_Holds_L0 p0 r0 s σ) (hQ : ∀ e σ', J_ref04_Holds_L0 p0 r0 r e σ' → Q e σ') : WC env (.loop c_ref04_Holds_l1) σ Q :=
 WC_Lp (I_ref04_Holds_L0 p0 r0) (J_ref04_Holds_L0 p0 r0) (by
  clear h hI hQ
  clear s r σ Q
  intro s0 σ x hI h
  obtain ⟨f0, f1, f2, f3, f4⟩ := hI
  unfold b_ref04_Holds_L0 at h
  replace h := itb h; rcases h with ⟨c0, h⟩ | ⟨c0, h⟩
  ·replace h := bsome h; obtain ⟨x0, H1, h⟩ := h
   have n0 := idx_n H1; have q0 := idx_q H1; have y0 := idx_x H1
   replace h := bsome h; obtain ⟨r1, H2, h⟩ := h
   have k1 := AtCall_all (s_ref04_Value_ok H2); try dsimp only at k1
   replace h := itb h; rcases h with ⟨c1, h⟩ | ⟨c1, h⟩
   ·cases h
    simp only [go_sem, LQ_inl, I_ref04_Holds_L0, c_ref04_Holds_l1, *]
   ·cases h
    simp only [go_sem, LQ_inr, J_ref04_Holds_L0, c_ref04_Holds_l1, *]
  ·cases h
   simp only [go_sem, LQ_inr, J_ref04_Holds_L0, c_ref04_Holds_l1, *]
) h hI hQ
noncomputable def s_ref04_Holds (p0 : S_Circuit) (p1 : (List Bool)) (p2 : (List Bool)) : Option (Bool) :=
 (s_ref04_Frame p0 p1 p2).bind fun r0 =>
 (Lp (b_ref04_Holds_L0 p0 r0) 0).bind fun x0 =>
 match x0 with
 | .inl x0' =>
  some true
 | .inr x0' =>
  some false
theorem s_ref04_Holds_ok {p0 : S_Circuit} {p1 : (List Bool)} {p2 : (List Bool)} {r : Bool} (h : s_ref04_Holds p0 p1 p2 = some r) : Ans env k_ref04_Holds [(.ag [(.d true (.int .i64 p0.Inputs)), (.d false (.lst 2 (p0.Latches.map eS_Latch))), (.d false (.lst 2 (p0.Ands.map eS_And))), (.d false (.lst 1 (p0.Bads.map eI))), (.d false (.lst 1 (p0.Constraints.map eI)))]), (.d false (.lst 1 (p1.map eB))), (.d false (.lst 1 (p2.map eB)))] (.d true (.bool r)) := by
 unfold s_ref04_Holds at h
 unfold Ans
 rw [AtF fn_ref04_Holds]
 simp only [n_ref04_Holds]
 replace h := bsome h; obtain ⟨r0, H0, h⟩ := h
 have k0 := AtCall_all (s_ref04_Frame_ok H0); try dsimp only at k0
 replace h := bsome h; obtain ⟨x0, H1, h⟩ := h
 try simp only [go_sem, *]
 refine L_ref04_Holds_L0 p0 r0 H1 ?_ ?_
 ·clear h
  simp only [go_sem, I_ref04_Holds_L0, *]
 ·intro e τ hJ
  rcases x0 with x0' | x0'
  ·obtain ⟨rfl, f0⟩ := hJ
   cases h
   simp only [go_sem, *]
   exact ⟨_, rfl⟩
  ·obtain ⟨rfl, f1, f2⟩ := hJ
   cases h
   simp only [go_sem, *]
   exact ⟨_, rfl⟩
noncomputable def b_ref04_Bad_L0 (p0 : S_Circuit) (r0 : (List Bool)) (s0 : Int) : Option ((Int) ⊕ ((Unit) ⊕ (Int))) :=
 if (decide (s0 < (p0.Bads.length : Int))) = true then
  (idx p0.Bads s0).bind fun x0 =>
  (s_ref04_Value r0 x0).bind fun r1 =>
  if r1 = true then
   some (Sum.inr (Sum.inr s0))
  else
   some (Sum.inl (IntKind.wrap .i64 (s0 + 1)))
 else
  some (Sum.inr (Sum.inl ()))
def I_ref04_Bad_L0 (p0 : S_Circuit) (r0 : (List Bool)) (s0 : Int) (σ : St) : Prop := σ.get 3 = (.ptr 0 0 0) ∧ σ.get 7 = (.d true (.lst 1 (r0.map eB))) ∧ σ.get 8 = (.d true (.int .i64 s0)) ∧ σ.obj 0 0 = oB1 p0 ∧ σ.up.length = 0
def J_ref04_Bad_L0 (p0 : S_Circuit) (r0 : (List Bool)) (r : (Unit) ⊕ (Int)) (e : Ex) (σ' : St) : Prop := (Sum.elim (fun o0 => e = (.exit 0) ∧ σ'.up.length = 0) (fun o1 => e = .ret ∧ σ'.get 6 = (.d true (.int .i64 o1)) ∧ σ'.up.length = 0)) r
theorem L_ref04_Bad_L0 (p0 : S_Circuit) (r0 : (List Bool)) {s : Int} {r : (Unit) ⊕ (Int)} (h : Lp (b_ref04_Bad_L0 p0 r0) s = some r) {σ : St} {Q : Ex → St → Prop} (hI : I_ref04_Bad_L0 p0 r0 s σ) (hQ : ∀ e σ', J_ref04_Bad_L0 p0 r0 r e σ' → Q e σ') : WC env (.loop c_ref04_Bad_l1) σ Q :=
 WC_Lp (I_ref04_Bad_L0 p0 r0) (J_ref04_Bad_L0 p0 r0) (by
  clear h hI hQ
  clear s r σ Q
  intro s0 σ x hI h
  obtain ⟨f0, f1, f2, f3, f4⟩ := hI
  unfold b_ref04_Bad_L0 at h
  replace h := itb h; rcases h with ⟨c0, h⟩ | ⟨c0, h⟩
  ·replace h := bsome h; obtain ⟨x0, H1, h⟩ := h
   have n0 := idx_n H1; have q0 := idx_q H1; have y0 := idx_x H1
   replace h := bsome h; obtain ⟨r1, H2, h⟩ := h
   have k1 := AtCall_all (s_ref04_Value_ok H2); try dsimp only at k1
   replace h := itb h; rcases h with ⟨c1, h⟩ | ⟨c1, h⟩
   ·cases h
    simp only [go_sem, LQ_inr, J_ref04_Bad_L0, c_ref04_Bad_l1, *]
   ·cases h
    simp only [go_sem, LQ_inl, I_ref04_Bad_L0, c_ref04_Bad_l1, *]
  ·cases h
   simp only [go_sem, LQ_inr, J_ref04_Bad_L0, c_ref04_Bad_l1, *]
) h hI hQ
noncomputable def s_ref04_Bad (p0 : S_Circuit) (p1 : (List Bool)) (p2 : (List Bool)) : Option (Int) :=
 (s_ref04_Frame p0 p1 p2).bind fun r0 =>
 (Lp (b_ref04_Bad_L0 p0 r0) 0).bind fun x0 =>
 match x0 with
 | .inl x0' =>
  some (-1)
 | .inr x0' =>
  some x0'
theorem s_ref04_Bad_ok {p0 : S_Circuit} {p1 : (List Bool)} {p2 : (List Bool)} {r : Int} (h : s_ref04_Bad p0 p1 p2 = some r) : Ans env k_ref04_Bad [(.ag [(.d true (.int .i64 p0.Inputs)), (.d false (.lst 2 (p0.Latches.map eS_Latch))), (.d false (.lst 2 (p0.Ands.map eS_And))), (.d false (.lst 1 (p0.Bads.map eI))), (.d false (.lst 1 (p0.Constraints.map eI)))]), (.d false (.lst 1 (p1.map eB))), (.d false (.lst 1 (p2.map eB)))] (.d true (.int .i64 r)) := by
 unfold s_ref04_Bad at h
 unfold Ans
 rw [AtF fn_ref04_Bad]
 simp only [n_ref04_Bad]
 replace h := bsome h; obtain ⟨r0, H0, h⟩ := h
 have k0 := AtCall_all (s_ref04_Frame_ok H0); try dsimp only at k0
 replace h := bsome h; obtain ⟨x0, H1, h⟩ := h
 try simp only [go_sem, *]
 refine L_ref04_Bad_L0 p0 r0 H1 ?_ ?_
 ·clear h
  simp only [go_sem, I_ref04_Bad_L0, *]
 ·intro e τ hJ
  rcases x0 with x0' | x0'
  ·obtain ⟨rfl, f0⟩ := hJ
   cases h
   simp only [go_sem, *]
   exact ⟨_, rfl⟩
  ·obtain ⟨rfl, f1, f2⟩ := hJ
   cases h
   simp only [go_sem, *]
   exact ⟨_, rfl⟩
noncomputable def b_law38_so_L0 (p0 : S_Circuit) (p1 : (List S_Obligation)) (p2 : (List Int)) (p3 : (List (List Bool))) (s0 : Int) : Option ((Int) ⊕ ((Unit) ⊕ (Unit))) :=
 if (decide (s0 < (p2.length : Int))) = true then
  (idx p2 s0).bind fun x0 =>
  (idx p1 x0).bind fun x1 =>
  ((idx p3 (IntKind.wrap .i64 (s0 + 1))).bind fun x3 =>
   (s_ref37_In x1.Cube x3).bind fun r0 =>
   if r0 = true then
    (s_ref04_Holds p0 x3 x1.Inputs).bind fun r1 =>
    some (!r1)
   else
    some true).bind fun x2 =>
  if x2 = true then
   some (Sum.inr (Sum.inr ()))
  else
   some (Sum.inl (IntKind.wrap .i64 (s0 + 1)))
 else
  some (Sum.inr (Sum.inl ()))
def I_law38_so_L0 (p0 : S_Circuit) (p1 : (List S_Obligation)) (p2 : (List Int)) (p3 : (List (List Bool))) (s0 : Int) (σ : St) : Prop := σ.get 1 = (.d false (.lst 3 (p1.map eS_Obligation))) ∧ σ.get 2 = (.d false (.lst 1 (p2.map eI))) ∧ σ.get 3 = (.d false (.lst 1 (p3.map (eL 1 eB)))) ∧ σ.get 4 = (.ptr 0 0 0) ∧ σ.get 9 = (.d true (.int .i64 s0)) ∧ σ.obj 0 0 = oB1 p0 ∧ σ.up.length = 0
def J_law38_so_L0 (p0 : S_Circuit) (p1 : (List S_Obligation)) (p2 : (List Int)) (p3 : (List (List Bool))) (r : (Unit) ⊕ (Unit)) (e : Ex) (σ' : St) : Prop := (Sum.elim (fun o0 => e = (.exit 0) ∧ σ'.get 1 = (.d false (.lst 3 (p1.map eS_Obligation))) ∧ σ'.get 2 = (.d false (.lst 1 (p2.map eI))) ∧ σ'.get 3 = (.d false (.lst 1 (p3.map (eL 1 eB)))) ∧ σ'.get 4 = (.ptr 0 0 0) ∧ σ'.obj 0 0 = oB1 p0 ∧ σ'.up.length = 0) (fun o1 => e = .ret ∧ σ'.get 8 = (.d true (.bool false)) ∧ σ'.up.length = 0)) r
theorem L_law38_so_L0 (p0 : S_Circuit) (p1 : (List S_Obligation)) (p2 : (List Int)) (p3 : (List (List Bool))) {s : Int} {r : (Unit) ⊕ (Unit)} (h : Lp (b_law38_so_L0 p0 p1 p2 p3) s = some r) {σ : St} {Q : Ex → St → Prop} (hI : I_law38_so_L0 p0 p1 p2 p3 s σ) (hQ : ∀ e σ', J_law38_so_L0 p0 p1 p2 p3 r e σ' → Q e σ') : WC env (.loop c_law38_so_l1) σ Q :=
 WC_Lp (I_law38_so_L0 p0 p1 p2 p3) (J_law38_so_L0 p0 p1 p2 p3) (by
  clear h hI hQ
  clear s r σ Q
  intro s0 σ x hI h
  obtain ⟨f0, f1, f2, f3, f4, f5, f6⟩ := hI
  unfold b_law38_so_L0 at h
  replace h := itb h; rcases h with ⟨c0, h⟩ | ⟨c0, h⟩
  ·replace h := bsome h; obtain ⟨x0, H0, h⟩ := h
   have n0 := idx_n H0; have q0 := idx_q H0; have y0 := idx_x H0
   replace h := bsome h; obtain ⟨x1, H1, h⟩ := h
   have n1 := idx_n H1; have q1 := idx_q H1; have y1 := idx_x H1
   replace h := bsome h; obtain ⟨x2, H2, h⟩ := h
   try simp only [go_sem, c_law38_so_l1, *]
   refine WC.mono (Q := fun e σ' => e = .normal ∧ σ'.get 1 = (.d false (.lst 3 (p1.map eS_Obligation))) ∧ σ'.get 2 = (.d false (.lst 1 (p2.map eI))) ∧ σ'.get 3 = (.d false (.lst 1 (p3.map (eL 1 eB)))) ∧ σ'.get 4 = (.ptr 0 0 0) ∧ σ'.get 9 = (.d true (.int .i64 s0)) ∧ σ'.get 44 = (.d true (.bool x2)) ∧ σ'.obj 0 0 = oB1 p0 ∧ σ'.up.length = 0) ?_ ?_
   ·replace h := H2
    clear H2
    replace h := bsome h; obtain ⟨x3, H3, h⟩ := h
    have n2 := idx_n H3; have q2 := idx_q H3; have y2 := idx_x H3
    replace h := bsome h; obtain ⟨r0, H4, h⟩ := h
    have k0 := AtCall_all (s_ref37_In_ok H4); try dsimp only at k0
    replace h := itb h; rcases h with ⟨c1, h⟩ | ⟨c1, h⟩
    ·replace h := bsome h; obtain ⟨r1, H5, h⟩ := h
     have k1 := AtCall_all (s_ref04_Holds_ok H5); try dsimp only at k1
     cases h
     simp only [go_sem, c_law38_so_l1, c_law38_so_p1, *]
    ·cases h
     simp only [go_sem, c_law38_so_l1, c_law38_so_p1, *]
   ·intro e τ hJ
    obtain ⟨rfl, f7, f8, f9, f10, f11, f12, f13, f14⟩ := hJ
    replace h := itb h; rcases h with ⟨c2, h⟩ | ⟨c2, h⟩
    ·cases h
     simp only [go_sem, LQ_inr, J_law38_so_L0, c_law38_so_l1, *]
    ·cases h
     simp only [go_sem, LQ_inl, I_law38_so_L0, c_law38_so_l1, *]
  ·cases h
   simp only [go_sem, LQ_inr, J_law38_so_L0, c_law38_so_l1, *]
) h hI hQ
noncomputable def s_law38_so (p0 : S_Circuit) (p1 : (List S_Obligation)) (p2 : (List Int)) (p3 : (List (List Bool))) : Option (Bool) :=
 (Lp (b_law38_so_L0 p0 p1 p2 p3) 0).bind fun x0 =>
 match x0 with
 | .inl x0' =>
  (idx p3 (p2.length : Int)).bind fun x1 =>
  (idx p2 (IntKind.wrap .i64 ((p2.length : Int) - 1))).bind fun x2 =>
  (idx p1 x2).bind fun x3 =>
  (s_ref04_Bad p0 x1 x3.Inputs).bind fun r0 =>
  some (decide (r0 ≥ 0))
 | .inr x0' =>
  some false
theorem s_law38_so_ok {p0 : S_Circuit} {p1 : (List S_Obligation)} {p2 : (List Int)} {p3 : (List (List Bool))} {r : Bool} (h : s_law38_so p0 p1 p2 p3 = some r) : Ans env k_law38_so [(.ag [(.d true (.int .i64 p0.Inputs)), (.d false (.lst 2 (p0.Latches.map eS_Latch))), (.d false (.lst 2 (p0.Ands.map eS_And))), (.d false (.lst 1 (p0.Bads.map eI))), (.d false (.lst 1 (p0.Constraints.map eI)))]), (.d false (.lst 3 (p1.map eS_Obligation))), (.d false (.lst 1 (p2.map eI))), (.d false (.lst 1 (p3.map (eL 1 eB))))] (.d true (.bool r)) := by
 unfold s_law38_so at h
 unfold Ans
 rw [AtF fn_law38_so]
 simp only [n_law38_so]
 replace h := bsome h; obtain ⟨x0, H0, h⟩ := h
 try simp only [go_sem, *]
 refine L_law38_so_L0 p0 p1 p2 p3 H0 ?_ ?_
 ·clear h
  simp only [go_sem, I_law38_so_L0, *]
 ·intro e τ hJ
  rcases x0 with x0' | x0'
  ·obtain ⟨rfl, f0, f1, f2, f3, f4, f5⟩ := hJ
   replace h := bsome h; obtain ⟨x1, H1, h⟩ := h
   have n0 := idx_n H1; have q0 := idx_q H1; have y0 := idx_x H1
   replace h := bsome h; obtain ⟨x2, H2, h⟩ := h
   have n1 := idx_n H2; have q1 := idx_q H2; have y1 := idx_x H2
   replace h := bsome h; obtain ⟨x3, H3, h⟩ := h
   have n2 := idx_n H3; have q2 := idx_q H3; have y2 := idx_x H3
   replace h := bsome h; obtain ⟨r0, H4, h⟩ := h
   have k0 := AtCall_all (s_ref04_Bad_ok H4); try dsimp only at k0
   cases h
   simp only [go_sem, *]
   exact ⟨_, rfl⟩
  ·obtain ⟨rfl, f6, f7⟩ := hJ
   cases h
   simp only [go_sem, *]
   exact ⟨_, rfl⟩
def b_traces_Check_L0 (p0 : S_Circuit) (p1 : S_Trace) (s0 : Int) : Option ((Int) ⊕ ((Unit) ⊕ (Int))) :=
 if (decide (s0 < (p1.Inputs.length : Int))) = true then
  (idx p1.Inputs s0).bind fun x2 =>
  if ((x2.length : Int) != p0.Inputs) = true then
   some (Sum.inr (Sum.inr s0))
  else
   some (Sum.inl (IntKind.wrap .i64 (s0 + 1)))
 else
  some (Sum.inr (Sum.inl ()))
def I_traces_Check_L0 (p0 : S_Circuit) (p1 : S_Trace) (s0 : Int) (σ : St) : Prop := σ.get 0 = (.d false (.lst 1 (p1.Inputs.map (eL 1 eB)))) ∧ σ.get 1 = (.cl k_traces_Check_1 [(.ptr 2 0 0)]) ∧ σ.get 7 = (.d true (.int .i64 (p1.Inputs.length : Int))) ∧ σ.get 8 = (.d true (.int .i64 s0)) ∧ σ.obj 2 0 = oB1 p0 ∧ σ.up.length = 2
def J_traces_Check_L0 (p0 : S_Circuit) (p1 : S_Trace) (r : (Unit) ⊕ (Int)) (e : Ex) (σ' : St) : Prop := (Sum.elim (fun o0 => e = (.exit 0) ∧ σ'.up.length = 2) (fun o1 => e = .ret ∧ σ'.get 4 = (.d true (.int .i64 o1)) ∧ σ'.up.length = 2)) r
theorem L_traces_Check_L0 (p0 : S_Circuit) (p1 : S_Trace) {s : Int} {r : (Unit) ⊕ (Int)} (h : Lp (b_traces_Check_L0 p0 p1) s = some r) {σ : St} {Q : Ex → St → Prop} (hI : I_traces_Check_L0 p0 p1 s σ) (hQ : ∀ e σ', J_traces_Check_L0 p0 p1 r e σ' → Q e σ') : WC env (.loop c_slices_IndexFunc_of_Lbool_l1) σ Q :=
 WC_Lp (I_traces_Check_L0 p0 p1) (J_traces_Check_L0 p0 p1) (by
  clear h hI hQ
  clear s r σ Q
  intro s0 σ x hI h
  obtain ⟨f0, f1, f2, f3, f4, f5⟩ := hI
  unfold b_traces_Check_L0 at h
  replace h := itb h; rcases h with ⟨c5, h⟩ | ⟨c5, h⟩
  ·replace h := bsome h; obtain ⟨x2, H4, h⟩ := h
   have n0 := idx_n H4; have q0 := idx_q H4; have y0 := idx_x H4
   replace h := itb h; rcases h with ⟨c6, h⟩ | ⟨c6, h⟩
   ·cases h
    simp (maxDischargeDepth := 6) only [go_sem, LQ_inr, J_traces_Check_L0, c_slices_IndexFunc_of_Lbool_l1, c_traces_Check_p1, c_slices_ContainsFunc_of_Lbool_p1, clF_small (f := k_traces_Check_1) rfl, clA_small (f := k_traces_Check_1) rfl, fnV_small (E := env) (f := k_traces_Check_1) fn_traces_Check_1 rfl rfl, *]
   ·cases h
    simp (maxDischargeDepth := 6) only [go_sem, LQ_inl, I_traces_Check_L0, c_slices_IndexFunc_of_Lbool_l1, c_traces_Check_p1, c_slices_ContainsFunc_of_Lbool_p1, clF_small (f := k_traces_Check_1) rfl, clA_small (f := k_traces_Check_1) rfl, fnV_small (E := env) (f := k_traces_Check_1) fn_traces_Check_1 rfl rfl, *]
  ·cases h
   simp only [go_sem, LQ_inr, J_traces_Check_L0, c_slices_IndexFunc_of_Lbool_l1, c_traces_Check_p1, c_slices_ContainsFunc_of_Lbool_p1, *]
) h hI hQ
noncomputable def s_traces_Check (p0 : S_Circuit) (p1 : S_Trace) : Option (Int) :=
 (s_gates_Check p0).bind fun r0 =>
 if (r0 != 0) = true then
  some r0
 else
  if (decide ((p1.Inputs.length : Int) > 100)) = true then
   some 4
  else
   (if ((p1.Inputs.length : Int) == 0) = true then
     some true
    else
     if ((p1.First.length : Int) != (p0.Latches.length : Int)) = true then
      some true
     else
      (s_traces_starts p0 p1.First).bind fun r1 =>
      if r1 = true then
       ((Lp (b_traces_Check_L0 p0 p1) 0).bind fun x2 =>
        match x2 with
        | .inl x2' =>
         some (decide ((-1) ≥ 0))
        | .inr x2' =>
         some (decide (x2' ≥ 0))).bind fun x1 =>
       some x1
      else
       some true).bind fun x0 =>
   if x0 = true then
    some 8
   else
    some 0
theorem s_traces_Check_ok {p0 : S_Circuit} {p1 : S_Trace} {r : Int} (h : s_traces_Check p0 p1 = some r) : Ans env k_traces_Check [(.ag [(.d true (.int .i64 p0.Inputs)), (.d false (.lst 2 (p0.Latches.map eS_Latch))), (.d false (.lst 2 (p0.Ands.map eS_And))), (.d false (.lst 1 (p0.Bads.map eI))), (.d false (.lst 1 (p0.Constraints.map eI)))]), (.ag [(.d false (.lst 1 (p1.First.map eB))), (.d false (.lst 1 (p1.Inputs.map (eL 1 eB))))])] (.d true (.int .i64 r)) := by
 unfold s_traces_Check at h
 unfold Ans
 rw [AtF fn_traces_Check]
 simp only [n_traces_Check]
 replace h := bsome h; obtain ⟨r0, H0, h⟩ := h
 have k0 := AtCall_all (s_gates_Check_ok H0); try dsimp only at k0
 replace h := itb h; rcases h with ⟨c0, h⟩ | ⟨c0, h⟩
 ·cases h
  simp only [go_sem, *]
  exact ⟨_, rfl⟩
 ·replace h := itb h; rcases h with ⟨c1, h⟩ | ⟨c1, h⟩
  ·cases h
   simp only [go_sem, *]
   exact ⟨_, rfl⟩
  ·replace h := bsome h; obtain ⟨x0, H1, h⟩ := h
   try simp only [go_sem, *]
   refine WC.mono (Q := fun e σ' => e = .normal ∧ σ'.get 42 = (.d true (.bool x0)) ∧ σ'.up.length = 0) ?_ ?_
   ·replace h := H1
    clear H1
    replace h := itb h; rcases h with ⟨c2, h⟩ | ⟨c2, h⟩
    ·cases h
     simp only [go_sem, c_traces_Check_p1, *]
    ·replace h := itb h; rcases h with ⟨c3, h⟩ | ⟨c3, h⟩
     ·cases h
      simp only [go_sem, c_traces_Check_p1, *]
     ·replace h := bsome h; obtain ⟨r1, H2, h⟩ := h
      have k1 := AtCall_all (s_traces_starts_ok H2); try dsimp only at k1
      replace h := itb h; rcases h with ⟨c4, h⟩ | ⟨c4, h⟩
      ·replace h := bsome h; obtain ⟨x1, H3, h⟩ := h
       try simp only [go_sem, c_traces_Check_p1, *]
       refine WC.mono (Q := fun e σ' => e = .normal ∧ σ'.get 4 = (.d true (.bool x1)) ∧ σ'.up.length = 1) ?_ ?_
       ·replace h := H3
        clear H3
        replace h := bsome h; obtain ⟨x2, H4, h⟩ := h
        try simp only [go_sem, c_traces_Check_p1, c_slices_ContainsFunc_of_Lbool_p1, *]
        refine L_traces_Check_L0 p0 p1 H4 ?_ ?_
        ·clear h
         simp only [go_sem, I_traces_Check_L0, c_traces_Check_p1, c_slices_ContainsFunc_of_Lbool_p1, *]
        ·intro e τ hJ
         rcases x2 with x2' | x2'
         ·obtain ⟨rfl, f0⟩ := hJ
          cases h
          simp only [go_sem, c_traces_Check_p1, c_slices_ContainsFunc_of_Lbool_p1, *]
         ·obtain ⟨rfl, f1, f2⟩ := hJ
          cases h
          simp only [go_sem, c_traces_Check_p1, c_slices_ContainsFunc_of_Lbool_p1, *]
       ·intro e τ hJ
        obtain ⟨rfl, f3, f4⟩ := hJ
        cases h
        simp only [go_sem, c_traces_Check_p1, *]
      ·cases h
       simp only [go_sem, c_traces_Check_p1, *]
   ·intro e τ hJ
    obtain ⟨rfl, f5, f6⟩ := hJ
    replace h := itb h; rcases h with ⟨c5, h⟩ | ⟨c5, h⟩
    ·cases h
     simp only [go_sem, *]
     exact ⟨_, rfl⟩
    ·cases h
     simp only [go_sem, *]
     exact ⟨_, rfl⟩
end Go.Proofs.Ytkhgnkfdpabflab.Vm
