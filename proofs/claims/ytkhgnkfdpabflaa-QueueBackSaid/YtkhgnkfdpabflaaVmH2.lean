/- Walks over the code of functions. Printed. -/
import Derived.Test.YtkhgnkfdpabflaaVmH1
namespace Go.Proofs.Ytkhgnkfdpabflaa.Vm
open Go
set_option linter.unusedSimpArgs false
set_option linter.unusedVariables false
set_option maxRecDepth 4000
set_option maxHeartbeats 4000000
attribute [local go_sem] WC_skip WC_exit WC_ret WC_seq WC_block WC_cond WC_rg KSeq_normal KSeq_ret KSeq_exit KBlock_normal KBlock_ret KBlock_exit KN_eq KRg_eq KSt_eq KSet_eq KLen_eq KPick_eq KG_eq KCond_eq boolP_d biteC_true biteC_false biteO_true biteO_false WO_nil WO_mv WO_nilr WO_pick WO_bin WO_beq WO_eqs WO_un WO_cvt WO_alloc WO_box WO_load WO_store WO_fad WO_fval WO_ix WO_ixb WO_ixa WO_bld WO_bsl WO_mks WO_slc WO_len WO_mx WO_mn WO_app WO_cpy WO_clr WO_xt WO_fn WO_chk WO_g
 WO_call WO_callv callK KHand KCallv KRes KBack_ret KRet_eq KAns env_fn St.hand St.lend St.lends St.lend1 St.vals St.frz fr1_obj fr1_get fr1_upl frO_rw frO_fz frO_none St.rowOf List.foldl_nil List.foldl_cons List.map_cons List.map_nil
 optP_some optP_none
 St.get_set St.obj_set St.get_setObj St.obj_setObj St.get_kill St.obj_kill0 St.obj_killS St.get_ini St.obj_ini0 gt_nil gt_zero gt_succ St.val_t St.val_c
 stl_get stl_obj0 stl_objS stl_upl stv_d stv_dx stv_nil stv_row0 stv_rowS stv_ptr stv_rel0 stv_pd stv_ag stv_tp stv_cl stvs_nil stvs_cons obs_box obs_rw obs_fz
 ret_get ret_obj ret_up ini_objS ini_upl ini_upl0 set_upl kill_upl setObj_upl0 setObj_uplS
 kill_d kill_dx kill_nil kill_row0 kill_rowS kill_ptr0 kill_ptrS kill_rel0 kill_relS kill_pd kill_ag kill_tp kill_cl kills_nil kills_cons obk_box obk_rw obk_fz
 pre step bin_int bin_shr bin_shl beq_bool arith_add arith_sub arith_mul arith_and arith_or arith_xor arith_eql arith_neq arith_lss arith_leq arith_gtr arith_geq arith_quo2 arith_rem2 arith_shr1 arith_shl1 maxOf_two minOf_two un lenOf cellsOf ofCells wid sub? slice_map slice_head slice_full' slice_z slice_c slice_s put St.new zcells St.load St.store Vm.fad St.ix St.slc St.els St.app St.wants St.skip I.dst resVal resVals Z.v Z.t? ofT T.cells V.shift V.shifts V.down V.downs downL chkV eqs eqFlat fill fillT flatFill T.noL T.flat
 dat dat2 dat1 dats1 dats2 Fn.pure FreeRows_nil FreeRows_cons setRows ren ren2 ren1 KTk take takes2 take2 takes1 take1 take0 rowsOb Vm.st Option.isNone_none Option.isNone_some List.mem_cons List.not_mem_nil not_or
 Option.map_some Option.map_none Option.bind_some List.length_cons List.length_nil List.length_append List.length_set cpl_length List.length_map List.length_replicate List.map_append List.map_set List.map_replicate List.getElem?_map List.getElem?_cons_zero List.getElem?_cons_succ List.drop_zero List.take_zero List.drop_succ_cons List.take_succ_cons List.take_nil List.drop_nil List.zip_cons_cons List.zip_nil_left List.zip_nil_right List.mapM_cons List.mapM_nil Option.pure_def Option.bind_eq_bind List.all_cons List.all_nil List.append_eq_nil_iff List.cons_ne_nil List.map_eq_nil_iff List.set_cons_zero List.set_cons_succ List.replicate_succ List.replicate_zero
 Nat.reduceEqDiff Nat.reduceLeDiff Nat.reduceAdd Nat.reduceSub Nat.reduceLT Nat.reduceMul Nat.reduceBEq Nat.ble_eq reduceIte reduceCtorEq Nat.add_zero Nat.sub_zero Nat.zero_add and_true true_and and_false false_and and_self or_true true_or false_or or_false if_true if_false Nat.one_ne_zero not_true not_false_eq_true not_false_iff Bool.false_eq_true forall_const true_implies false_implies implies_true BEq.rfl Bool.not_true Bool.not_false Bool.and_true Bool.true_and Bool.and_false Bool.false_and Bool.and_self Bool.true_bne Bool.false_bne not_true_eq_false List.nil_append List.append_nil List.cons_append dInt dBool Nat.le_refl Nat.le_add_right St.toT St.toTs ne_eq
 ff_set ff_setObj ff_setObjl ff_ini0 ff_iniS ff_ret ff_frz1 mg_get mg_obj0 mg_objS mg_up KBack_mg mrv_d mrv_nil mrv_ptr0 mrv_ptrS mrv_row0 mrv_rowS mrv_ag mrv_tp mrv_cl mrvs_nil mrvs_cons obm_box obm_rw obm_fz
 Sum.elim_inl Sum.elim_inr Option.some.injEq Ob.rw.injEq exists_eq2 eI eU8 eU64 eB eL eS_Wait eS_Obligation eS_Latch eS_And eS_Circuit eA4_Int oB0 oB1 oB2 oB3 c_law38_QueueBack fn_law38_alive fn_queue_Pop fn_queue_Push fn_ref38_Check fn_ref38_Less fn_ref38_May fn_ref38_Same n_law38_alive n_queue_Pop n_queue_Push n_ref38_Check n_ref38_Less n_ref38_May n_ref38_Same
noncomputable def s_law38_QueueBack (p0 : (List S_Wait)) (p1 : S_Wait) : Option (Bool) :=
 (s_law38_alive ).bind fun r0 =>
 (if (decide ((p0.length : Int) > 130)) = true then
   some true
  else
   (s_ref38_Check p0).bind fun r1 =>
   if (r1 != 0) = true then
    some true
   else
    (s_ref38_May p1).bind fun r2 =>
    if r2 = true then
     some (!r0)
    else
     some true).bind fun x0 =>
 if x0 = true then
  some r0
 else
  (s_queue_Push p0 p1).bind fun r3 =>
  (s_queue_Pop r3.1).bind fun r4 =>
  (if (r3.2 != 0) = true then
    some true
   else
    if (r4.2.2 != 0) = true then
     some true
    else
     some ((r3.1.length : Int) != (IntKind.wrap .i64 ((p0.length : Int) + 1)))).bind fun x1 =>
  if x1 = true then
   some false
  else
   (if ((p0.length : Int) == 0) = true then
     some true
    else
     (idx p0 0).bind fun x3 =>
     (s_ref38_Less x3 p1).bind fun r5 =>
     some (!r5)).bind fun x2 =>
   if x2 = true then
    (if r0 = true then
      if (r4.1.Frame == p1.Frame) = true then
       if (r4.1.Number == p1.Number) = true then
        (s_ref38_Same r4.2.1 p0).bind fun r6 =>
        some r6
       else
        some false
      else
       some false
     else
      some false).bind fun x4 =>
    some x4
   else
    (s_queue_Pop p0).bind fun r7 =>
    (s_queue_Push r7.2.1 p1).bind fun r8 =>
    (if r0 = true then
      (idx p0 0).bind fun x6 =>
      if (r4.1.Frame == x6.Frame) = true then
       if (r4.1.Number == x6.Number) = true then
        if (r7.2.2 == 0) = true then
         if (r8.2 == 0) = true then
          (s_ref38_Same r8.1 r4.2.1).bind fun r9 =>
          some r9
         else
          some false
        else
         some false
       else
        some false
      else
       some false
     else
      some false).bind fun x5 =>
    some x5
theorem s_law38_QueueBack_ok {p0 : (List S_Wait)} {p1 : S_Wait} {r : Bool} (h : s_law38_QueueBack p0 p1 = some r) : AnsL env k_law38_QueueBack [(.d true (.lst 2 (p0.map eS_Wait))), (.ag [(.d true (.int .i64 p1.Frame)), (.d true (.int .i64 p1.Number))])] (.d true (.bool r)) := by
 unfold s_law38_QueueBack at h
 unfold AnsL
 rw [AtF fn_law38_QueueBack]
 simp only [n_law38_QueueBack]
 replace h := bsome h; obtain ⟨r0, H0, h⟩ := h
 have k0 := AtCall_all (s_law38_alive_ok H0); try dsimp only at k0
 replace h := bsome h; obtain ⟨x0, H1, h⟩ := h
 try simp only [go_sem, *]
 refine WC.mono (Q := fun e σ' => e = .normal ∧ σ'.get 0 = (.d true (.lst 2 (p0.map eS_Wait))) ∧ σ'.get 3 = (.ptr 0 0 0) ∧ σ'.get 5 = (.d true (.bool r0)) ∧ σ'.get 33 = (.d true (.bool x0)) ∧ σ'.obj 0 0 = oB0 p1 ∧ σ'.obj 0 1 = none ∧ σ'.obj 0 2 = none ∧ σ'.up.length = 0) ?_ ?_
 ·replace h := H1
  clear H1
  replace h := itb h; rcases h with ⟨c0, h⟩ | ⟨c0, h⟩
  ·cases h
   simp only [go_sem, c_law38_QueueBack_p1, *]
  ·replace h := bsome h; obtain ⟨r1, H2, h⟩ := h
   have k1 := AtCall_all (s_ref38_Check_ok H2); try dsimp only at k1
   replace h := itb h; rcases h with ⟨c1, h⟩ | ⟨c1, h⟩
   ·cases h
    simp only [go_sem, c_law38_QueueBack_p1, *]
   ·replace h := bsome h; obtain ⟨r2, H3, h⟩ := h
    have k2 := AtCall_all (s_ref38_May_ok H3); try dsimp only at k2
    replace h := itb h; rcases h with ⟨c2, h⟩ | ⟨c2, h⟩
    ·cases h
     simp only [go_sem, c_law38_QueueBack_p1, *]
    ·cases h
     simp only [go_sem, c_law38_QueueBack_p1, *]
 ·intro e τ hJ
  obtain ⟨rfl, f0, f1, f2, f3, f4, f5, f6, f7⟩ := hJ
  replace h := itb h; rcases h with ⟨c3, h⟩ | ⟨c3, h⟩
  ·cases h
   simp only [go_sem, KLaw, *]
  ·replace h := bsome h; obtain ⟨r3, H4, h⟩ := h
   have k3 := AtCall_all (s_queue_Push_ok H4); try dsimp only at k3
   replace h := bsome h; obtain ⟨r4, H5, h⟩ := h
   have k4 := AtCall_all (s_queue_Pop_ok H5); try dsimp only at k4
   replace h := bsome h; obtain ⟨x1, H6, h⟩ := h
   try simp only [go_sem, *]
   refine WC.mono (Q := fun e σ' => e = .normal ∧ σ'.get 0 = (.d true (.lst 2 (p0.map eS_Wait))) ∧ σ'.get 3 = (.ptr 0 0 0) ∧ σ'.get 5 = (.d true (.bool r0)) ∧ σ'.get 8 = (.ptr 0 1 0) ∧ σ'.get 9 = (.d true (.lst 2 (r4.2.1.map eS_Wait))) ∧ σ'.get 60 = (.d true (.bool x1)) ∧ σ'.obj 0 0 = oB0 p1 ∧ σ'.obj 0 1 = oB0 r4.1 ∧ σ'.obj 0 2 = none ∧ σ'.up.length = 0) ?_ ?_
   ·replace h := H6
    clear H6
    replace h := itb h; rcases h with ⟨c4, h⟩ | ⟨c4, h⟩
    ·cases h
     simp only [go_sem, c_law38_QueueBack_p2, *]
    ·replace h := itb h; rcases h with ⟨c5, h⟩ | ⟨c5, h⟩
     ·cases h
      simp only [go_sem, c_law38_QueueBack_p2, *]
     ·cases h
      simp only [go_sem, c_law38_QueueBack_p2, *]
   ·intro e τ hJ
    obtain ⟨rfl, f8, f9, f10, f11, f12, f13, f14, f15, f16, f17⟩ := hJ
    replace h := itb h; rcases h with ⟨c6, h⟩ | ⟨c6, h⟩
    ·cases h
     simp only [go_sem, KLaw, *]
    ·replace h := bsome h; obtain ⟨x2, H7, h⟩ := h
     try simp only [go_sem, *]
     refine WC.mono (Q := fun e σ' => e = .normal ∧ σ'.get 0 = (.d true (.lst 2 (p0.map eS_Wait))) ∧ σ'.get 3 = (.ptr 0 0 0) ∧ σ'.get 5 = (.d true (.bool r0)) ∧ σ'.get 8 = (.ptr 0 1 0) ∧ σ'.get 9 = (.d true (.lst 2 (r4.2.1.map eS_Wait))) ∧ σ'.get 71 = (.d true (.bool x2)) ∧ σ'.obj 0 0 = oB0 p1 ∧ σ'.obj 0 1 = oB0 r4.1 ∧ σ'.obj 0 2 = none ∧ σ'.up.length = 0) ?_ ?_
     ·replace h := H7
      clear H7
      replace h := itb h; rcases h with ⟨c7, h⟩ | ⟨c7, h⟩
      ·cases h
       simp only [go_sem, c_law38_QueueBack_p3, *]
      ·replace h := bsome h; obtain ⟨x3, H8, h⟩ := h
       have n0 := idx_n H8; have q0 := idx_q H8; have y0 := idx_x H8
       simp only [Int.toNat_zero] at n0 q0 y0
       replace h := bsome h; obtain ⟨r5, H9, h⟩ := h
       have k5 := AtCall_all (s_ref38_Less_ok H9); try dsimp only at k5
       cases h
       simp only [go_sem, c_law38_QueueBack_p3, *]
     ·intro e τ hJ
      obtain ⟨rfl, f18, f19, f20, f21, f22, f23, f24, f25, f26, f27⟩ := hJ
      replace h := itb h; rcases h with ⟨c8, h⟩ | ⟨c8, h⟩
      ·replace h := bsome h; obtain ⟨x4, H10, h⟩ := h
       try simp only [go_sem, *]
       refine WC.mono (Q := fun e σ' => e = .normal ∧ σ'.get 4 = (.d true (.bool x4)) ∧ σ'.obj 0 2 = none ∧ σ'.up.length = 0) ?_ ?_
       ·replace h := H10
        clear H10
        replace h := itb h; rcases h with ⟨c9, h⟩ | ⟨c9, h⟩
        ·replace h := itb h; rcases h with ⟨c10, h⟩ | ⟨c10, h⟩
         ·replace h := itb h; rcases h with ⟨c11, h⟩ | ⟨c11, h⟩
          ·replace h := bsome h; obtain ⟨r6, H11, h⟩ := h
           have k6 := AtCall_all (s_ref38_Same_ok H11); try dsimp only at k6
           cases h
           simp only [go_sem, c_law38_QueueBack_p4, *]
          ·cases h
           simp only [go_sem, c_law38_QueueBack_p4, *]
         ·cases h
          simp only [go_sem, c_law38_QueueBack_p4, *]
        ·cases h
         simp only [go_sem, c_law38_QueueBack_p4, *]
       ·intro e τ hJ
        obtain ⟨rfl, f28, f29, f30⟩ := hJ
        cases h
        simp only [go_sem, KLaw, *]
      ·replace h := bsome h; obtain ⟨r7, H12, h⟩ := h
       have k7 := AtCall_all (s_queue_Pop_ok H12); try dsimp only at k7
       replace h := bsome h; obtain ⟨r8, H13, h⟩ := h
       have k8 := AtCall_all (s_queue_Push_ok H13); try dsimp only at k8
       replace h := bsome h; obtain ⟨x5, H14, h⟩ := h
       try simp only [go_sem, *]
       refine WC.mono (Q := fun e σ' => e = .normal ∧ σ'.get 4 = (.d true (.bool x5)) ∧ σ'.up.length = 0) ?_ ?_
       ·replace h := H14
        clear H14
        replace h := itb h; rcases h with ⟨c12, h⟩ | ⟨c12, h⟩
        ·replace h := bsome h; obtain ⟨x6, H15, h⟩ := h
         have n1 := idx_n H15; have q1 := idx_q H15; have y1 := idx_x H15
         simp only [Int.toNat_zero] at n1 q1 y1
         replace h := itb h; rcases h with ⟨c13, h⟩ | ⟨c13, h⟩
         ·replace h := itb h; rcases h with ⟨c14, h⟩ | ⟨c14, h⟩
          ·replace h := itb h; rcases h with ⟨c15, h⟩ | ⟨c15, h⟩
           ·replace h := itb h; rcases h with ⟨c16, h⟩ | ⟨c16, h⟩
            ·replace h := bsome h; obtain ⟨r9, H16, h⟩ := h
             have k9 := AtCall_all (s_ref38_Same_ok H16); try dsimp only at k9
             cases h
             simp only [go_sem, c_law38_QueueBack_p5, *]
            ·cases h
             simp only [go_sem, c_law38_QueueBack_p5, *]
           ·cases h
            simp only [go_sem, c_law38_QueueBack_p5, *]
          ·cases h
           simp only [go_sem, c_law38_QueueBack_p5, *]
         ·cases h
          simp only [go_sem, c_law38_QueueBack_p5, *]
        ·cases h
         simp only [go_sem, c_law38_QueueBack_p5, *]
       ·intro e τ hJ
        obtain ⟨rfl, f31, f32⟩ := hJ
        cases h
        simp only [go_sem, KLaw, *]
end Go.Proofs.Ytkhgnkfdpabflaa.Vm
