/- Walks over the code of functions. Printed. -/
import Derived.Test.YtkhgnkfdpabflaaVmH1
namespace Go.Proofs.Ytkhgnkfdpabflaa.Vm
open Go
set_option linter.unusedSimpArgs false
set_option linter.unusedVariables false
set_option maxRecDepth 4000
set_option maxHeartbeats 4000000
attribute [local go_sem] WC_skip WC_exit WC_ret WC_seq WC_block WC_cond WC_rg KSeq_normal KSeq_ret KSeq_exit KBlock_normal KBlock_ret KBlock_exit KN_eq KRg_eq KSt_eq KSet_eq KLen_eq KPick_eq KG_eq KCond_eq boolP_d biteC_true biteC_false biteO_true biteO_false WO_nil WO_mv WO_nilr WO_pick WO_bin WO_beq WO_eqs WO_un WO_cvt WO_alloc WO_box WO_load WO_store WO_fad WO_fval WO_ix WO_ixb WO_ixa WO_bld WO_bsl WO_mks WO_slc WO_len WO_mx WO_mn WO_app WO_cpy WO_clr WO_xt WO_fn WO_chk WO_g
 WO_call WO_callv callK KHand KCallv KRes KBack_ret KRet_eq KAns env_fn St.hand St.lend St.lends St.lend1 St.vals St.frz fr1_obj fr1_get fr1_upl frO_rw frO_fz frO_none St.rowOf List.foldl_nil List.foldl_cons List.map_cons List.map_nil
 optP_some optP_none
 St.get_set St.obj_set St.get_setObj St.obj_setObj St.get_kill St.obj_kill0 St.obj_killS St.get_ini St.obj_ini0 gt_nil gt_zero gt_succ St.val_t St.val_c
 stl_get stl_obj0 stl_objS stl_upl stv_d stv_dx stv_nil stv_row0 stv_rowS stv_ptr stv_rel0 stv_pd stv_ag stv_tp stv_cl stvs_nil stvs_cons obs_box obs_rw obs_fz
 ret_get ret_obj ret_up ini_objS ini_upl ini_upl0 set_upl kill_upl setObj_upl0 setObj_uplS
 kill_d kill_dx kill_nil kill_row0 kill_rowS kill_ptr0 kill_ptrS kill_rel0 kill_relS kill_pd kill_ag kill_tp kill_cl kills_nil kills_cons obk_box obk_rw obk_fz
 pre step bin_int bin_shr bin_shl beq_bool arith_add arith_sub arith_mul arith_and arith_or arith_xor arith_eql arith_neq arith_lss arith_leq arith_gtr arith_geq arith_quo2 arith_rem2 arith_shr1 arith_shl1 maxOf_two minOf_two un lenOf cellsOf ofCells wid sub? slice_map slice_head slice_full' slice_z slice_c slice_s put St.new zcells St.load St.store Vm.fad St.ix St.slc St.els St.app St.wants St.skip I.dst resVal resVals Z.v Z.t? ofT T.cells V.shift V.shifts V.down V.downs downL chkV eqs eqFlat fill fillT flatFill T.noL T.flat
 dat dat2 dat1 dats1 dats2 Fn.pure FreeRows_nil FreeRows_cons setRows ren ren2 ren1 KTk take takes2 take2 takes1 take1 take0 rowsOb Vm.st Option.isNone_none Option.isNone_some List.mem_cons List.not_mem_nil not_or
 Option.map_some Option.map_none Option.bind_some List.length_cons List.length_nil List.length_append List.length_set cpl_length List.length_map List.length_replicate List.map_append List.map_set List.map_replicate List.getElem?_map List.getElem?_cons_zero List.getElem?_cons_succ List.drop_zero List.take_zero List.drop_succ_cons List.take_succ_cons List.take_nil List.drop_nil List.zip_cons_cons List.zip_nil_left List.zip_nil_right List.mapM_cons List.mapM_nil Option.pure_def Option.bind_eq_bind List.all_cons List.all_nil List.append_eq_nil_iff List.cons_ne_nil List.map_eq_nil_iff List.set_cons_zero List.set_cons_succ List.replicate_succ List.replicate_zero
 Nat.reduceEqDiff Nat.reduceLeDiff Nat.reduceAdd Nat.reduceSub Nat.reduceLT Nat.reduceMul Nat.reduceBEq Nat.ble_eq reduceIte reduceCtorEq Nat.add_zero Nat.sub_zero Nat.zero_add and_true true_and and_false false_and and_self or_true true_or false_or or_false if_true if_false Nat.one_ne_zero not_true not_false_eq_true not_false_iff Bool.false_eq_true forall_const true_implies false_implies implies_true BEq.rfl Bool.not_true Bool.not_false Bool.and_true Bool.true_and Bool.and_false Bool.false_and Bool.and_self Bool.true_bne Bool.false_bne not_true_eq_false List.nil_append List.append_nil List.cons_append dInt dBool Nat.le_refl Nat.le_add_right St.toT St.toTs ne_eq
 ff_set ff_setObj ff_setObjl ff_ini0 ff_iniS ff_ret ff_frz1 mg_get mg_obj0 mg_objS mg_up KBack_mg mrv_d mrv_nil mrv_ptr0 mrv_ptrS mrv_row0 mrv_rowS mrv_ag mrv_tp mrv_cl mrvs_nil mrvs_cons obm_box obm_rw obm_fz
 Sum.elim_inl Sum.elim_inr Option.some.injEq Ob.rw.injEq exists_eq2 eI eU8 eU64 eB eL eS_Wait eS_Obligation eS_Latch eS_And eS_Circuit eA4_Int oB0 oB1 oB2 oB3 c_law38_QueueFirst fn_law38_alive fn_law38_popped fn_law38_pushed fn_queue_Check fn_ref38_Less fn_ref38_May fn_ref38_Same n_law38_alive n_law38_popped n_law38_pushed n_queue_Check n_ref38_Less n_ref38_May n_ref38_Same
noncomputable def b_law38_QueueFirst_L0 (p0 : (List S_Wait)) (p1 : Int) (r0 : Bool) (s0 : Int) : Option ((Int) ⊕ ((Unit) ⊕ (Unit))) :=
 if (decide (s0 < (p0.length : Int))) = true then
  (idx p0 s0).bind fun x1 =>
  (s_ref38_May x1).bind fun r1 =>
  if r1 = true then
   some (Sum.inl (IntKind.wrap .i64 (s0 + 1)))
  else
   some (Sum.inr (Sum.inr ()))
 else
  some (Sum.inr (Sum.inl ()))
def I_law38_QueueFirst_L0 (p0 : (List S_Wait)) (p1 : Int) (r0 : Bool) (s0 : Int) (σ : St) : Prop := σ.get 0 = (.d true (.lst 2 (p0.map eS_Wait))) ∧ σ.get 1 = (.d true (.int .i64 p1)) ∧ σ.get 5 = (.d true (.bool r0)) ∧ σ.get 6 = (.d true (.int .i64 s0)) ∧ σ.obj 0 0 = none ∧ σ.obj 0 1 = none ∧ σ.obj 0 2 = none ∧ σ.up.length = 0
def J_law38_QueueFirst_L0 (p0 : (List S_Wait)) (p1 : Int) (r0 : Bool) (r : (Unit) ⊕ (Unit)) (e : Ex) (σ' : St) : Prop := (Sum.elim (fun o0 => e = (.exit 0) ∧ σ'.get 0 = (.d true (.lst 2 (p0.map eS_Wait))) ∧ σ'.get 1 = (.d true (.int .i64 p1)) ∧ σ'.get 5 = (.d true (.bool r0)) ∧ σ'.obj 0 0 = none ∧ σ'.obj 0 1 = none ∧ σ'.obj 0 2 = none ∧ σ'.up.length = 0) (fun o1 => e = .ret ∧ σ'.get 4 = (.d true (.bool r0)) ∧ σ'.obj 0 0 = none ∧ σ'.obj 0 1 = none ∧ σ'.obj 0 2 = none ∧ σ'.up.length = 0)) r
theorem L_law38_QueueFirst_L0 (p0 : (List S_Wait)) (p1 : Int) (r0 : Bool) {s : Int} {r : (Unit) ⊕ (Unit)} (h : Lp (b_law38_QueueFirst_L0 p0 p1 r0) s = some r) {σ : St} {Q : Ex → St → Prop} (hI : I_law38_QueueFirst_L0 p0 p1 r0 s σ) (hQ : ∀ e σ', J_law38_QueueFirst_L0 p0 p1 r0 r e σ' → Q e σ') : WC env (.loop c_law38_QueueFirst_l1) σ Q :=
 WC_Lp (I_law38_QueueFirst_L0 p0 p1 r0) (J_law38_QueueFirst_L0 p0 p1 r0) (by
  clear h hI hQ
  clear s r σ Q
  intro s0 σ x hI h
  obtain ⟨f8, f9, f10, f11, f12, f13, f14, f15⟩ := hI
  unfold b_law38_QueueFirst_L0 at h
  replace h := itb h; rcases h with ⟨c4, h⟩ | ⟨c4, h⟩
  ·replace h := bsome h; obtain ⟨x1, H2, h⟩ := h
   have n0 := idx_n H2; have q0 := idx_q H2; have y0 := idx_x H2
   replace h := bsome h; obtain ⟨r1, H3, h⟩ := h
   have k1 := AtCall_all (s_ref38_May_ok H3); try dsimp only at k1
   replace h := itb h; rcases h with ⟨c5, h⟩ | ⟨c5, h⟩
   ·cases h
    simp only [go_sem, LQ_inl, I_law38_QueueFirst_L0, c_law38_QueueFirst_l1, *]
   ·cases h
    simp only [go_sem, LQ_inr, J_law38_QueueFirst_L0, c_law38_QueueFirst_l1, *]
  ·cases h
   simp only [go_sem, LQ_inr, J_law38_QueueFirst_L0, c_law38_QueueFirst_l1, *]
) h hI hQ
def b_law38_QueueFirst_L2 (p0 : (List S_Wait)) (r0 : Bool) (r3 : (List S_Wait) × Bool) (s1 : Int) (s2 : Int × Int) : Option ((Int × Int) ⊕ (Int)) :=
 if (decide (s2.2 < (r3.1.length : Int))) = true then
  ((((idx r3.1 s2.2).bind fun x6 =>
     (idx r3.1 s1).bind fun x7 =>
     if (x6.Frame == x7.Frame) = true then
      if (x6.Number == x7.Number) = true then
       some true
      else
       some false
     else
      some false).bind fun x5 =>
    if x5 = true then
     some (IntKind.wrap .i64 (s2.1 + 1))
    else
     some s2.1).bind fun x4 =>
   ((idx p0 s2.2).bind fun x9 =>
    (idx r3.1 s1).bind fun x10 =>
    if (x9.Frame == x10.Frame) = true then
     if (x9.Number == x10.Number) = true then
      some true
     else
      some false
    else
     some false).bind fun x8 =>
   if x8 = true then
    some (IntKind.wrap .i64 (x4 - 1))
   else
    some x4).bind fun x3 =>
  some (Sum.inl (x3, (IntKind.wrap .i64 (s2.2 + 1))))
 else
  some (Sum.inr s2.1)
def I_law38_QueueFirst_L2 (p0 : (List S_Wait)) (r0 : Bool) (r3 : (List S_Wait) × Bool) (s1 : Int) (s2 : Int × Int) (σ : St) : Prop := σ.get 0 = (.d true (.lst 2 (p0.map eS_Wait))) ∧ σ.get 5 = (.d true (.bool r0)) ∧ σ.get 11 = (.d true (.lst 2 (r3.1.map eS_Wait))) ∧ σ.get 13 = (.d true (.int .i64 s1)) ∧ σ.get 14 = (.d true (.int .i64 s2.1)) ∧ σ.get 15 = (.d true (.int .i64 s2.2)) ∧ σ.obj 0 1 = none ∧ σ.obj 0 2 = none ∧ σ.up.length = 0
def J_law38_QueueFirst_L2 (p0 : (List S_Wait)) (r0 : Bool) (r3 : (List S_Wait) × Bool) (s1 : Int) (r : Int) (e : Ex) (σ' : St) : Prop := e = (.exit 4) ∧ σ'.get 0 = (.d true (.lst 2 (p0.map eS_Wait))) ∧ σ'.get 5 = (.d true (.bool r0)) ∧ σ'.get 11 = (.d true (.lst 2 (r3.1.map eS_Wait))) ∧ σ'.get 13 = (.d true (.int .i64 s1)) ∧ σ'.get 14 = (.d true (.int .i64 r)) ∧ σ'.obj 0 1 = none ∧ σ'.obj 0 2 = none ∧ σ'.up.length = 0
theorem L_law38_QueueFirst_L2 (p0 : (List S_Wait)) (r0 : Bool) (r3 : (List S_Wait) × Bool) (s1 : Int) {s : Int × Int} {r : Int} (h : Lp (b_law38_QueueFirst_L2 p0 r0 r3 s1) s = some r) {σ : St} {Q : Ex → St → Prop} (hI : I_law38_QueueFirst_L2 p0 r0 r3 s1 s σ) (hQ : ∀ e σ', J_law38_QueueFirst_L2 p0 r0 r3 s1 r e σ' → Q e σ') : WC env (.loop c_law38_QueueFirst_l2) σ Q :=
 WC_Lp (I_law38_QueueFirst_L2 p0 r0 r3 s1) (J_law38_QueueFirst_L2 p0 r0 r3 s1) (by
  clear h hI hQ
  clear s r σ Q
  intro s2 σ x hI h
  obtain ⟨f29, f30, f31, f32, f33, f34, f35, f36, f37⟩ := hI
  unfold b_law38_QueueFirst_L2 at h
  replace h := itb h; rcases h with ⟨c12, h⟩ | ⟨c12, h⟩
  ·replace h := bsome h; obtain ⟨x3, H14, h⟩ := h
   try simp only [go_sem, c_law38_QueueFirst_l2, c_law38_QueueFirst_l3, *]
   refine WC.mono (Q := fun e σ' => e = .normal ∧ σ'.get 0 = (.d true (.lst 2 (p0.map eS_Wait))) ∧ σ'.get 5 = (.d true (.bool r0)) ∧ σ'.get 11 = (.d true (.lst 2 (r3.1.map eS_Wait))) ∧ σ'.get 13 = (.d true (.int .i64 s1)) ∧ σ'.get 14 = (.d true (.int .i64 x3)) ∧ σ'.get 15 = (.d true (.int .i64 s2.2)) ∧ σ'.obj 0 1 = none ∧ σ'.obj 0 2 = none ∧ σ'.up.length = 0) ?_ ?_
   ·replace h := H14
    clear H14
    replace h := bsome h; obtain ⟨x4, H15, h⟩ := h
    try simp only [go_sem, c_law38_QueueFirst_l2, c_law38_QueueFirst_l3, c_law38_QueueFirst_p6, *]
    refine WC.mono (Q := fun e σ' => e = .normal ∧ σ'.get 0 = (.d true (.lst 2 (p0.map eS_Wait))) ∧ σ'.get 5 = (.d true (.bool r0)) ∧ σ'.get 11 = (.d true (.lst 2 (r3.1.map eS_Wait))) ∧ σ'.get 13 = (.d true (.int .i64 s1)) ∧ σ'.get 14 = (.d true (.int .i64 x4)) ∧ σ'.get 15 = (.d true (.int .i64 s2.2)) ∧ σ'.obj 0 1 = none ∧ σ'.obj 0 2 = none ∧ σ'.up.length = 0) ?_ ?_
    ·replace h := H15
     clear H15
     replace h := bsome h; obtain ⟨x5, H16, h⟩ := h
     try simp only [go_sem, c_law38_QueueFirst_l2, c_law38_QueueFirst_l3, c_law38_QueueFirst_p6, c_law38_QueueFirst_p4, *]
     refine WC.mono (Q := fun e σ' => e = .normal ∧ σ'.get 0 = (.d true (.lst 2 (p0.map eS_Wait))) ∧ σ'.get 5 = (.d true (.bool r0)) ∧ σ'.get 11 = (.d true (.lst 2 (r3.1.map eS_Wait))) ∧ σ'.get 13 = (.d true (.int .i64 s1)) ∧ σ'.get 14 = (.d true (.int .i64 s2.1)) ∧ σ'.get 15 = (.d true (.int .i64 s2.2)) ∧ σ'.get 125 = (.d true (.bool x5)) ∧ σ'.obj 0 1 = none ∧ σ'.obj 0 2 = none ∧ σ'.up.length = 0) ?_ ?_
     ·replace h := H16
      clear H16
      replace h := bsome h; obtain ⟨x6, H17, h⟩ := h
      have n0 := idx_n H17; have q0 := idx_q H17; have y0 := idx_x H17
      replace h := bsome h; obtain ⟨x7, H18, h⟩ := h
      have n1 := idx_n H18; have q1 := idx_q H18; have y1 := idx_x H18
      replace h := itb h; rcases h with ⟨c13, h⟩ | ⟨c13, h⟩
      ·replace h := itb h; rcases h with ⟨c14, h⟩ | ⟨c14, h⟩
       ·cases h
        simp only [go_sem, c_law38_QueueFirst_l2, c_law38_QueueFirst_l3, c_law38_QueueFirst_p6, c_law38_QueueFirst_p4, c_law38_QueueFirst_p3, *]
       ·cases h
        simp only [go_sem, c_law38_QueueFirst_l2, c_law38_QueueFirst_l3, c_law38_QueueFirst_p6, c_law38_QueueFirst_p4, c_law38_QueueFirst_p3, *]
      ·cases h
       simp only [go_sem, c_law38_QueueFirst_l2, c_law38_QueueFirst_l3, c_law38_QueueFirst_p6, c_law38_QueueFirst_p4, c_law38_QueueFirst_p3, *]
     ·intro e τ hJ
      obtain ⟨rfl, f38, f39, f40, f41, f42, f43, f44, f45, f46, f47⟩ := hJ
      replace h := itb h; rcases h with ⟨c15, h⟩ | ⟨c15, h⟩
      ·cases h
       simp only [go_sem, c_law38_QueueFirst_l2, c_law38_QueueFirst_l3, c_law38_QueueFirst_p6, c_law38_QueueFirst_p4, *]
      ·cases h
       simp only [go_sem, c_law38_QueueFirst_l2, c_law38_QueueFirst_l3, c_law38_QueueFirst_p6, c_law38_QueueFirst_p4, *]
    ·intro e τ hJ
     obtain ⟨rfl, f48, f49, f50, f51, f52, f53, f54, f55, f56⟩ := hJ
     replace h := bsome h; obtain ⟨x8, H19, h⟩ := h
     try simp only [go_sem, c_law38_QueueFirst_l2, c_law38_QueueFirst_l3, c_law38_QueueFirst_p6, *]
     refine WC.mono (Q := fun e σ' => e = .normal ∧ σ'.get 0 = (.d true (.lst 2 (p0.map eS_Wait))) ∧ σ'.get 5 = (.d true (.bool r0)) ∧ σ'.get 11 = (.d true (.lst 2 (r3.1.map eS_Wait))) ∧ σ'.get 13 = (.d true (.int .i64 s1)) ∧ σ'.get 14 = (.d true (.int .i64 x4)) ∧ σ'.get 15 = (.d true (.int .i64 s2.2)) ∧ σ'.get 136 = (.d true (.bool x8)) ∧ σ'.obj 0 1 = none ∧ σ'.obj 0 2 = none ∧ σ'.up.length = 0) ?_ ?_
     ·replace h := H19
      clear H19
      replace h := bsome h; obtain ⟨x9, H20, h⟩ := h
      have n2 := idx_n H20; have q2 := idx_q H20; have y2 := idx_x H20
      replace h := bsome h; obtain ⟨x10, H21, h⟩ := h
      have n3 := idx_n H21; have q3 := idx_q H21; have y3 := idx_x H21
      replace h := itb h; rcases h with ⟨c16, h⟩ | ⟨c16, h⟩
      ·replace h := itb h; rcases h with ⟨c17, h⟩ | ⟨c17, h⟩
       ·cases h
        simp only [go_sem, c_law38_QueueFirst_l2, c_law38_QueueFirst_l3, c_law38_QueueFirst_p6, c_law38_QueueFirst_p5, *]
       ·cases h
        simp only [go_sem, c_law38_QueueFirst_l2, c_law38_QueueFirst_l3, c_law38_QueueFirst_p6, c_law38_QueueFirst_p5, *]
      ·cases h
       simp only [go_sem, c_law38_QueueFirst_l2, c_law38_QueueFirst_l3, c_law38_QueueFirst_p6, c_law38_QueueFirst_p5, *]
     ·intro e τ hJ
      obtain ⟨rfl, f57, f58, f59, f60, f61, f62, f63, f64, f65, f66⟩ := hJ
      replace h := itb h; rcases h with ⟨c18, h⟩ | ⟨c18, h⟩
      ·cases h
       simp only [go_sem, c_law38_QueueFirst_l2, c_law38_QueueFirst_l3, c_law38_QueueFirst_p6, *]
      ·cases h
       simp only [go_sem, c_law38_QueueFirst_l2, c_law38_QueueFirst_l3, c_law38_QueueFirst_p6, *]
   ·intro e τ hJ
    obtain ⟨rfl, f67, f68, f69, f70, f71, f72, f73, f74, f75⟩ := hJ
    cases h
    simp only [go_sem, LQ_inl, I_law38_QueueFirst_L2, c_law38_QueueFirst_l2, c_law38_QueueFirst_l3, *]
  ·cases h
   simp only [go_sem, LQ_inr, J_law38_QueueFirst_L2, c_law38_QueueFirst_l2, c_law38_QueueFirst_l3, *]
) h hI hQ
noncomputable def b_law38_QueueFirst_L1 (p0 : (List S_Wait)) (r0 : Bool) (r3 : (List S_Wait) × Bool) (s1 : Int) : Option ((Int) ⊕ ((Unit) ⊕ (Unit))) :=
 if (decide (s1 < (r3.1.length : Int))) = true then
  (Lp (b_law38_QueueFirst_L2 p0 r0 r3 s1) (0, 0)).bind fun x3 =>
  (if (x3 != 0) = true then
    some true
   else
    if (decide (s1 > 0)) = true then
     (idx r3.1 s1).bind fun x5 =>
     (idx r3.1 (IntKind.wrap .i64 (s1 - 1))).bind fun x6 =>
     (s_ref38_Less x5 x6).bind fun r7 =>
     some r7
    else
     some false).bind fun x4 =>
  if x4 = true then
   some (Sum.inr (Sum.inr ()))
  else
   some (Sum.inl (IntKind.wrap .i64 (s1 + 1)))
 else
  some (Sum.inr (Sum.inl ()))
def I_law38_QueueFirst_L1 (p0 : (List S_Wait)) (r0 : Bool) (r3 : (List S_Wait) × Bool) (s1 : Int) (σ : St) : Prop := σ.get 0 = (.d true (.lst 2 (p0.map eS_Wait))) ∧ σ.get 5 = (.d true (.bool r0)) ∧ σ.get 11 = (.d true (.lst 2 (r3.1.map eS_Wait))) ∧ σ.get 13 = (.d true (.int .i64 s1)) ∧ σ.obj 0 1 = none ∧ σ.obj 0 2 = none ∧ σ.up.length = 0
def J_law38_QueueFirst_L1 (p0 : (List S_Wait)) (r0 : Bool) (r3 : (List S_Wait) × Bool) (r : (Unit) ⊕ (Unit)) (e : Ex) (σ' : St) : Prop := (Sum.elim (fun o0 => e = (.exit 2) ∧ σ'.get 5 = (.d true (.bool r0)) ∧ σ'.obj 0 1 = none ∧ σ'.obj 0 2 = none ∧ σ'.up.length = 0) (fun o1 => e = .ret ∧ σ'.get 4 = (.d true (.bool false)) ∧ σ'.obj 0 1 = none ∧ σ'.obj 0 2 = none ∧ σ'.up.length = 0)) r
theorem L_law38_QueueFirst_L1 (p0 : (List S_Wait)) (r0 : Bool) (r3 : (List S_Wait) × Bool) {s : Int} {r : (Unit) ⊕ (Unit)} (h : Lp (b_law38_QueueFirst_L1 p0 r0 r3) s = some r) {σ : St} {Q : Ex → St → Prop} (hI : I_law38_QueueFirst_L1 p0 r0 r3 s σ) (hQ : ∀ e σ', J_law38_QueueFirst_L1 p0 r0 r3 r e σ' → Q e σ') : WC env (.loop c_law38_QueueFirst_l3) σ Q :=
 WC_Lp (I_law38_QueueFirst_L1 p0 r0 r3) (J_law38_QueueFirst_L1 p0 r0 r3) (by
  clear h hI hQ
  clear s r σ Q
  intro s1 σ x hI h
  obtain ⟨f22, f23, f24, f25, f26, f27, f28⟩ := hI
  unfold b_law38_QueueFirst_L1 at h
  replace h := itb h; rcases h with ⟨c11, h⟩ | ⟨c11, h⟩
  ·replace h := bsome h; obtain ⟨x3, H14, h⟩ := h
   try simp only [go_sem, c_law38_QueueFirst_l3, *]
   refine L_law38_QueueFirst_L2 p0 r0 r3 s1 H14 ?_ ?_
   ·clear h
    simp only [go_sem, I_law38_QueueFirst_L2, c_law38_QueueFirst_l3, *]
   ·intro e τ hJ
    obtain ⟨rfl, f29, f30, f31, f32, f33, f34, f35, f36⟩ := hJ
    replace h := bsome h; obtain ⟨x4, H15, h⟩ := h
    try simp only [go_sem, c_law38_QueueFirst_l3, *]
    refine WC.mono (Q := fun e σ' => e = .normal ∧ σ'.get 0 = (.d true (.lst 2 (p0.map eS_Wait))) ∧ σ'.get 5 = (.d true (.bool r0)) ∧ σ'.get 11 = (.d true (.lst 2 (r3.1.map eS_Wait))) ∧ σ'.get 13 = (.d true (.int .i64 s1)) ∧ σ'.get 156 = (.d true (.bool x4)) ∧ σ'.obj 0 1 = none ∧ σ'.obj 0 2 = none ∧ σ'.up.length = 0) ?_ ?_
    ·replace h := H15
     clear H15
     replace h := itb h; rcases h with ⟨c12, h⟩ | ⟨c12, h⟩
     ·cases h
      simp only [go_sem, c_law38_QueueFirst_l3, c_law38_QueueFirst_p7, *]
     ·replace h := itb h; rcases h with ⟨c13, h⟩ | ⟨c13, h⟩
      ·replace h := bsome h; obtain ⟨x5, H16, h⟩ := h
       have n0 := idx_n H16; have q0 := idx_q H16; have y0 := idx_x H16
       replace h := bsome h; obtain ⟨x6, H17, h⟩ := h
       have n1 := idx_n H17; have q1 := idx_q H17; have y1 := idx_x H17
       replace h := bsome h; obtain ⟨r7, H18, h⟩ := h
       have k7 := AtCall_all (s_ref38_Less_ok H18); try dsimp only at k7
       cases h
       simp only [go_sem, c_law38_QueueFirst_l3, c_law38_QueueFirst_p7, *]
      ·cases h
       simp only [go_sem, c_law38_QueueFirst_l3, c_law38_QueueFirst_p7, *]
    ·intro e τ hJ
     obtain ⟨rfl, f37, f38, f39, f40, f41, f42, f43, f44⟩ := hJ
     replace h := itb h; rcases h with ⟨c14, h⟩ | ⟨c14, h⟩
     ·cases h
      simp only [go_sem, LQ_inr, J_law38_QueueFirst_L1, c_law38_QueueFirst_l3, *]
     ·cases h
      simp only [go_sem, LQ_inl, I_law38_QueueFirst_L1, c_law38_QueueFirst_l3, *]
  ·cases h
   simp only [go_sem, LQ_inr, J_law38_QueueFirst_L1, c_law38_QueueFirst_l3, *]
) h hI hQ
noncomputable def s_law38_QueueFirst (p0 : (List S_Wait)) (p1 : Int) : Option (Bool) :=
 (s_law38_alive ).bind fun r0 =>
 (if (decide ((p0.length : Int) > 60)) = true then
   some true
  else
   if (decide (p1 < 0)) = true then
    some true
   else
    if (decide (p1 > (p0.length : Int))) = true then
     some true
    else
     some (!r0)).bind fun x0 =>
 if x0 = true then
  some r0
 else
  (Lp (b_law38_QueueFirst_L0 p0 p1 r0) 0).bind fun x1 =>
  match x1 with
  | .inl x1' =>
   (s_law38_pushed p0).bind fun r1 =>
   if inC p0.length p1 (p0.length : Int) then
    if ([] : List S_Wait).length + (slice (Int.toNat p1) (p0.length - (Int.toNat p1)) p0).length ≤ big then
     if inC p0.length 0 p1 then
      if ([] ++ (slice (Int.toNat p1) (p0.length - (Int.toNat p1)) p0)).length + (slice 0 (Int.toNat p1) p0).length ≤ big then
       (s_law38_pushed (([] ++ (slice (Int.toNat p1) (p0.length - (Int.toNat p1)) p0)) ++ (slice 0 (Int.toNat p1) p0))).bind fun r2 =>
       (s_law38_popped r1.1).bind fun r3 =>
       (if (r1.2 != 0) = true then
         some true
        else
         if (r2.2 != 0) = true then
          some true
         else
          if r3.2 = true then
           (s_ref38_Same r1.1 r2.1).bind fun r4 =>
           if r4 = true then
            (s_ref38_Same r1.1 r3.1).bind fun r5 =>
            if r5 = true then
             if ((r3.1.length : Int) != (p0.length : Int)) = true then
              some true
             else
              (s_queue_Check r1.1).bind fun r6 =>
              some (r6 != 0)
            else
             some true
           else
            some true
          else
           some true).bind fun x2 =>
       if x2 = true then
        some false
       else
        (Lp (b_law38_QueueFirst_L1 p0 r0 r3) 0).bind fun x3 =>
        match x3 with
        | .inl x3' =>
         some r0
        | .inr x3' =>
         some false
      else none
     else none
    else none
   else none
  | .inr x1' =>
   some r0
theorem s_law38_QueueFirst_ok {p0 : (List S_Wait)} {p1 : Int} {r : Bool} (h : s_law38_QueueFirst p0 p1 = some r) : AnsL env k_law38_QueueFirst [(.d true (.lst 2 (p0.map eS_Wait))), (.d true (.int .i64 p1))] (.d true (.bool r)) := by
 unfold s_law38_QueueFirst at h
 unfold AnsL
 rw [AtF fn_law38_QueueFirst]
 simp only [n_law38_QueueFirst]
 replace h := bsome h; obtain ⟨r0, H0, h⟩ := h
 have k0 := AtCall_all (s_law38_alive_ok H0); try dsimp only at k0
 replace h := bsome h; obtain ⟨x0, H1, h⟩ := h
 try simp only [go_sem, *]
 refine WC.mono (Q := fun e σ' => e = .normal ∧ σ'.get 0 = (.d true (.lst 2 (p0.map eS_Wait))) ∧ σ'.get 1 = (.d true (.int .i64 p1)) ∧ σ'.get 5 = (.d true (.bool r0)) ∧ σ'.get 33 = (.d true (.bool x0)) ∧ σ'.obj 0 0 = none ∧ σ'.obj 0 1 = none ∧ σ'.obj 0 2 = none ∧ σ'.up.length = 0) ?_ ?_
 ·replace h := H1
  clear H1
  replace h := itb h; rcases h with ⟨c0, h⟩ | ⟨c0, h⟩
  ·cases h
   simp only [go_sem, c_law38_QueueFirst_p1, *]
  ·replace h := itb h; rcases h with ⟨c1, h⟩ | ⟨c1, h⟩
   ·cases h
    simp only [go_sem, c_law38_QueueFirst_p1, *]
   ·replace h := itb h; rcases h with ⟨c2, h⟩ | ⟨c2, h⟩
    ·cases h
     simp only [go_sem, c_law38_QueueFirst_p1, *]
    ·cases h
     simp only [go_sem, c_law38_QueueFirst_p1, *]
 ·intro e τ hJ
  obtain ⟨rfl, f0, f1, f2, f3, f4, f5, f6, f7⟩ := hJ
  replace h := itb h; rcases h with ⟨c3, h⟩ | ⟨c3, h⟩
  ·cases h
   simp only [go_sem, KLaw, *]
  ·replace h := bsome h; obtain ⟨x1, H2, h⟩ := h
   try simp only [go_sem, *]
   refine L_law38_QueueFirst_L0 p0 p1 r0 H2 ?_ ?_
   ·clear h
    simp only [go_sem, I_law38_QueueFirst_L0, *]
   ·intro e τ hJ
    rcases x1 with x1' | x1'
    ·obtain ⟨rfl, f8, f9, f10, f11, f12, f13, f14⟩ := hJ
     replace h := bsome h; obtain ⟨r1, H3, h⟩ := h
     have k1 := AtCall_all (s_law38_pushed_ok H3); try dsimp only at k1
     replace h := need h; obtain ⟨H4, h⟩ := h
     have zH4 := (cut_lo H4)
     replace h := need h; obtain ⟨H5, h⟩ := h
     try simp only [List.length_cons, List.length_nil, cpl_length, List.length_append, List.length_set, List.length_replicate, Nat.zero_add, Nat.reduceAdd] at H5
     replace h := need h; obtain ⟨H6, h⟩ := h
     have zH6 := (cut_hi H6)
     replace h := need h; obtain ⟨H7, h⟩ := h
     try simp only [List.length_cons, List.length_nil, cpl_length, List.length_append, List.length_set, List.length_replicate, Nat.zero_add, Nat.reduceAdd] at H7
     replace h := bsome h; obtain ⟨r2, H8, h⟩ := h
     have k2 := AtCall_all (s_law38_pushed_ok H8); try dsimp only at k2
     try simp only [List.map_cons, List.map_nil, List.map_append, List.map_set, List.nil_append, List.map_replicate, eI, eU8, eB, eL, eS_Wait, eS_Obligation, eS_Latch, eS_And, eS_Circuit, eA4_Int] at k2
     replace h := bsome h; obtain ⟨r3, H9, h⟩ := h
     have k3 := AtCall_all (s_law38_popped_ok H9); try dsimp only at k3
     replace h := bsome h; obtain ⟨x2, H10, h⟩ := h
     try simp only [go_sem, *]
     refine WC.mono (Q := fun e σ' => e = .normal ∧ σ'.get 0 = (.d true (.lst 2 (p0.map eS_Wait))) ∧ σ'.get 5 = (.d true (.bool r0)) ∧ σ'.get 11 = (.d true (.lst 2 (r3.1.map eS_Wait))) ∧ σ'.get 104 = (.d true (.bool x2)) ∧ σ'.obj 0 1 = none ∧ σ'.obj 0 2 = none ∧ σ'.up.length = 0) ?_ ?_
     ·replace h := H10
      clear H10
      replace h := itb h; rcases h with ⟨c4, h⟩ | ⟨c4, h⟩
      ·cases h
       simp only [go_sem, c_law38_QueueFirst_p2, *]
      ·replace h := itb h; rcases h with ⟨c5, h⟩ | ⟨c5, h⟩
       ·cases h
        simp only [go_sem, c_law38_QueueFirst_p2, *]
       ·replace h := itb h; rcases h with ⟨c6, h⟩ | ⟨c6, h⟩
        ·replace h := bsome h; obtain ⟨r4, H11, h⟩ := h
         have k4 := AtCall_all (s_ref38_Same_ok H11); try dsimp only at k4
         replace h := itb h; rcases h with ⟨c7, h⟩ | ⟨c7, h⟩
         ·replace h := bsome h; obtain ⟨r5, H12, h⟩ := h
          have k5 := AtCall_all (s_ref38_Same_ok H12); try dsimp only at k5
          replace h := itb h; rcases h with ⟨c8, h⟩ | ⟨c8, h⟩
          ·replace h := itb h; rcases h with ⟨c9, h⟩ | ⟨c9, h⟩
           ·cases h
            simp only [go_sem, c_law38_QueueFirst_p2, *]
           ·replace h := bsome h; obtain ⟨r6, H13, h⟩ := h
            have k6 := AtCall_all (s_queue_Check_ok H13); try dsimp only at k6
            cases h
            simp only [go_sem, c_law38_QueueFirst_p2, *]
          ·cases h
           simp only [go_sem, c_law38_QueueFirst_p2, *]
         ·cases h
          simp only [go_sem, c_law38_QueueFirst_p2, *]
        ·cases h
         simp only [go_sem, c_law38_QueueFirst_p2, *]
     ·intro e τ hJ
      obtain ⟨rfl, f15, f16, f17, f18, f19, f20, f21⟩ := hJ
      replace h := itb h; rcases h with ⟨c10, h⟩ | ⟨c10, h⟩
      ·cases h
       simp only [go_sem, KLaw, *]
      ·replace h := bsome h; obtain ⟨x3, H14, h⟩ := h
       try simp only [go_sem, *]
       refine L_law38_QueueFirst_L1 p0 r0 r3 H14 ?_ ?_
       ·clear h
        simp only [go_sem, I_law38_QueueFirst_L1, *]
       ·intro e τ hJ
        rcases x3 with x3' | x3'
        ·obtain ⟨rfl, f22, f23, f24, f25⟩ := hJ
         cases h
         simp only [go_sem, KLaw, *]
        ·obtain ⟨rfl, f26, f27, f28, f29⟩ := hJ
         cases h
         simp only [go_sem, KLaw, *]
    ·obtain ⟨rfl, f30, f31, f32, f33, f34⟩ := hJ
     cases h
     simp only [go_sem, KLaw, *]
end Go.Proofs.Ytkhgnkfdpabflaa.Vm
