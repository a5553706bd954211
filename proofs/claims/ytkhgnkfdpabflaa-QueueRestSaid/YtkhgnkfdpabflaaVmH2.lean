/- Walks over the code of functions. Printed. -/
import Derived.Test.YtkhgnkfdpabflaaVmH1
namespace Go.Proofs.Ytkhgnkfdpabflaa.Vm
open Go
set_option linter.unusedSimpArgs false
set_option linter.unusedVariables false
set_option maxRecDepth 4000
set_option maxHeartbeats 4000000
attribute [local go_sem] WC_skip WC_exit WC_ret WC_seq WC_block WC_cond WC_rg KSeq_normal KSeq_ret KSeq_exit KBlock_normal KBlock_ret KBlock_exit KN_eq KRg_eq KSt_eq KSet_eq KLen_eq KPick_eq KG_eq KCond_eq boolP_d biteC_true biteC_false biteO_true biteO_false WO_nil WO_mv WO_nilr WO_pick WO_bin WO_beq WO_eqs WO_un WO_cvt WO_alloc WO_box WO_load WO_store WO_fad WO_fval WO_ix WO_ixb WO_ixa WO_bld WO_bsl WO_mks WO_slc WO_len WO_mx WO_mn WO_app WO_cpy WO_clr WO_xt WO_fn WO_chk WO_g
 WO_call WO_callv callK KHand KCallv KRes KBack_ret KRet_eq KAns env_fn St.hand St.lend St.lends St.lend1 St.vals St.frz fr1_obj fr1_get fr1_upl frO_rw frO_fz frO_none St.rowOf List.foldl_nil List.foldl_cons List.map_cons List.map_nil
 optP_some optP_none
 St.get_set St.obj_set St.get_setObj St.obj_setObj St.get_kill St.obj_kill0 St.obj_killS St.get_ini St.obj_ini0 gt_nil gt_zero gt_succ St.val_t St.val_c
 stl_get stl_obj0 stl_objS stl_upl stv_d stv_dx stv_nil stv_row0 stv_rowS stv_ptr stv_rel0 stv_pd stv_ag stv_tp stv_cl stvs_nil stvs_cons obs_box obs_rw obs_fz
 ret_get ret_obj ret_up ini_objS ini_upl ini_upl0 set_upl kill_upl setObj_upl0 setObj_uplS
 kill_d kill_dx kill_nil kill_row0 kill_rowS kill_ptr0 kill_ptrS kill_rel0 kill_relS kill_pd kill_ag kill_tp kill_cl kills_nil kills_cons obk_box obk_rw obk_fz
 pre step bin_int bin_shr bin_shl beq_bool arith_add arith_sub arith_mul arith_and arith_or arith_xor arith_eql arith_neq arith_lss arith_leq arith_gtr arith_geq arith_quo2 arith_rem2 arith_shr1 arith_shl1 maxOf_two minOf_two un lenOf cellsOf ofCells wid sub? slice_map slice_head slice_full' slice_z slice_c slice_s put St.new zcells St.load St.store Vm.fad St.ix St.slc St.els St.app St.wants St.skip I.dst resVal resVals Z.v Z.t? ofT T.cells V.shift V.shifts V.down V.downs downL chkV eqs eqFlat fill fillT flatFill T.noL T.flat
 dat dat2 dat1 dats1 dats2 Fn.pure FreeRows_nil FreeRows_cons setRows ren ren2 ren1 KTk take takes2 take2 takes1 take1 take0 rowsOb Vm.st Option.isNone_none Option.isNone_some List.mem_cons List.not_mem_nil not_or
 Option.map_some Option.map_none Option.bind_some List.length_cons List.length_nil List.length_append List.length_set cpl_length List.length_map List.length_replicate List.map_append List.map_set List.map_replicate List.getElem?_map List.getElem?_cons_zero List.getElem?_cons_succ List.drop_zero List.take_zero List.drop_succ_cons List.take_succ_cons List.take_nil List.drop_nil List.zip_cons_cons List.zip_nil_left List.zip_nil_right List.mapM_cons List.mapM_nil Option.pure_def Option.bind_eq_bind List.all_cons List.all_nil List.append_eq_nil_iff List.cons_ne_nil List.map_eq_nil_iff List.set_cons_zero List.set_cons_succ List.replicate_succ List.replicate_zero
 Nat.reduceEqDiff Nat.reduceLeDiff Nat.reduceAdd Nat.reduceSub Nat.reduceLT Nat.reduceMul Nat.reduceBEq Nat.ble_eq reduceIte reduceCtorEq Nat.add_zero Nat.sub_zero Nat.zero_add and_true true_and and_false false_and and_self or_true true_or false_or or_false if_true if_false Nat.one_ne_zero not_true not_false_eq_true not_false_iff Bool.false_eq_true forall_const true_implies false_implies implies_true BEq.rfl Bool.not_true Bool.not_false Bool.and_true Bool.true_and Bool.and_false Bool.false_and Bool.and_self Bool.true_bne Bool.false_bne not_true_eq_false List.nil_append List.append_nil List.cons_append dInt dBool Nat.le_refl Nat.le_add_right St.toT St.toTs ne_eq
 ff_set ff_setObj ff_setObjl ff_ini0 ff_iniS ff_ret ff_frz1 mg_get mg_obj0 mg_objS mg_up KBack_mg mrv_d mrv_nil mrv_ptr0 mrv_ptrS mrv_row0 mrv_rowS mrv_ag mrv_tp mrv_cl mrvs_nil mrvs_cons obm_box obm_rw obm_fz
 Sum.elim_inl Sum.elim_inr Option.some.injEq Ob.rw.injEq exists_eq2 eI eU8 eU64 eB eL eS_Latch eS_And eS_Circuit eS_Obligation eS_Wait eA4_Int oB0 oB1 oB2 oB3 oB4 c_law38_QueueRest c_ref02_Check c_ref13_Lit c_ref13_Valid c_ref36_Great c_ref38_Right fn_law38_alive fn_queue_Chain fn_ref02_Check fn_ref02_Great fn_ref02_Size fn_ref02_literals fn_ref13_Lit fn_ref13_Same fn_ref13_Valid fn_ref36_Great fn_ref38_Right n_law38_alive n_queue_Chain n_ref02_Check n_ref02_Great n_ref02_Size n_ref02_literals n_ref13_Lit n_ref13_Same n_ref13_Valid n_ref36_Great n_ref38_Right
noncomputable def b_ref02_Check_L0 (p0 : S_Circuit) (r1 : Int) (s0 : Int) : Option ((Int) ⊕ ((Unit) ⊕ (Unit))) :=
 if (decide (s0 < (p0.Latches.length : Int))) = true then
  ((idx p0.Latches s0).bind fun x3 =>
   (s_ref02_literals ([x3.Next] : List Int) r1).bind fun r4 =>
   if r4 = true then
    if (decide (x3.Reset < 0)) = true then
     some true
    else
     some (decide (x3.Reset > 2))
   else
    some true).bind fun x2 =>
  if x2 = true then
   some (Sum.inr (Sum.inr ()))
  else
   some (Sum.inl (IntKind.wrap .i64 (s0 + 1)))
 else
  some (Sum.inr (Sum.inl ()))
def I_ref02_Check_L0 (p0 : S_Circuit) (r1 : Int) (s0 : Int) (σ : St) : Prop := σ.get 1 = (.ptr 0 0 0) ∧ σ.get 3 = (.d true (.int .i64 r1)) ∧ σ.get 4 = (.d true (.int .i64 s0)) ∧ σ.obj 0 0 = oB1 p0 ∧ σ.up.length = 0
def J_ref02_Check_L0 (p0 : S_Circuit) (r1 : Int) (r : (Unit) ⊕ (Unit)) (e : Ex) (σ' : St) : Prop := (Sum.elim (fun o0 => e = (.exit 0) ∧ σ'.get 1 = (.ptr 0 0 0) ∧ σ'.obj 0 0 = oB1 p0 ∧ σ'.up.length = 0) (fun o1 => e = .ret ∧ σ'.get 2 = (.d true (.int .i64 8)) ∧ σ'.up.length = 0)) r
theorem L_ref02_Check_L0 (p0 : S_Circuit) (r1 : Int) {s : Int} {r : (Unit) ⊕ (Unit)} (h : Lp (b_ref02_Check_L0 p0 r1) s = some r) {σ : St} {Q : Ex → St → Prop} (hI : I_ref02_Check_L0 p0 r1 s σ) (hQ : ∀ e σ', J_ref02_Check_L0 p0 r1 r e σ' → Q e σ') : WC env (.loop c_ref02_Check_l1) σ Q :=
 WC_Lp (I_ref02_Check_L0 p0 r1) (J_ref02_Check_L0 p0 r1) (by
  clear h hI hQ
  clear s r σ Q
  intro s0 σ x hI h
  obtain ⟨f9, f10, f11, f12, f13⟩ := hI
  unfold b_ref02_Check_L0 at h
  replace h := itb h; rcases h with ⟨c7, h⟩ | ⟨c7, h⟩
  ·replace h := bsome h; obtain ⟨x2, H6, h⟩ := h
   try simp only [go_sem, c_ref02_Check_l1, *]
   refine WC.mono (Q := fun e σ' => e = .normal ∧ σ'.get 1 = (.ptr 0 0 0) ∧ σ'.get 3 = (.d true (.int .i64 r1)) ∧ σ'.get 4 = (.d true (.int .i64 s0)) ∧ σ'.get 78 = (.d true (.bool x2)) ∧ σ'.obj 0 0 = oB1 p0 ∧ σ'.up.length = 0) ?_ ?_
   ·replace h := H6
    clear H6
    replace h := bsome h; obtain ⟨x3, H7, h⟩ := h
    have n0 := idx_n H7; have q0 := idx_q H7; have y0 := idx_x H7
    replace h := bsome h; obtain ⟨r4, H8, h⟩ := h
    have k4 := AtCall_all (s_ref02_literals_ok H8); try dsimp only at k4
    try simp only [List.map_cons, List.map_nil, List.map_append, List.map_set, List.nil_append, List.map_replicate, eI, eU8, eB, eL, eS_Latch, eS_And, eS_Circuit, eS_Obligation, eS_Wait, eA4_Int] at k4
    replace h := itb h; rcases h with ⟨c8, h⟩ | ⟨c8, h⟩
    ·replace h := itb h; rcases h with ⟨c9, h⟩ | ⟨c9, h⟩
     ·cases h
      simp only [go_sem, c_ref02_Check_l1, c_ref02_Check_p3, *]
     ·cases h
      simp only [go_sem, c_ref02_Check_l1, c_ref02_Check_p3, *]
    ·cases h
     simp only [go_sem, c_ref02_Check_l1, c_ref02_Check_p3, *]
   ·intro e τ hJ
    obtain ⟨rfl, f14, f15, f16, f17, f18, f19⟩ := hJ
    replace h := itb h; rcases h with ⟨c10, h⟩ | ⟨c10, h⟩
    ·cases h
     simp only [go_sem, LQ_inr, J_ref02_Check_L0, c_ref02_Check_l1, *]
    ·cases h
     simp only [go_sem, LQ_inl, I_ref02_Check_L0, c_ref02_Check_l1, *]
  ·cases h
   simp only [go_sem, LQ_inr, J_ref02_Check_L0, c_ref02_Check_l1, *]
) h hI hQ
def b_ref02_Check_L1 (p0 : S_Circuit) (s1 : Int) : Option ((Int) ⊕ ((Unit) ⊕ (Unit))) :=
 if (decide (s1 < (p0.Ands.length : Int))) = true then
  (idx p0.Ands s1).bind fun x3 =>
  (if (decide (x3.B < 0)) = true then
    some true
   else
    if (decide (x3.A < x3.B)) = true then
     some true
    else
     some (decide ((IntKind.wrap .i64 (Int.tdiv x3.A 2)) > (IntKind.wrap .i64 ((IntKind.wrap .i64 (p0.Inputs + (p0.Latches.length : Int))) + s1))))).bind fun x4 =>
  if x4 = true then
   some (Sum.inr (Sum.inr ()))
  else
   some (Sum.inl (IntKind.wrap .i64 (s1 + 1)))
 else
  some (Sum.inr (Sum.inl ()))
def I_ref02_Check_L1 (p0 : S_Circuit) (s1 : Int) (σ : St) : Prop := σ.get 1 = (.ptr 0 0 0) ∧ σ.get 5 = (.d true (.int .i64 s1)) ∧ σ.obj 0 0 = oB1 p0 ∧ σ.up.length = 0
def J_ref02_Check_L1 (p0 : S_Circuit) (r : (Unit) ⊕ (Unit)) (e : Ex) (σ' : St) : Prop := (Sum.elim (fun o0 => e = (.exit 2) ∧ σ'.up.length = 0) (fun o1 => e = .ret ∧ σ'.get 2 = (.d true (.int .i64 8)) ∧ σ'.up.length = 0)) r
theorem L_ref02_Check_L1 (p0 : S_Circuit) {s : Int} {r : (Unit) ⊕ (Unit)} (h : Lp (b_ref02_Check_L1 p0) s = some r) {σ : St} {Q : Ex → St → Prop} (hI : I_ref02_Check_L1 p0 s σ) (hQ : ∀ e σ', J_ref02_Check_L1 p0 r e σ' → Q e σ') : WC env (.loop c_ref02_Check_l2) σ Q :=
 WC_Lp (I_ref02_Check_L1 p0) (J_ref02_Check_L1 p0) (by
  clear h hI hQ
  clear s r σ Q
  intro s1 σ x hI h
  obtain ⟨f12, f13, f14, f15⟩ := hI
  unfold b_ref02_Check_L1 at h
  replace h := itb h; rcases h with ⟨c7, h⟩ | ⟨c7, h⟩
  ·replace h := bsome h; obtain ⟨x3, H7, h⟩ := h
   have n0 := idx_n H7; have q0 := idx_q H7; have y0 := idx_x H7
   replace h := bsome h; obtain ⟨x4, H8, h⟩ := h
   try simp only [go_sem, c_ref02_Check_l2, *]
   refine WC.mono (Q := fun e σ' => e = .normal ∧ σ'.get 1 = (.ptr 0 0 0) ∧ σ'.get 5 = (.d true (.int .i64 s1)) ∧ σ'.get 114 = (.d true (.bool x4)) ∧ σ'.obj 0 0 = oB1 p0 ∧ σ'.up.length = 0) ?_ ?_
   ·replace h := H8
    clear H8
    replace h := itb h; rcases h with ⟨c8, h⟩ | ⟨c8, h⟩
    ·cases h
     simp only [go_sem, c_ref02_Check_l2, c_ref02_Check_p4, *]
    ·replace h := itb h; rcases h with ⟨c9, h⟩ | ⟨c9, h⟩
     ·cases h
      simp only [go_sem, c_ref02_Check_l2, c_ref02_Check_p4, *]
     ·cases h
      simp only [go_sem, c_ref02_Check_l2, c_ref02_Check_p4, *]
   ·intro e τ hJ
    obtain ⟨rfl, f16, f17, f18, f19, f20⟩ := hJ
    replace h := itb h; rcases h with ⟨c10, h⟩ | ⟨c10, h⟩
    ·cases h
     simp only [go_sem, LQ_inr, J_ref02_Check_L1, c_ref02_Check_l2, *]
    ·cases h
     simp only [go_sem, LQ_inl, I_ref02_Check_L1, c_ref02_Check_l2, *]
  ·cases h
   simp only [go_sem, LQ_inr, J_ref02_Check_L1, c_ref02_Check_l2, *]
) h hI hQ
noncomputable def s_ref02_Check (p0 : S_Circuit) : Option (Int) :=
 if (decide (p0.Inputs < 0)) = true then
  some 8
 else
  (if (decide (p0.Inputs > 1000)) = true then
    some true
   else
    (s_ref02_Size p0).bind fun r0 =>
    if (decide (r0 > 1000)) = true then
     some true
    else
     if (decide ((p0.Bads.length : Int) > 100)) = true then
      some true
     else
      some (decide ((p0.Constraints.length : Int) > 100))).bind fun x0 =>
  if x0 = true then
   some 4
  else
   (s_ref02_Size p0).bind fun r1 =>
   ((s_ref02_literals p0.Bads r1).bind fun r2 =>
    if r2 = true then
     (s_ref02_literals p0.Constraints r1).bind fun r3 =>
     some (!r3)
    else
     some true).bind fun x1 =>
   if x1 = true then
    some 8
   else
    (Lp (b_ref02_Check_L0 p0 r1) 0).bind fun x2 =>
    match x2 with
    | .inl x2' =>
     (Lp (b_ref02_Check_L1 p0) 0).bind fun x3 =>
     match x3 with
     | .inl x3' =>
      some 0
     | .inr x3' =>
      some 8
    | .inr x2' =>
     some 8
theorem s_ref02_Check_ok {p0 : S_Circuit} {r : Int} (h : s_ref02_Check p0 = some r) : Ans env k_ref02_Check [(.ag [(.d true (.int .i64 p0.Inputs)), (.d false (.lst 2 (p0.Latches.map eS_Latch))), (.d false (.lst 2 (p0.Ands.map eS_And))), (.d false (.lst 1 (p0.Bads.map eI))), (.d false (.lst 1 (p0.Constraints.map eI)))])] (.d true (.int .i64 r)) := by
 unfold s_ref02_Check at h
 unfold Ans
 rw [AtF fn_ref02_Check]
 simp only [n_ref02_Check]
 replace h := itb h; rcases h with ⟨c0, h⟩ | ⟨c0, h⟩
 ·cases h
  simp only [go_sem, *]
  exact ⟨_, rfl⟩
 ·replace h := bsome h; obtain ⟨x0, H0, h⟩ := h
  try simp only [go_sem, *]
  refine WC.mono (Q := fun e σ' => e = .normal ∧ σ'.get 1 = (.ptr 0 0 0) ∧ σ'.get 29 = (.d true (.bool x0)) ∧ σ'.obj 0 0 = oB1 p0 ∧ σ'.up.length = 0) ?_ ?_
  ·replace h := H0
   clear H0
   replace h := itb h; rcases h with ⟨c1, h⟩ | ⟨c1, h⟩
   ·cases h
    simp only [go_sem, c_ref02_Check_p1, *]
   ·replace h := bsome h; obtain ⟨r0, H1, h⟩ := h
    have k0 := AtCall_all (s_ref02_Size_ok H1); try dsimp only at k0
    replace h := itb h; rcases h with ⟨c2, h⟩ | ⟨c2, h⟩
    ·cases h
     simp only [go_sem, c_ref02_Check_p1, *]
    ·replace h := itb h; rcases h with ⟨c3, h⟩ | ⟨c3, h⟩
     ·cases h
      simp only [go_sem, c_ref02_Check_p1, *]
     ·cases h
      simp only [go_sem, c_ref02_Check_p1, *]
  ·intro e τ hJ
   obtain ⟨rfl, f0, f1, f2, f3⟩ := hJ
   replace h := itb h; rcases h with ⟨c4, h⟩ | ⟨c4, h⟩
   ·cases h
    simp only [go_sem, *]
    exact ⟨_, rfl⟩
   ·replace h := bsome h; obtain ⟨r1, H2, h⟩ := h
    have k1 := AtCall_all (s_ref02_Size_ok H2); try dsimp only at k1
    replace h := bsome h; obtain ⟨x1, H3, h⟩ := h
    try simp only [go_sem, *]
    refine WC.mono (Q := fun e σ' => e = .normal ∧ σ'.get 1 = (.ptr 0 0 0) ∧ σ'.get 3 = (.d true (.int .i64 r1)) ∧ σ'.get 43 = (.d true (.bool x1)) ∧ σ'.obj 0 0 = oB1 p0 ∧ σ'.up.length = 0) ?_ ?_
    ·replace h := H3
     clear H3
     replace h := bsome h; obtain ⟨r2, H4, h⟩ := h
     have k2 := AtCall_all (s_ref02_literals_ok H4); try dsimp only at k2
     replace h := itb h; rcases h with ⟨c5, h⟩ | ⟨c5, h⟩
     ·replace h := bsome h; obtain ⟨r3, H5, h⟩ := h
      have k3 := AtCall_all (s_ref02_literals_ok H5); try dsimp only at k3
      cases h
      simp only [go_sem, c_ref02_Check_p2, *]
     ·cases h
      simp only [go_sem, c_ref02_Check_p2, *]
    ·intro e τ hJ
     obtain ⟨rfl, f4, f5, f6, f7, f8⟩ := hJ
     replace h := itb h; rcases h with ⟨c6, h⟩ | ⟨c6, h⟩
     ·cases h
      simp only [go_sem, *]
      exact ⟨_, rfl⟩
     ·replace h := bsome h; obtain ⟨x2, H6, h⟩ := h
      try simp only [go_sem, *]
      refine L_ref02_Check_L0 p0 r1 H6 ?_ ?_
      ·clear h
       simp only [go_sem, I_ref02_Check_L0, *]
      ·intro e τ hJ
       rcases x2 with x2' | x2'
       ·obtain ⟨rfl, f9, f10, f11⟩ := hJ
        replace h := bsome h; obtain ⟨x3, H7, h⟩ := h
        try simp only [go_sem, *]
        refine L_ref02_Check_L1 p0 H7 ?_ ?_
        ·clear h
         simp only [go_sem, I_ref02_Check_L1, *]
        ·intro e τ hJ
         rcases x3 with x3' | x3'
         ·obtain ⟨rfl, f12⟩ := hJ
          cases h
          simp only [go_sem, *]
          exact ⟨_, rfl⟩
         ·obtain ⟨rfl, f13, f14⟩ := hJ
          cases h
          simp only [go_sem, *]
          exact ⟨_, rfl⟩
       ·obtain ⟨rfl, f15, f16⟩ := hJ
        cases h
        simp only [go_sem, *]
        exact ⟨_, rfl⟩
noncomputable def s_ref36_Great (p0 : S_Circuit) : Option (Bool) :=
 (s_ref02_Great p0).bind fun r0 =>
 if r0 = true then
  some true
 else
  ((s_ref02_Check p0).bind fun r1 =>
   if (r1 == 0) = true then
    (s_ref02_Size p0).bind fun r2 =>
    if (decide (r2 > 40)) = true then
     some true
    else
     if (decide ((p0.Bads.length : Int) > 10)) = true then
      some true
     else
      some (decide ((p0.Constraints.length : Int) > 10))
   else
    some false).bind fun x0 =>
  some x0
theorem s_ref36_Great_ok {p0 : S_Circuit} {r : Bool} (h : s_ref36_Great p0 = some r) : Ans env k_ref36_Great [(.ag [(.d true (.int .i64 p0.Inputs)), (.d false (.lst 2 (p0.Latches.map eS_Latch))), (.d false (.lst 2 (p0.Ands.map eS_And))), (.d false (.lst 1 (p0.Bads.map eI))), (.d false (.lst 1 (p0.Constraints.map eI)))])] (.d true (.bool r)) := by
 unfold s_ref36_Great at h
 unfold Ans
 rw [AtF fn_ref36_Great]
 simp only [n_ref36_Great]
 replace h := bsome h; obtain ⟨r0, H0, h⟩ := h
 have k0 := AtCall_all (s_ref02_Great_ok H0); try dsimp only at k0
 replace h := itb h; rcases h with ⟨c0, h⟩ | ⟨c0, h⟩
 ·cases h
  simp only [go_sem, *]
  exact ⟨_, rfl⟩
 ·replace h := bsome h; obtain ⟨x0, H1, h⟩ := h
  try simp only [go_sem, *]
  refine WC.mono (Q := fun e σ' => e = .normal ∧ σ'.get 2 = (.d true (.bool x0)) ∧ σ'.up.length = 0) ?_ ?_
  ·replace h := H1
   clear H1
   replace h := bsome h; obtain ⟨r1, H2, h⟩ := h
   have k1 := AtCall_all (s_ref02_Check_ok H2); try dsimp only at k1
   replace h := itb h; rcases h with ⟨c1, h⟩ | ⟨c1, h⟩
   ·replace h := bsome h; obtain ⟨r2, H3, h⟩ := h
    have k2 := AtCall_all (s_ref02_Size_ok H3); try dsimp only at k2
    replace h := itb h; rcases h with ⟨c2, h⟩ | ⟨c2, h⟩
    ·cases h
     simp only [go_sem, c_ref36_Great_p1, *]
    ·replace h := itb h; rcases h with ⟨c3, h⟩ | ⟨c3, h⟩
     ·cases h
      simp only [go_sem, c_ref36_Great_p1, *]
     ·cases h
      simp only [go_sem, c_ref36_Great_p1, *]
   ·cases h
    simp only [go_sem, c_ref36_Great_p1, *]
  ·intro e τ hJ
   obtain ⟨rfl, f0, f1⟩ := hJ
   cases h
   simp only [go_sem, *]
   exact ⟨_, rfl⟩
def s_ref13_Lit (p0 : Int) (p1 : Int) : Option (Bool) :=
 (if (decide (p1 ≥ 2)) = true then
   some (decide (p1 ≤ (IntKind.wrap .i64 ((IntKind.wrap .i64 (2 * p0)) + 1))))
  else
   some false).bind fun x0 =>
 some x0
theorem s_ref13_Lit_ok {p0 : Int} {p1 : Int} {r : Bool} (h : s_ref13_Lit p0 p1 = some r) : Ans env k_ref13_Lit [(.d true (.int .i64 p0)), (.d true (.int .i64 p1))] (.d true (.bool r)) := by
 unfold s_ref13_Lit at h
 unfold Ans
 rw [AtF fn_ref13_Lit]
 simp only [n_ref13_Lit]
 replace h := bsome h; obtain ⟨x0, H0, h⟩ := h
 try simp only [go_sem, *]
 refine WC.mono (Q := fun e σ' => e = .normal ∧ σ'.get 4 = (.d true (.bool x0)) ∧ σ'.up.length = 0) ?_ ?_
 ·replace h := H0
  clear H0
  replace h := itb h; rcases h with ⟨c0, h⟩ | ⟨c0, h⟩
  ·cases h
   simp only [go_sem, c_ref13_Lit_p1, *]
  ·cases h
   simp only [go_sem, c_ref13_Lit_p1, *]
 ·intro e τ hJ
  obtain ⟨rfl, f0, f1⟩ := hJ
  cases h
  simp only [go_sem, *]
  exact ⟨_, rfl⟩
noncomputable def b_ref13_Valid_L0 (p0 : Int) (p1 : (List Int)) (s0 : Int) : Option ((Int) ⊕ ((Unit) ⊕ (Unit))) :=
 if (decide (s0 < (p1.length : Int))) = true then
  ((idx p1 s0).bind fun x1 =>
   (s_ref13_Lit p0 x1).bind fun r0 =>
   if r0 = true then
    if (decide (s0 > 0)) = true then
     (idx p1 (IntKind.wrap .i64 (s0 - 1))).bind fun x2 =>
     if (decide ((IntKind.wrap .i64 (x1 - x2)) < 1)) = true then
      some true
     else
      if ((Int.tmod x2 2) == 0) = true then
       some (x1 == (IntKind.wrap .i64 (x2 + 1)))
      else
       some false
    else
     some false
   else
    some true).bind fun x0 =>
  if x0 = true then
   some (Sum.inr (Sum.inr ()))
  else
   some (Sum.inl (IntKind.wrap .i64 (s0 + 1)))
 else
  some (Sum.inr (Sum.inl ()))
def I_ref13_Valid_L0 (p0 : Int) (p1 : (List Int)) (s0 : Int) (σ : St) : Prop := σ.get 0 = (.d true (.int .i64 p0)) ∧ σ.get 1 = (.d false (.lst 1 (p1.map eI))) ∧ σ.get 5 = (.d true (.int .i64 s0)) ∧ σ.up.length = 0
def J_ref13_Valid_L0 (p0 : Int) (p1 : (List Int)) (r : (Unit) ⊕ (Unit)) (e : Ex) (σ' : St) : Prop := (Sum.elim (fun o0 => e = (.exit 0) ∧ σ'.up.length = 0) (fun o1 => e = .ret ∧ σ'.get 4 = (.d true (.bool false)) ∧ σ'.up.length = 0)) r
theorem L_ref13_Valid_L0 (p0 : Int) (p1 : (List Int)) {s : Int} {r : (Unit) ⊕ (Unit)} (h : Lp (b_ref13_Valid_L0 p0 p1) s = some r) {σ : St} {Q : Ex → St → Prop} (hI : I_ref13_Valid_L0 p0 p1 s σ) (hQ : ∀ e σ', J_ref13_Valid_L0 p0 p1 r e σ' → Q e σ') : WC env (.loop c_ref13_Valid_l1) σ Q :=
 WC_Lp (I_ref13_Valid_L0 p0 p1) (J_ref13_Valid_L0 p0 p1) (by
  clear h hI hQ
  clear s r σ Q
  intro s0 σ x hI h
  obtain ⟨f0, f1, f2, f3⟩ := hI
  unfold b_ref13_Valid_L0 at h
  replace h := itb h; rcases h with ⟨c0, h⟩ | ⟨c0, h⟩
  ·replace h := bsome h; obtain ⟨x0, H0, h⟩ := h
   try simp only [go_sem, c_ref13_Valid_l1, *]
   refine WC.mono (Q := fun e σ' => e = .normal ∧ σ'.get 0 = (.d true (.int .i64 p0)) ∧ σ'.get 1 = (.d false (.lst 1 (p1.map eI))) ∧ σ'.get 5 = (.d true (.int .i64 s0)) ∧ σ'.get 61 = (.d true (.bool x0)) ∧ σ'.up.length = 0) ?_ ?_
   ·replace h := H0
    clear H0
    replace h := bsome h; obtain ⟨x1, H1, h⟩ := h
    have n0 := idx_n H1; have q0 := idx_q H1; have y0 := idx_x H1
    replace h := bsome h; obtain ⟨r0, H2, h⟩ := h
    have k0 := AtCall_all (s_ref13_Lit_ok H2); try dsimp only at k0
    replace h := itb h; rcases h with ⟨c1, h⟩ | ⟨c1, h⟩
    ·replace h := itb h; rcases h with ⟨c2, h⟩ | ⟨c2, h⟩
     ·replace h := bsome h; obtain ⟨x2, H3, h⟩ := h
      have n1 := idx_n H3; have q1 := idx_q H3; have y1 := idx_x H3
      replace h := itb h; rcases h with ⟨c3, h⟩ | ⟨c3, h⟩
      ·cases h
       simp only [go_sem, c_ref13_Valid_l1, c_ref13_Valid_p1, *]
      ·replace h := itb h; rcases h with ⟨c4, h⟩ | ⟨c4, h⟩
       ·cases h
        simp only [go_sem, c_ref13_Valid_l1, c_ref13_Valid_p1, *]
       ·cases h
        simp only [go_sem, c_ref13_Valid_l1, c_ref13_Valid_p1, *]
     ·cases h
      simp only [go_sem, c_ref13_Valid_l1, c_ref13_Valid_p1, *]
    ·cases h
     simp only [go_sem, c_ref13_Valid_l1, c_ref13_Valid_p1, *]
   ·intro e τ hJ
    obtain ⟨rfl, f4, f5, f6, f7, f8⟩ := hJ
    replace h := itb h; rcases h with ⟨c5, h⟩ | ⟨c5, h⟩
    ·cases h
     simp only [go_sem, LQ_inr, J_ref13_Valid_L0, c_ref13_Valid_l1, *]
    ·cases h
     simp only [go_sem, LQ_inl, I_ref13_Valid_L0, c_ref13_Valid_l1, *]
  ·cases h
   simp only [go_sem, LQ_inr, J_ref13_Valid_L0, c_ref13_Valid_l1, *]
) h hI hQ
noncomputable def s_ref13_Valid (p0 : Int) (p1 : (List Int)) : Option (Bool) :=
 (Lp (b_ref13_Valid_L0 p0 p1) 0).bind fun x0 =>
 match x0 with
 | .inl x0' =>
  some true
 | .inr x0' =>
  some false
theorem s_ref13_Valid_ok {p0 : Int} {p1 : (List Int)} {r : Bool} (h : s_ref13_Valid p0 p1 = some r) : Ans env k_ref13_Valid [(.d true (.int .i64 p0)), (.d false (.lst 1 (p1.map eI)))] (.d true (.bool r)) := by
 unfold s_ref13_Valid at h
 unfold Ans
 rw [AtF fn_ref13_Valid]
 simp only [n_ref13_Valid]
 replace h := bsome h; obtain ⟨x0, H0, h⟩ := h
 try simp only [go_sem, *]
 refine L_ref13_Valid_L0 p0 p1 H0 ?_ ?_
 ·clear h
  simp only [go_sem, I_ref13_Valid_L0, *]
 ·intro e τ hJ
  rcases x0 with x0' | x0'
  ·obtain ⟨rfl, f0⟩ := hJ
   cases h
   simp only [go_sem, *]
   exact ⟨_, rfl⟩
  ·obtain ⟨rfl, f1, f2⟩ := hJ
   cases h
   simp only [go_sem, *]
   exact ⟨_, rfl⟩
noncomputable def b_ref38_Right_L0 (p0 : S_Circuit) (p1 : (List S_Obligation)) (s0 : Int) : Option ((Int) ⊕ ((Unit) ⊕ (Unit))) :=
 if (decide (s0 < (p1.length : Int))) = true then
  ((idx p1 s0).bind fun x1 =>
   (s_ref13_Valid (p0.Latches.length : Int) x1.Cube).bind fun r1 =>
   if r1 = true then
    if ((x1.Inputs.length : Int) != p0.Inputs) = true then
     some true
    else
     if (decide (x1.Next < (-1))) = true then
      some true
     else
      some (decide (x1.Next ≥ s0))
   else
    some true).bind fun x0 =>
  if x0 = true then
   some (Sum.inr (Sum.inr ()))
  else
   some (Sum.inl (IntKind.wrap .i64 (s0 + 1)))
 else
  some (Sum.inr (Sum.inl ()))
def I_ref38_Right_L0 (p0 : S_Circuit) (p1 : (List S_Obligation)) (s0 : Int) (σ : St) : Prop := σ.get 1 = (.d false (.lst 3 (p1.map eS_Obligation))) ∧ σ.get 2 = (.ptr 0 0 0) ∧ σ.get 6 = (.d true (.int .i64 s0)) ∧ σ.obj 0 0 = oB1 p0 ∧ σ.up.length = 0
def J_ref38_Right_L0 (p0 : S_Circuit) (p1 : (List S_Obligation)) (r : (Unit) ⊕ (Unit)) (e : Ex) (σ' : St) : Prop := (Sum.elim (fun o0 => e = (.exit 0) ∧ σ'.up.length = 0) (fun o1 => e = .ret ∧ σ'.get 4 = (.d true (.int .i64 8)) ∧ σ'.up.length = 0)) r
theorem L_ref38_Right_L0 (p0 : S_Circuit) (p1 : (List S_Obligation)) {s : Int} {r : (Unit) ⊕ (Unit)} (h : Lp (b_ref38_Right_L0 p0 p1) s = some r) {σ : St} {Q : Ex → St → Prop} (hI : I_ref38_Right_L0 p0 p1 s σ) (hQ : ∀ e σ', J_ref38_Right_L0 p0 p1 r e σ' → Q e σ') : WC env (.loop c_ref38_Right_l1) σ Q :=
 WC_Lp (I_ref38_Right_L0 p0 p1) (J_ref38_Right_L0 p0 p1) (by
  clear h hI hQ
  clear s r σ Q
  intro s0 σ x hI h
  obtain ⟨f0, f1, f2, f3, f4⟩ := hI
  unfold b_ref38_Right_L0 at h
  replace h := itb h; rcases h with ⟨c2, h⟩ | ⟨c2, h⟩
  ·replace h := bsome h; obtain ⟨x0, H1, h⟩ := h
   try simp only [go_sem, c_ref38_Right_l1, *]
   refine WC.mono (Q := fun e σ' => e = .normal ∧ σ'.get 1 = (.d false (.lst 3 (p1.map eS_Obligation))) ∧ σ'.get 2 = (.ptr 0 0 0) ∧ σ'.get 6 = (.d true (.int .i64 s0)) ∧ σ'.get 58 = (.d true (.bool x0)) ∧ σ'.obj 0 0 = oB1 p0 ∧ σ'.up.length = 0) ?_ ?_
   ·replace h := H1
    clear H1
    replace h := bsome h; obtain ⟨x1, H2, h⟩ := h
    have n0 := idx_n H2; have q0 := idx_q H2; have y0 := idx_x H2
    replace h := bsome h; obtain ⟨r1, H3, h⟩ := h
    have k1 := AtCall_all (s_ref13_Valid_ok H3); try dsimp only at k1
    replace h := itb h; rcases h with ⟨c3, h⟩ | ⟨c3, h⟩
    ·replace h := itb h; rcases h with ⟨c4, h⟩ | ⟨c4, h⟩
     ·cases h
      simp only [go_sem, c_ref38_Right_l1, c_ref38_Right_p1, *]
     ·replace h := itb h; rcases h with ⟨c5, h⟩ | ⟨c5, h⟩
      ·cases h
       simp only [go_sem, c_ref38_Right_l1, c_ref38_Right_p1, *]
      ·cases h
       simp only [go_sem, c_ref38_Right_l1, c_ref38_Right_p1, *]
    ·cases h
     simp only [go_sem, c_ref38_Right_l1, c_ref38_Right_p1, *]
   ·intro e τ hJ
    obtain ⟨rfl, f5, f6, f7, f8, f9, f10⟩ := hJ
    replace h := itb h; rcases h with ⟨c6, h⟩ | ⟨c6, h⟩
    ·cases h
     simp only [go_sem, LQ_inr, J_ref38_Right_L0, c_ref38_Right_l1, *]
    ·cases h
     simp only [go_sem, LQ_inl, I_ref38_Right_L0, c_ref38_Right_l1, *]
  ·cases h
   simp only [go_sem, LQ_inr, J_ref38_Right_L0, c_ref38_Right_l1, *]
) h hI hQ
noncomputable def s_ref38_Right (p0 : S_Circuit) (p1 : (List S_Obligation)) : Option (Int) :=
 (s_ref02_Check p0).bind fun r0 =>
 if (r0 != 0) = true then
  some r0
 else
  if (decide ((p1.length : Int) > 1000)) = true then
   some 4
  else
   (Lp (b_ref38_Right_L0 p0 p1) 0).bind fun x0 =>
   match x0 with
   | .inl x0' =>
    some 0
   | .inr x0' =>
    some 8
theorem s_ref38_Right_ok {p0 : S_Circuit} {p1 : (List S_Obligation)} {r : Int} (h : s_ref38_Right p0 p1 = some r) : Ans env k_ref38_Right [(.ag [(.d true (.int .i64 p0.Inputs)), (.d false (.lst 2 (p0.Latches.map eS_Latch))), (.d false (.lst 2 (p0.Ands.map eS_And))), (.d false (.lst 1 (p0.Bads.map eI))), (.d false (.lst 1 (p0.Constraints.map eI)))]), (.d false (.lst 3 (p1.map eS_Obligation)))] (.d true (.int .i64 r)) := by
 unfold s_ref38_Right at h
 unfold Ans
 rw [AtF fn_ref38_Right]
 simp only [n_ref38_Right]
 replace h := bsome h; obtain ⟨r0, H0, h⟩ := h
 have k0 := AtCall_all (s_ref02_Check_ok H0); try dsimp only at k0
 replace h := itb h; rcases h with ⟨c0, h⟩ | ⟨c0, h⟩
 ·cases h
  simp only [go_sem, *]
  exact ⟨_, rfl⟩
 ·replace h := itb h; rcases h with ⟨c1, h⟩ | ⟨c1, h⟩
  ·cases h
   simp only [go_sem, *]
   exact ⟨_, rfl⟩
  ·replace h := bsome h; obtain ⟨x0, H1, h⟩ := h
   try simp only [go_sem, *]
   refine L_ref38_Right_L0 p0 p1 H1 ?_ ?_
   ·clear h
    simp only [go_sem, I_ref38_Right_L0, *]
   ·intro e τ hJ
    rcases x0 with x0' | x0'
    ·obtain ⟨rfl, f0⟩ := hJ
     cases h
     simp only [go_sem, *]
     exact ⟨_, rfl⟩
    ·obtain ⟨rfl, f1, f2⟩ := hJ
     cases h
     simp only [go_sem, *]
     exact ⟨_, rfl⟩
def b_law38_QueueRest_L0 (p0 : S_Circuit) (p1 : (List S_Obligation)) (p2 : Int) (r0 : Bool) (r3 : (List Int) × Int) (s0 : Int) : Option ((Int) ⊕ ((Unit) ⊕ (Unit))) :=
 if (decide (s0 < (r3.1.length : Int))) = true then
  ((idx r3.1 s0).bind fun x4 =>
   (idx r3.1 (IntKind.wrap .i64 (s0 - 1))).bind fun x5 =>
   if (decide (x4 ≥ x5)) = true then
    some true
   else
    some (decide (x4 < 0))).bind fun x3 =>
  if x3 = true then
   some (Sum.inr (Sum.inr ()))
  else
   some (Sum.inl (IntKind.wrap .i64 (s0 + 1)))
 else
  some (Sum.inr (Sum.inl ()))
def I_law38_QueueRest_L0 (p0 : S_Circuit) (p1 : (List S_Obligation)) (p2 : Int) (r0 : Bool) (r3 : (List Int) × Int) (s0 : Int) (σ : St) : Prop := σ.get 1 = (.d true (.lst 3 (p1.map eS_Obligation))) ∧ σ.get 2 = (.d true (.int .i64 p2)) ∧ σ.get 3 = (.ptr 0 0 0) ∧ σ.get 7 = (.d true (.bool r0)) ∧ σ.get 8 = (.d true (.lst 1 (r3.1.map eI))) ∧ σ.get 10 = (.d true (.int .i64 s0)) ∧ σ.obj 0 0 = oB4 p0 ∧ σ.up.length = 0
def J_law38_QueueRest_L0 (p0 : S_Circuit) (p1 : (List S_Obligation)) (p2 : Int) (r0 : Bool) (r3 : (List Int) × Int) (r : (Unit) ⊕ (Unit)) (e : Ex) (σ' : St) : Prop := (Sum.elim (fun o0 => e = (.exit 0) ∧ σ'.get 1 = (.d true (.lst 3 (p1.map eS_Obligation))) ∧ σ'.get 2 = (.d true (.int .i64 p2)) ∧ σ'.get 3 = (.ptr 0 0 0) ∧ σ'.get 7 = (.d true (.bool r0)) ∧ σ'.get 8 = (.d true (.lst 1 (r3.1.map eI))) ∧ σ'.obj 0 0 = oB4 p0 ∧ σ'.up.length = 0) (fun o1 => e = .ret ∧ σ'.get 6 = (.d true (.bool false)) ∧ σ'.up.length = 0)) r
theorem L_law38_QueueRest_L0 (p0 : S_Circuit) (p1 : (List S_Obligation)) (p2 : Int) (r0 : Bool) (r3 : (List Int) × Int) {s : Int} {r : (Unit) ⊕ (Unit)} (h : Lp (b_law38_QueueRest_L0 p0 p1 p2 r0 r3) s = some r) {σ : St} {Q : Ex → St → Prop} (hI : I_law38_QueueRest_L0 p0 p1 p2 r0 r3 s σ) (hQ : ∀ e σ', J_law38_QueueRest_L0 p0 p1 p2 r0 r3 r e σ' → Q e σ') : WC env (.loop c_law38_QueueRest_l1) σ Q :=
 WC_Lp (I_law38_QueueRest_L0 p0 p1 p2 r0 r3) (J_law38_QueueRest_L0 p0 p1 p2 r0 r3) (by
  clear h hI hQ
  clear s r σ Q
  intro s0 σ x hI h
  obtain ⟨f15, f16, f17, f18, f19, f20, f21, f22⟩ := hI
  unfold b_law38_QueueRest_L0 at h
  replace h := itb h; rcases h with ⟨c9, h⟩ | ⟨c9, h⟩
  ·replace h := bsome h; obtain ⟨x3, H7, h⟩ := h
   try simp only [go_sem, c_law38_QueueRest_l1, *]
   refine WC.mono (Q := fun e σ' => e = .normal ∧ σ'.get 1 = (.d true (.lst 3 (p1.map eS_Obligation))) ∧ σ'.get 2 = (.d true (.int .i64 p2)) ∧ σ'.get 3 = (.ptr 0 0 0) ∧ σ'.get 7 = (.d true (.bool r0)) ∧ σ'.get 8 = (.d true (.lst 1 (r3.1.map eI))) ∧ σ'.get 10 = (.d true (.int .i64 s0)) ∧ σ'.get 86 = (.d true (.bool x3)) ∧ σ'.obj 0 0 = oB4 p0 ∧ σ'.up.length = 0) ?_ ?_
   ·replace h := H7
    clear H7
    replace h := bsome h; obtain ⟨x4, H8, h⟩ := h
    have n1 := idx_n H8; have q1 := idx_q H8; have y1 := idx_x H8
    replace h := bsome h; obtain ⟨x5, H9, h⟩ := h
    have n2 := idx_n H9; have q2 := idx_q H9; have y2 := idx_x H9
    replace h := itb h; rcases h with ⟨c10, h⟩ | ⟨c10, h⟩
    ·cases h
     simp only [go_sem, c_law38_QueueRest_l1, c_law38_QueueRest_p3, *]
    ·cases h
     simp only [go_sem, c_law38_QueueRest_l1, c_law38_QueueRest_p3, *]
   ·intro e τ hJ
    obtain ⟨rfl, f23, f24, f25, f26, f27, f28, f29, f30, f31⟩ := hJ
    replace h := itb h; rcases h with ⟨c11, h⟩ | ⟨c11, h⟩
    ·cases h
     simp only [go_sem, LQ_inr, J_law38_QueueRest_L0, c_law38_QueueRest_l1, *]
    ·cases h
     simp only [go_sem, LQ_inl, I_law38_QueueRest_L0, c_law38_QueueRest_l1, *]
  ·cases h
   simp only [go_sem, LQ_inr, J_law38_QueueRest_L0, c_law38_QueueRest_l1, *]
) h hI hQ
noncomputable def s_law38_QueueRest (p0 : S_Circuit) (p1 : (List S_Obligation)) (p2 : Int) : Option (Bool) :=
 (s_law38_alive ).bind fun r0 =>
 ((s_ref36_Great p0).bind fun r1 =>
  if r1 = true then
   some true
  else
   if (decide ((p1.length : Int) > 130)) = true then
    some true
   else
    (s_ref38_Right p0 p1).bind fun r2 =>
    if (r2 != 0) = true then
     some true
    else
     if (decide (p2 < 0)) = true then
      some true
     else
      if (decide (p2 ≥ (p1.length : Int))) = true then
       some true
      else
       some (!r0)).bind fun x0 =>
 if x0 = true then
  some r0
 else
  (s_queue_Chain p0 p1 p2).bind fun r3 =>
  (if (r3.2 != 0) = true then
    some true
   else
    if ((r3.1.length : Int) == 0) = true then
     some true
    else
     (idx r3.1 0).bind fun x2 =>
     some (x2 != p2)).bind fun x1 =>
  if x1 = true then
   some false
  else
   (Lp (b_law38_QueueRest_L0 p0 p1 p2 r0 r3) 1).bind fun x3 =>
   match x3 with
   | .inl x3' =>
    (idx r3.1 (IntKind.wrap .i64 ((r3.1.length : Int) - 1))).bind fun x4 =>
    (idx p1 p2).bind fun x5 =>
    if (decide (x5.Next < 0)) = true then
     (if r0 = true then
       some ((r3.1.length : Int) == 1)
      else
       some false).bind fun x6 =>
     some x6
    else
     (s_queue_Chain p0 p1 x5.Next).bind fun r4 =>
     (if r0 = true then
       if (r4.2 == 0) = true then
        (idx p1 x4).bind fun x8 =>
        if (x8.Next == (-1)) = true then
         if inC r3.1.length 1 (r3.1.length : Int) then
          (s_ref13_Same r4.1 (slice (Int.toNat 1) (r3.1.length - (Int.toNat 1)) r3.1)).bind fun r5 =>
          some r5
         else none
        else
         some false
       else
        some false
      else
       some false).bind fun x7 =>
     some x7
   | .inr x3' =>
    some false
theorem s_law38_QueueRest_ok {p0 : S_Circuit} {p1 : (List S_Obligation)} {p2 : Int} {r : Bool} (h : s_law38_QueueRest p0 p1 p2 = some r) : AnsL env k_law38_QueueRest [(.ag [(.d true (.int .i64 p0.Inputs)), (.d true (.lst 2 (p0.Latches.map eS_Latch))), (.d true (.lst 2 (p0.Ands.map eS_And))), (.d true (.lst 1 (p0.Bads.map eI))), (.d true (.lst 1 (p0.Constraints.map eI)))]), (.d true (.lst 3 (p1.map eS_Obligation))), (.d true (.int .i64 p2))] (.d true (.bool r)) := by
 unfold s_law38_QueueRest at h
 unfold AnsL
 rw [AtF fn_law38_QueueRest]
 simp only [n_law38_QueueRest]
 replace h := bsome h; obtain ⟨r0, H0, h⟩ := h
 have k0 := AtCall_all (s_law38_alive_ok H0); try dsimp only at k0
 replace h := bsome h; obtain ⟨x0, H1, h⟩ := h
 try simp only [go_sem, *]
 refine WC.mono (Q := fun e σ' => e = .normal ∧ σ'.get 1 = (.d true (.lst 3 (p1.map eS_Obligation))) ∧ σ'.get 2 = (.d true (.int .i64 p2)) ∧ σ'.get 3 = (.ptr 0 0 0) ∧ σ'.get 7 = (.d true (.bool r0)) ∧ σ'.get 41 = (.d true (.bool x0)) ∧ σ'.obj 0 0 = oB4 p0 ∧ σ'.up.length = 0) ?_ ?_
 ·replace h := H1
  clear H1
  replace h := bsome h; obtain ⟨r1, H2, h⟩ := h
  have k1 := AtCall_all (s_ref36_Great_ok H2); try dsimp only at k1
  replace h := itb h; rcases h with ⟨c0, h⟩ | ⟨c0, h⟩
  ·cases h
   simp only [go_sem, c_law38_QueueRest_p1, *]
  ·replace h := itb h; rcases h with ⟨c1, h⟩ | ⟨c1, h⟩
   ·cases h
    simp only [go_sem, c_law38_QueueRest_p1, *]
   ·replace h := bsome h; obtain ⟨r2, H3, h⟩ := h
    have k2 := AtCall_all (s_ref38_Right_ok H3); try dsimp only at k2
    replace h := itb h; rcases h with ⟨c2, h⟩ | ⟨c2, h⟩
    ·cases h
     simp only [go_sem, c_law38_QueueRest_p1, *]
    ·replace h := itb h; rcases h with ⟨c3, h⟩ | ⟨c3, h⟩
     ·cases h
      simp only [go_sem, c_law38_QueueRest_p1, *]
     ·replace h := itb h; rcases h with ⟨c4, h⟩ | ⟨c4, h⟩
      ·cases h
       simp only [go_sem, c_law38_QueueRest_p1, *]
      ·cases h
       simp only [go_sem, c_law38_QueueRest_p1, *]
 ·intro e τ hJ
  obtain ⟨rfl, f0, f1, f2, f3, f4, f5, f6⟩ := hJ
  replace h := itb h; rcases h with ⟨c5, h⟩ | ⟨c5, h⟩
  ·cases h
   simp only [go_sem, KLaw, *]
  ·replace h := bsome h; obtain ⟨r3, H4, h⟩ := h
   have k3 := AtCall_all (s_queue_Chain_ok H4); try dsimp only at k3
   replace h := bsome h; obtain ⟨x1, H5, h⟩ := h
   try simp only [go_sem, *]
   refine WC.mono (Q := fun e σ' => e = .normal ∧ σ'.get 1 = (.d true (.lst 3 (p1.map eS_Obligation))) ∧ σ'.get 2 = (.d true (.int .i64 p2)) ∧ σ'.get 3 = (.ptr 0 0 0) ∧ σ'.get 7 = (.d true (.bool r0)) ∧ σ'.get 8 = (.d true (.lst 1 (r3.1.map eI))) ∧ σ'.get 63 = (.d true (.bool x1)) ∧ σ'.obj 0 0 = oB4 p0 ∧ σ'.up.length = 0) ?_ ?_
   ·replace h := H5
    clear H5
    replace h := itb h; rcases h with ⟨c6, h⟩ | ⟨c6, h⟩
    ·cases h
     simp only [go_sem, c_law38_QueueRest_p2, *]
    ·replace h := itb h; rcases h with ⟨c7, h⟩ | ⟨c7, h⟩
     ·cases h
      simp only [go_sem, c_law38_QueueRest_p2, *]
     ·replace h := bsome h; obtain ⟨x2, H6, h⟩ := h
      have n0 := idx_n H6; have q0 := idx_q H6; have y0 := idx_x H6
      simp only [Int.toNat_zero] at n0 q0 y0
      cases h
      simp only [go_sem, c_law38_QueueRest_p2, *]
   ·intro e τ hJ
    obtain ⟨rfl, f7, f8, f9, f10, f11, f12, f13, f14⟩ := hJ
    replace h := itb h; rcases h with ⟨c8, h⟩ | ⟨c8, h⟩
    ·cases h
     simp only [go_sem, KLaw, *]
    ·replace h := bsome h; obtain ⟨x3, H7, h⟩ := h
     try simp only [go_sem, *]
     refine L_law38_QueueRest_L0 p0 p1 p2 r0 r3 H7 ?_ ?_
     ·clear h
      simp only [go_sem, I_law38_QueueRest_L0, *]
     ·intro e τ hJ
      rcases x3 with x3' | x3'
      ·obtain ⟨rfl, f15, f16, f17, f18, f19, f20, f21⟩ := hJ
       replace h := bsome h; obtain ⟨x4, H8, h⟩ := h
       have n1 := idx_n H8; have q1 := idx_q H8; have y1 := idx_x H8
       replace h := bsome h; obtain ⟨x5, H9, h⟩ := h
       have n2 := idx_n H9; have q2 := idx_q H9; have y2 := idx_x H9
       replace h := itb h; rcases h with ⟨c9, h⟩ | ⟨c9, h⟩
       ·replace h := bsome h; obtain ⟨x6, H10, h⟩ := h
        try simp only [go_sem, *]
        refine WC.mono (Q := fun e σ' => e = .normal ∧ σ'.get 6 = (.d true (.bool x6)) ∧ σ'.up.length = 0) ?_ ?_
        ·replace h := H10
         clear H10
         replace h := itb h; rcases h with ⟨c10, h⟩ | ⟨c10, h⟩
         ·cases h
          simp only [go_sem, c_law38_QueueRest_p4, *]
         ·cases h
          simp only [go_sem, c_law38_QueueRest_p4, *]
        ·intro e τ hJ
         obtain ⟨rfl, f22, f23⟩ := hJ
         cases h
         simp only [go_sem, KLaw, *]
       ·replace h := bsome h; obtain ⟨r4, H11, h⟩ := h
        have k4 := AtCall_all (s_queue_Chain_ok H11); try dsimp only at k4
        replace h := bsome h; obtain ⟨x7, H12, h⟩ := h
        try simp only [go_sem, *]
        refine WC.mono (Q := fun e σ' => e = .normal ∧ σ'.get 6 = (.d true (.bool x7)) ∧ σ'.up.length = 0) ?_ ?_
        ·replace h := H12
         clear H12
         replace h := itb h; rcases h with ⟨c11, h⟩ | ⟨c11, h⟩
         ·replace h := itb h; rcases h with ⟨c12, h⟩ | ⟨c12, h⟩
          ·replace h := bsome h; obtain ⟨x8, H13, h⟩ := h
           have n3 := idx_n H13; have q3 := idx_q H13; have y3 := idx_x H13
           replace h := itb h; rcases h with ⟨c13, h⟩ | ⟨c13, h⟩
           ·replace h := need h; obtain ⟨H14, h⟩ := h
            have zH14 := (cut_lo H14)
            replace h := bsome h; obtain ⟨r5, H15, h⟩ := h
            have k5 := AtCall_all (s_ref13_Same_ok H15); try dsimp only at k5
            cases h
            simp only [go_sem, c_law38_QueueRest_p5, *]
           ·cases h
            simp only [go_sem, c_law38_QueueRest_p5, *]
          ·cases h
           simp only [go_sem, c_law38_QueueRest_p5, *]
         ·cases h
          simp only [go_sem, c_law38_QueueRest_p5, *]
        ·intro e τ hJ
         obtain ⟨rfl, f24, f25⟩ := hJ
         cases h
         simp only [go_sem, KLaw, *]
      ·obtain ⟨rfl, f26, f27⟩ := hJ
       cases h
       simp only [go_sem, KLaw, *]
end Go.Proofs.Ytkhgnkfdpabflaa.Vm
