/- Walks over the code of functions. Printed. -/
import Derived.Test.YtkhgnkfdpabflaaVmH0
namespace Go.Proofs.Ytkhgnkfdpabflaa.Vm
open Go
set_option linter.unusedSimpArgs false
set_option linter.unusedVariables false
set_option maxRecDepth 4000
set_option maxHeartbeats 4000000
attribute [local go_sem] WC_skip WC_exit WC_ret WC_seq WC_block WC_cond WC_rg KSeq_normal KSeq_ret KSeq_exit KBlock_normal KBlock_ret KBlock_exit KN_eq KRg_eq KSt_eq KSet_eq KLen_eq KPick_eq KG_eq KCond_eq boolP_d biteC_true biteC_false biteO_true biteO_false WO_nil WO_mv WO_nilr WO_pick WO_bin WO_beq WO_eqs WO_un WO_cvt WO_alloc WO_box WO_load WO_store WO_fad WO_fval WO_ix WO_ixb WO_ixa WO_bld WO_bsl WO_mks WO_slc WO_len WO_mx WO_mn WO_app WO_cpy WO_clr WO_xt WO_fn WO_chk WO_g
 WO_call WO_callv callK KHand KCallv KRes KBack_ret KRet_eq KAns env_fn St.hand St.lend St.lends St.lend1 St.vals St.frz fr1_obj fr1_get fr1_upl frO_rw frO_fz frO_none St.rowOf List.foldl_nil List.foldl_cons List.map_cons List.map_nil
 optP_some optP_none
 St.get_set St.obj_set St.get_setObj St.obj_setObj St.get_kill St.obj_kill0 St.obj_killS St.get_ini St.obj_ini0 gt_nil gt_zero gt_succ St.val_t St.val_c
 stl_get stl_obj0 stl_objS stl_upl stv_d stv_dx stv_nil stv_row0 stv_rowS stv_ptr stv_rel0 stv_pd stv_ag stv_tp stv_cl stvs_nil stvs_cons obs_box obs_rw obs_fz
 ret_get ret_obj ret_up ini_objS ini_upl ini_upl0 set_upl kill_upl setObj_upl0 setObj_uplS
 kill_d kill_dx kill_nil kill_row0 kill_rowS kill_ptr0 kill_ptrS kill_rel0 kill_relS kill_pd kill_ag kill_tp kill_cl kills_nil kills_cons obk_box obk_rw obk_fz
 pre step bin_int bin_shr bin_shl beq_bool arith_add arith_sub arith_mul arith_and arith_or arith_xor arith_eql arith_neq arith_lss arith_leq arith_gtr arith_geq arith_quo2 arith_rem2 arith_shr1 arith_shl1 maxOf_two minOf_two un lenOf cellsOf ofCells wid sub? slice_map slice_head slice_full' slice_z slice_c slice_s put St.new zcells St.load St.store Vm.fad St.ix St.slc St.els St.app St.wants St.skip I.dst resVal resVals Z.v Z.t? ofT T.cells V.shift V.shifts V.down V.downs downL chkV eqs eqFlat fill fillT flatFill T.noL T.flat
 dat dat2 dat1 dats1 dats2 Fn.pure FreeRows_nil FreeRows_cons setRows ren ren2 ren1 KTk take takes2 take2 takes1 take1 take0 rowsOb Vm.st Option.isNone_none Option.isNone_some List.mem_cons List.not_mem_nil not_or
 Option.map_some Option.map_none Option.bind_some List.length_cons List.length_nil List.length_append List.length_set cpl_length List.length_map List.length_replicate List.map_append List.map_set List.map_replicate List.getElem?_map List.getElem?_cons_zero List.getElem?_cons_succ List.drop_zero List.take_zero List.drop_succ_cons List.take_succ_cons List.take_nil List.drop_nil List.zip_cons_cons List.zip_nil_left List.zip_nil_right List.mapM_cons List.mapM_nil Option.pure_def Option.bind_eq_bind List.all_cons List.all_nil List.append_eq_nil_iff List.cons_ne_nil List.map_eq_nil_iff List.set_cons_zero List.set_cons_succ List.replicate_succ List.replicate_zero
 Nat.reduceEqDiff Nat.reduceLeDiff Nat.reduceAdd Nat.reduceSub Nat.reduceLT Nat.reduceMul Nat.reduceBEq Nat.ble_eq reduceIte reduceCtorEq Nat.add_zero Nat.sub_zero Nat.zero_add and_true true_and and_false false_and and_self or_true true_or false_or or_false if_true if_false Nat.one_ne_zero not_true not_false_eq_true not_false_iff Bool.false_eq_true forall_const true_implies false_implies implies_true BEq.rfl Bool.not_true Bool.not_false Bool.and_true Bool.true_and Bool.and_false Bool.false_and Bool.and_self Bool.true_bne Bool.false_bne not_true_eq_false List.nil_append List.append_nil List.cons_append dInt dBool Nat.le_refl Nat.le_add_right St.toT St.toTs ne_eq
 ff_set ff_setObj ff_setObjl ff_ini0 ff_iniS ff_ret ff_frz1 mg_get mg_obj0 mg_objS mg_up KBack_mg mrv_d mrv_nil mrv_ptr0 mrv_ptrS mrv_row0 mrv_rowS mrv_ag mrv_tp mrv_cl mrvs_nil mrvs_cons obm_box obm_rw obm_fz
 Sum.elim_inl Sum.elim_inr Option.some.injEq Ob.rw.injEq exists_eq2 eI eU8 eU64 eB eL eS_Latch eS_And eS_Circuit eS_Obligation eA4_Int eS_Trace oB0 oB1 oB2 oB3 oB4 oB5 oB6 oB7 at_gates_Check_1 at_gates_Check_2 at_queue_chain at_slices_ContainsFunc_of_api_Latch at_slices_ContainsFunc_of_int at_slices_IndexFunc_of_api_Latch at_slices_IndexFunc_of_int c_clause_Check c_clause_known c_gates_Check c_gates_Check_1 c_gates_Check_2 c_gates_starts c_queue_Chain c_queue_Right c_queue_Trace c_queue_chain c_ref02_Check c_ref02_Great c_ref02_Size c_ref02_literals c_ref13_Lit c_ref13_Valid c_ref36_Great c_ref38_Behind c_ref38_Chain c_ref38_Great c_ref38_Right c_ref38_Run c_ref38_Trace c_slices_ContainsFunc_of_api_Latch c_slices_ContainsFunc_of_int c_slices_IndexFunc_of_api_Latch c_slices_IndexFunc_of_int cloneX ex_slices_Clone_of_bool fn_clause_Check fn_clause_known fn_gates_Check fn_gates_Check_1 fn_gates_Check_2 fn_gates_starts fn_queue_Chain fn_queue_Right fn_queue_chain fn_ref02_Check fn_ref02_Great fn_ref02_Size fn_ref02_literals fn_ref13_Lit fn_ref13_Valid fn_ref38_Behind fn_ref38_Chain fn_ref38_Right fn_ref38_Run fn_slices_Clone_of_bool fn_slices_Collect_of_int fn_slices_ContainsFunc_of_api_Latch fn_slices_ContainsFunc_of_int fn_slices_IndexFunc_of_api_Latch fn_slices_IndexFunc_of_int n_clause_Check n_clause_known n_gates_Check n_gates_Check_1 n_gates_Check_2 n_gates_starts n_queue_Chain n_queue_Right n_queue_chain n_ref02_Check n_ref02_Great n_ref02_Size n_ref02_literals n_ref13_Lit n_ref13_Valid n_ref38_Behind n_ref38_Chain n_ref38_Right n_ref38_Run n_slices_Collect_of_int n_slices_ContainsFunc_of_api_Latch n_slices_ContainsFunc_of_int n_slices_IndexFunc_of_api_Latch n_slices_IndexFunc_of_int
def s_ref02_Great (p0 : S_Circuit) : Option (Bool) :=
 (if (decide ((p0.Latches.length : Int) > 60)) = true then
   some true
  else
   if (decide ((p0.Ands.length : Int) > 120)) = true then
    some true
   else
    if (decide ((p0.Bads.length : Int) > 110)) = true then
     some true
    else
     if (decide ((p0.Constraints.length : Int) > 110)) = true then
      some true
     else
      if (decide (p0.Inputs > 40)) = true then
       some (decide (p0.Inputs < 996))
      else
       some false).bind fun x0 =>
 some x0
theorem s_ref02_Great_ok {p0 : S_Circuit} {r : Bool} (h : s_ref02_Great p0 = some r) : Ans env k_ref02_Great [(.ag [(.d true (.int .i64 p0.Inputs)), (.d false (.lst 2 (p0.Latches.map eS_Latch))), (.d false (.lst 2 (p0.Ands.map eS_And))), (.d false (.lst 1 (p0.Bads.map eI))), (.d false (.lst 1 (p0.Constraints.map eI)))])] (.d true (.bool r)) := by
 unfold s_ref02_Great at h
 unfold Ans
 rw [AtF fn_ref02_Great]
 simp only [n_ref02_Great]
 replace h := bsome h; obtain ⟨x0, H0, h⟩ := h
 try simp only [go_sem, *]
 refine WC.mono (Q := fun e σ' => e = .normal ∧ σ'.get 2 = (.d true (.bool x0)) ∧ σ'.up.length = 0) ?_ ?_
 ·replace h := H0
  clear H0
  replace h := itb h; rcases h with ⟨c0, h⟩ | ⟨c0, h⟩
  ·cases h
   simp only [go_sem, c_ref02_Great_p1, *]
  ·replace h := itb h; rcases h with ⟨c1, h⟩ | ⟨c1, h⟩
   ·cases h
    simp only [go_sem, c_ref02_Great_p1, *]
   ·replace h := itb h; rcases h with ⟨c2, h⟩ | ⟨c2, h⟩
    ·cases h
     simp only [go_sem, c_ref02_Great_p1, *]
    ·replace h := itb h; rcases h with ⟨c3, h⟩ | ⟨c3, h⟩
     ·cases h
      simp only [go_sem, c_ref02_Great_p1, *]
     ·replace h := itb h; rcases h with ⟨c4, h⟩ | ⟨c4, h⟩
      ·cases h
       simp only [go_sem, c_ref02_Great_p1, *]
      ·cases h
       simp only [go_sem, c_ref02_Great_p1, *]
 ·intro e τ hJ
  obtain ⟨rfl, f0, f1⟩ := hJ
  cases h
  simp only [go_sem, *]
  exact ⟨_, rfl⟩
def s_ref02_Size (p0 : S_Circuit) : Option (Int) :=
 some (IntKind.wrap .i64 ((IntKind.wrap .i64 (p0.Inputs + (p0.Latches.length : Int))) + (p0.Ands.length : Int)))
theorem s_ref02_Size_ok {p0 : S_Circuit} {r : Int} (h : s_ref02_Size p0 = some r) : Ans env k_ref02_Size [(.ag [(.d true (.int .i64 p0.Inputs)), (.d false (.lst 2 (p0.Latches.map eS_Latch))), (.d false (.lst 2 (p0.Ands.map eS_And))), (.d false (.lst 1 (p0.Bads.map eI))), (.d false (.lst 1 (p0.Constraints.map eI)))])] (.d true (.int .i64 r)) := by
 unfold s_ref02_Size at h
 unfold Ans
 rw [AtF fn_ref02_Size]
 simp only [n_ref02_Size]
 cases h
 simp only [go_sem, *]
 exact ⟨_, rfl⟩
def b_ref02_literals_L0 (p0 : (List Int)) (p1 : Int) (s0 : Int) : Option ((Int) ⊕ ((Unit) ⊕ (Unit))) :=
 if (decide (s0 < (p0.length : Int))) = true then
  ((idx p0 s0).bind fun x1 =>
   if (decide (x1 < 0)) = true then
    some true
   else
    some (decide ((IntKind.wrap .i64 (Int.tdiv x1 2)) > p1))).bind fun x0 =>
  if x0 = true then
   some (Sum.inr (Sum.inr ()))
  else
   some (Sum.inl (IntKind.wrap .i64 (s0 + 1)))
 else
  some (Sum.inr (Sum.inl ()))
def I_ref02_literals_L0 (p0 : (List Int)) (p1 : Int) (s0 : Int) (σ : St) : Prop := σ.get 0 = (.d false (.lst 1 (p0.map eI))) ∧ σ.get 1 = (.d true (.int .i64 p1)) ∧ σ.get 5 = (.d true (.int .i64 s0)) ∧ σ.up.length = 0
def J_ref02_literals_L0 (p0 : (List Int)) (p1 : Int) (r : (Unit) ⊕ (Unit)) (e : Ex) (σ' : St) : Prop := (Sum.elim (fun o0 => e = (.exit 0) ∧ σ'.up.length = 0) (fun o1 => e = .ret ∧ σ'.get 4 = (.d true (.bool false)) ∧ σ'.up.length = 0)) r
theorem L_ref02_literals_L0 (p0 : (List Int)) (p1 : Int) {s : Int} {r : (Unit) ⊕ (Unit)} (h : Lp (b_ref02_literals_L0 p0 p1) s = some r) {σ : St} {Q : Ex → St → Prop} (hI : I_ref02_literals_L0 p0 p1 s σ) (hQ : ∀ e σ', J_ref02_literals_L0 p0 p1 r e σ' → Q e σ') : WC env (.loop c_ref02_literals_l1) σ Q :=
 WC_Lp (I_ref02_literals_L0 p0 p1) (J_ref02_literals_L0 p0 p1) (by
  clear h hI hQ
  clear s r σ Q
  intro s0 σ x hI h
  obtain ⟨f0, f1, f2, f3⟩ := hI
  unfold b_ref02_literals_L0 at h
  replace h := itb h; rcases h with ⟨c0, h⟩ | ⟨c0, h⟩
  ·replace h := bsome h; obtain ⟨x0, H0, h⟩ := h
   try simp only [go_sem, c_ref02_literals_l1, *]
   refine WC.mono (Q := fun e σ' => e = .normal ∧ σ'.get 0 = (.d false (.lst 1 (p0.map eI))) ∧ σ'.get 1 = (.d true (.int .i64 p1)) ∧ σ'.get 5 = (.d true (.int .i64 s0)) ∧ σ'.get 25 = (.d true (.bool x0)) ∧ σ'.up.length = 0) ?_ ?_
   ·replace h := H0
    clear H0
    replace h := bsome h; obtain ⟨x1, H1, h⟩ := h
    have n0 := idx_n H1; have q0 := idx_q H1; have y0 := idx_x H1
    replace h := itb h; rcases h with ⟨c1, h⟩ | ⟨c1, h⟩
    ·cases h
     simp only [go_sem, c_ref02_literals_l1, c_ref02_literals_p1, *]
    ·cases h
     simp only [go_sem, c_ref02_literals_l1, c_ref02_literals_p1, *]
   ·intro e τ hJ
    obtain ⟨rfl, f4, f5, f6, f7, f8⟩ := hJ
    replace h := itb h; rcases h with ⟨c2, h⟩ | ⟨c2, h⟩
    ·cases h
     simp only [go_sem, LQ_inr, J_ref02_literals_L0, c_ref02_literals_l1, *]
    ·cases h
     simp only [go_sem, LQ_inl, I_ref02_literals_L0, c_ref02_literals_l1, *]
  ·cases h
   simp only [go_sem, LQ_inr, J_ref02_literals_L0, c_ref02_literals_l1, *]
) h hI hQ
noncomputable def s_ref02_literals (p0 : (List Int)) (p1 : Int) : Option (Bool) :=
 (Lp (b_ref02_literals_L0 p0 p1) 0).bind fun x0 =>
 match x0 with
 | .inl x0' =>
  some true
 | .inr x0' =>
  some false
theorem s_ref02_literals_ok {p0 : (List Int)} {p1 : Int} {r : Bool} (h : s_ref02_literals p0 p1 = some r) : Ans env k_ref02_literals [(.d false (.lst 1 (p0.map eI))), (.d true (.int .i64 p1))] (.d true (.bool r)) := by
 unfold s_ref02_literals at h
 unfold Ans
 rw [AtF fn_ref02_literals]
 simp only [n_ref02_literals]
 replace h := bsome h; obtain ⟨x0, H0, h⟩ := h
 try simp only [go_sem, *]
 refine L_ref02_literals_L0 p0 p1 H0 ?_ ?_
 ·clear h
  simp only [go_sem, I_ref02_literals_L0, *]
 ·intro e τ hJ
  rcases x0 with x0' | x0'
  ·obtain ⟨rfl, f0⟩ := hJ
   cases h
   simp only [go_sem, *]
   exact ⟨_, rfl⟩
  ·obtain ⟨rfl, f1, f2⟩ := hJ
   cases h
   simp only [go_sem, *]
   exact ⟨_, rfl⟩
noncomputable def b_ref02_Check_L0 (p0 : S_Circuit) (r1 : Int) (s0 : Int) : Option ((Int) ⊕ ((Unit) ⊕ (Unit))) :=
 if (decide (s0 < (p0.Latches.length : Int))) = true then
  ((idx p0.Latches s0).bind fun x3 =>
   (s_ref02_literals ([x3.Next] : List Int) r1).bind fun r4 =>
   if r4 = true then
    if (decide (x3.Reset < 0)) = true then
     some true
    else
     some (decide (x3.Reset > 2))
   else
    some true).bind fun x2 =>
  if x2 = true then
   some (Sum.inr (Sum.inr ()))
  else
   some (Sum.inl (IntKind.wrap .i64 (s0 + 1)))
 else
  some (Sum.inr (Sum.inl ()))
def I_ref02_Check_L0 (p0 : S_Circuit) (r1 : Int) (s0 : Int) (σ : St) : Prop := σ.get 1 = (.ptr 0 0 0) ∧ σ.get 3 = (.d true (.int .i64 r1)) ∧ σ.get 4 = (.d true (.int .i64 s0)) ∧ σ.obj 0 0 = oB0 p0 ∧ σ.up.length = 0
def J_ref02_Check_L0 (p0 : S_Circuit) (r1 : Int) (r : (Unit) ⊕ (Unit)) (e : Ex) (σ' : St) : Prop := (Sum.elim (fun o0 => e = (.exit 0) ∧ σ'.get 1 = (.ptr 0 0 0) ∧ σ'.obj 0 0 = oB0 p0 ∧ σ'.up.length = 0) (fun o1 => e = .ret ∧ σ'.get 2 = (.d true (.int .i64 8)) ∧ σ'.up.length = 0)) r
theorem L_ref02_Check_L0 (p0 : S_Circuit) (r1 : Int) {s : Int} {r : (Unit) ⊕ (Unit)} (h : Lp (b_ref02_Check_L0 p0 r1) s = some r) {σ : St} {Q : Ex → St → Prop} (hI : I_ref02_Check_L0 p0 r1 s σ) (hQ : ∀ e σ', J_ref02_Check_L0 p0 r1 r e σ' → Q e σ') : WC env (.loop c_ref02_Check_l1) σ Q :=
 WC_Lp (I_ref02_Check_L0 p0 r1) (J_ref02_Check_L0 p0 r1) (by
  clear h hI hQ
  clear s r σ Q
  intro s0 σ x hI h
  obtain ⟨f9, f10, f11, f12, f13⟩ := hI
  unfold b_ref02_Check_L0 at h
  replace h := itb h; rcases h with ⟨c7, h⟩ | ⟨c7, h⟩
  ·replace h := bsome h; obtain ⟨x2, H6, h⟩ := h
   try simp only [go_sem, c_ref02_Check_l1, *]
   refine WC.mono (Q := fun e σ' => e = .normal ∧ σ'.get 1 = (.ptr 0 0 0) ∧ σ'.get 3 = (.d true (.int .i64 r1)) ∧ σ'.get 4 = (.d true (.int .i64 s0)) ∧ σ'.get 78 = (.d true (.bool x2)) ∧ σ'.obj 0 0 = oB0 p0 ∧ σ'.up.length = 0) ?_ ?_
   ·replace h := H6
    clear H6
    replace h := bsome h; obtain ⟨x3, H7, h⟩ := h
    have n0 := idx_n H7; have q0 := idx_q H7; have y0 := idx_x H7
    replace h := bsome h; obtain ⟨r4, H8, h⟩ := h
    have k4 := AtCall_all (s_ref02_literals_ok H8); try dsimp only at k4
    try simp only [List.map_cons, List.map_nil, List.map_append, List.map_set, List.nil_append, List.map_replicate, eI, eU8, eB, eL, eS_Latch, eS_And, eS_Circuit, eS_Obligation, eA4_Int, eS_Trace] at k4
    replace h := itb h; rcases h with ⟨c8, h⟩ | ⟨c8, h⟩
    ·replace h := itb h; rcases h with ⟨c9, h⟩ | ⟨c9, h⟩
     ·cases h
      simp only [go_sem, c_ref02_Check_l1, c_ref02_Check_p3, *]
     ·cases h
      simp only [go_sem, c_ref02_Check_l1, c_ref02_Check_p3, *]
    ·cases h
     simp only [go_sem, c_ref02_Check_l1, c_ref02_Check_p3, *]
   ·intro e τ hJ
    obtain ⟨rfl, f14, f15, f16, f17, f18, f19⟩ := hJ
    replace h := itb h; rcases h with ⟨c10, h⟩ | ⟨c10, h⟩
    ·cases h
     simp only [go_sem, LQ_inr, J_ref02_Check_L0, c_ref02_Check_l1, *]
    ·cases h
     simp only [go_sem, LQ_inl, I_ref02_Check_L0, c_ref02_Check_l1, *]
  ·cases h
   simp only [go_sem, LQ_inr, J_ref02_Check_L0, c_ref02_Check_l1, *]
) h hI hQ
def b_ref02_Check_L1 (p0 : S_Circuit) (s1 : Int) : Option ((Int) ⊕ ((Unit) ⊕ (Unit))) :=
 if (decide (s1 < (p0.Ands.length : Int))) = true then
  (idx p0.Ands s1).bind fun x3 =>
  (if (decide (x3.B < 0)) = true then
    some true
   else
    if (decide (x3.A < x3.B)) = true then
     some true
    else
     some (decide ((IntKind.wrap .i64 (Int.tdiv x3.A 2)) > (IntKind.wrap .i64 ((IntKind.wrap .i64 (p0.Inputs + (p0.Latches.length : Int))) + s1))))).bind fun x4 =>
  if x4 = true then
   some (Sum.inr (Sum.inr ()))
  else
   some (Sum.inl (IntKind.wrap .i64 (s1 + 1)))
 else
  some (Sum.inr (Sum.inl ()))
def I_ref02_Check_L1 (p0 : S_Circuit) (s1 : Int) (σ : St) : Prop := σ.get 1 = (.ptr 0 0 0) ∧ σ.get 5 = (.d true (.int .i64 s1)) ∧ σ.obj 0 0 = oB0 p0 ∧ σ.up.length = 0
def J_ref02_Check_L1 (p0 : S_Circuit) (r : (Unit) ⊕ (Unit)) (e : Ex) (σ' : St) : Prop := (Sum.elim (fun o0 => e = (.exit 2) ∧ σ'.up.length = 0) (fun o1 => e = .ret ∧ σ'.get 2 = (.d true (.int .i64 8)) ∧ σ'.up.length = 0)) r
theorem L_ref02_Check_L1 (p0 : S_Circuit) {s : Int} {r : (Unit) ⊕ (Unit)} (h : Lp (b_ref02_Check_L1 p0) s = some r) {σ : St} {Q : Ex → St → Prop} (hI : I_ref02_Check_L1 p0 s σ) (hQ : ∀ e σ', J_ref02_Check_L1 p0 r e σ' → Q e σ') : WC env (.loop c_ref02_Check_l2) σ Q :=
 WC_Lp (I_ref02_Check_L1 p0) (J_ref02_Check_L1 p0) (by
  clear h hI hQ
  clear s r σ Q
  intro s1 σ x hI h
  obtain ⟨f12, f13, f14, f15⟩ := hI
  unfold b_ref02_Check_L1 at h
  replace h := itb h; rcases h with ⟨c7, h⟩ | ⟨c7, h⟩
  ·replace h := bsome h; obtain ⟨x3, H7, h⟩ := h
   have n0 := idx_n H7; have q0 := idx_q H7; have y0 := idx_x H7
   replace h := bsome h; obtain ⟨x4, H8, h⟩ := h
   try simp only [go_sem, c_ref02_Check_l2, *]
   refine WC.mono (Q := fun e σ' => e = .normal ∧ σ'.get 1 = (.ptr 0 0 0) ∧ σ'.get 5 = (.d true (.int .i64 s1)) ∧ σ'.get 114 = (.d true (.bool x4)) ∧ σ'.obj 0 0 = oB0 p0 ∧ σ'.up.length = 0) ?_ ?_
   ·replace h := H8
    clear H8
    replace h := itb h; rcases h with ⟨c8, h⟩ | ⟨c8, h⟩
    ·cases h
     simp only [go_sem, c_ref02_Check_l2, c_ref02_Check_p4, *]
    ·replace h := itb h; rcases h with ⟨c9, h⟩ | ⟨c9, h⟩
     ·cases h
      simp only [go_sem, c_ref02_Check_l2, c_ref02_Check_p4, *]
     ·cases h
      simp only [go_sem, c_ref02_Check_l2, c_ref02_Check_p4, *]
   ·intro e τ hJ
    obtain ⟨rfl, f16, f17, f18, f19, f20⟩ := hJ
    replace h := itb h; rcases h with ⟨c10, h⟩ | ⟨c10, h⟩
    ·cases h
     simp only [go_sem, LQ_inr, J_ref02_Check_L1, c_ref02_Check_l2, *]
    ·cases h
     simp only [go_sem, LQ_inl, I_ref02_Check_L1, c_ref02_Check_l2, *]
  ·cases h
   simp only [go_sem, LQ_inr, J_ref02_Check_L1, c_ref02_Check_l2, *]
) h hI hQ
noncomputable def s_ref02_Check (p0 : S_Circuit) : Option (Int) :=
 if (decide (p0.Inputs < 0)) = true then
  some 8
 else
  (if (decide (p0.Inputs > 1000)) = true then
    some true
   else
    (s_ref02_Size p0).bind fun r0 =>
    if (decide (r0 > 1000)) = true then
     some true
    else
     if (decide ((p0.Bads.length : Int) > 100)) = true then
      some true
     else
      some (decide ((p0.Constraints.length : Int) > 100))).bind fun x0 =>
  if x0 = true then
   some 4
  else
   (s_ref02_Size p0).bind fun r1 =>
   ((s_ref02_literals p0.Bads r1).bind fun r2 =>
    if r2 = true then
     (s_ref02_literals p0.Constraints r1).bind fun r3 =>
     some (!r3)
    else
     some true).bind fun x1 =>
   if x1 = true then
    some 8
   else
    (Lp (b_ref02_Check_L0 p0 r1) 0).bind fun x2 =>
    match x2 with
    | .inl x2' =>
     (Lp (b_ref02_Check_L1 p0) 0).bind fun x3 =>
     match x3 with
     | .inl x3' =>
      some 0
     | .inr x3' =>
      some 8
    | .inr x2' =>
     some 8
theorem s_ref02_Check_ok {p0 : S_Circuit} {r : Int} (h : s_ref02_Check p0 = some r) : Ans env k_ref02_Check [(.ag [(.d true (.int .i64 p0.Inputs)), (.d false (.lst 2 (p0.Latches.map eS_Latch))), (.d false (.lst 2 (p0.Ands.map eS_And))), (.d false (.lst 1 (p0.Bads.map eI))), (.d false (.lst 1 (p0.Constraints.map eI)))])] (.d true (.int .i64 r)) := by
 unfold s_ref02_Check at h
 unfold Ans
 rw [AtF fn_ref02_Check]
 simp only [n_ref02_Check]
 replace h := itb h; rcases h with ⟨c0, h⟩ | ⟨c0, h⟩
 ·cases h
  simp only [go_sem, *]
  exact ⟨_, rfl⟩
 ·replace h := bsome h; obtain ⟨x0, H0, h⟩ := h
  try simp only [go_sem, *]
  refine WC.mono (Q := fun e σ' => e = .normal ∧ σ'.get 1 = (.ptr 0 0 0) ∧ σ'.get 29 = (.d true (.bool x0)) ∧ σ'.obj 0 0 = oB0 p0 ∧ σ'.up.length = 0) ?_ ?_
  ·replace h := H0
   clear H0
   replace h := itb h; rcases h with ⟨c1, h⟩ | ⟨c1, h⟩
   ·cases h
    simp only [go_sem, c_ref02_Check_p1, *]
   ·replace h := bsome h; obtain ⟨r0, H1, h⟩ := h
    have k0 := AtCall_all (s_ref02_Size_ok H1); try dsimp only at k0
    replace h := itb h; rcases h with ⟨c2, h⟩ | ⟨c2, h⟩
    ·cases h
     simp only [go_sem, c_ref02_Check_p1, *]
    ·replace h := itb h; rcases h with ⟨c3, h⟩ | ⟨c3, h⟩
     ·cases h
      simp only [go_sem, c_ref02_Check_p1, *]
     ·cases h
      simp only [go_sem, c_ref02_Check_p1, *]
  ·intro e τ hJ
   obtain ⟨rfl, f0, f1, f2, f3⟩ := hJ
   replace h := itb h; rcases h with ⟨c4, h⟩ | ⟨c4, h⟩
   ·cases h
    simp only [go_sem, *]
    exact ⟨_, rfl⟩
   ·replace h := bsome h; obtain ⟨r1, H2, h⟩ := h
    have k1 := AtCall_all (s_ref02_Size_ok H2); try dsimp only at k1
    replace h := bsome h; obtain ⟨x1, H3, h⟩ := h
    try simp only [go_sem, *]
    refine WC.mono (Q := fun e σ' => e = .normal ∧ σ'.get 1 = (.ptr 0 0 0) ∧ σ'.get 3 = (.d true (.int .i64 r1)) ∧ σ'.get 43 = (.d true (.bool x1)) ∧ σ'.obj 0 0 = oB0 p0 ∧ σ'.up.length = 0) ?_ ?_
    ·replace h := H3
     clear H3
     replace h := bsome h; obtain ⟨r2, H4, h⟩ := h
     have k2 := AtCall_all (s_ref02_literals_ok H4); try dsimp only at k2
     replace h := itb h; rcases h with ⟨c5, h⟩ | ⟨c5, h⟩
     ·replace h := bsome h; obtain ⟨r3, H5, h⟩ := h
      have k3 := AtCall_all (s_ref02_literals_ok H5); try dsimp only at k3
      cases h
      simp only [go_sem, c_ref02_Check_p2, *]
     ·cases h
      simp only [go_sem, c_ref02_Check_p2, *]
    ·intro e τ hJ
     obtain ⟨rfl, f4, f5, f6, f7, f8⟩ := hJ
     replace h := itb h; rcases h with ⟨c6, h⟩ | ⟨c6, h⟩
     ·cases h
      simp only [go_sem, *]
      exact ⟨_, rfl⟩
     ·replace h := bsome h; obtain ⟨x2, H6, h⟩ := h
      try simp only [go_sem, *]
      refine L_ref02_Check_L0 p0 r1 H6 ?_ ?_
      ·clear h
       simp only [go_sem, I_ref02_Check_L0, *]
      ·intro e τ hJ
       rcases x2 with x2' | x2'
       ·obtain ⟨rfl, f9, f10, f11⟩ := hJ
        replace h := bsome h; obtain ⟨x3, H7, h⟩ := h
        try simp only [go_sem, *]
        refine L_ref02_Check_L1 p0 H7 ?_ ?_
        ·clear h
         simp only [go_sem, I_ref02_Check_L1, *]
        ·intro e τ hJ
         rcases x3 with x3' | x3'
         ·obtain ⟨rfl, f12⟩ := hJ
          cases h
          simp only [go_sem, *]
          exact ⟨_, rfl⟩
         ·obtain ⟨rfl, f13, f14⟩ := hJ
          cases h
          simp only [go_sem, *]
          exact ⟨_, rfl⟩
       ·obtain ⟨rfl, f15, f16⟩ := hJ
        cases h
        simp only [go_sem, *]
        exact ⟨_, rfl⟩
noncomputable def s_ref36_Great (p0 : S_Circuit) : Option (Bool) :=
 (s_ref02_Great p0).bind fun r0 =>
 if r0 = true then
  some true
 else
  ((s_ref02_Check p0).bind fun r1 =>
   if (r1 == 0) = true then
    (s_ref02_Size p0).bind fun r2 =>
    if (decide (r2 > 40)) = true then
     some true
    else
     if (decide ((p0.Bads.length : Int) > 10)) = true then
      some true
     else
      some (decide ((p0.Constraints.length : Int) > 10))
   else
    some false).bind fun x0 =>
  some x0
theorem s_ref36_Great_ok {p0 : S_Circuit} {r : Bool} (h : s_ref36_Great p0 = some r) : Ans env k_ref36_Great [(.ag [(.d true (.int .i64 p0.Inputs)), (.d false (.lst 2 (p0.Latches.map eS_Latch))), (.d false (.lst 2 (p0.Ands.map eS_And))), (.d false (.lst 1 (p0.Bads.map eI))), (.d false (.lst 1 (p0.Constraints.map eI)))])] (.d true (.bool r)) := by
 unfold s_ref36_Great at h
 unfold Ans
 rw [AtF fn_ref36_Great]
 simp only [n_ref36_Great]
 replace h := bsome h; obtain ⟨r0, H0, h⟩ := h
 have k0 := AtCall_all (s_ref02_Great_ok H0); try dsimp only at k0
 replace h := itb h; rcases h with ⟨c0, h⟩ | ⟨c0, h⟩
 ·cases h
  simp only [go_sem, *]
  exact ⟨_, rfl⟩
 ·replace h := bsome h; obtain ⟨x0, H1, h⟩ := h
  try simp only [go_sem, *]
  refine WC.mono (Q := fun e σ' => e = .normal ∧ σ'.get 2 = (.d true (.bool x0)) ∧ σ'.up.length = 0) ?_ ?_
  ·replace h := H1
   clear H1
   replace h := bsome h; obtain ⟨r1, H2, h⟩ := h
   have k1 := AtCall_all (s_ref02_Check_ok H2); try dsimp only at k1
   replace h := itb h; rcases h with ⟨c1, h⟩ | ⟨c1, h⟩
   ·replace h := bsome h; obtain ⟨r2, H3, h⟩ := h
    have k2 := AtCall_all (s_ref02_Size_ok H3); try dsimp only at k2
    replace h := itb h; rcases h with ⟨c2, h⟩ | ⟨c2, h⟩
    ·cases h
     simp only [go_sem, c_ref36_Great_p1, *]
    ·replace h := itb h; rcases h with ⟨c3, h⟩ | ⟨c3, h⟩
     ·cases h
      simp only [go_sem, c_ref36_Great_p1, *]
     ·cases h
      simp only [go_sem, c_ref36_Great_p1, *]
   ·cases h
    simp only [go_sem, c_ref36_Great_p1, *]
  ·intro e τ hJ
   obtain ⟨rfl, f0, f1⟩ := hJ
   cases h
   simp only [go_sem, *]
   exact ⟨_, rfl⟩
def s_ref38_Great (p0 : Int) : Option (Bool) :=
 (if (decide (p0 > 130)) = true then
   if (decide (p0 < 1000)) = true then
    some true
   else
    some (decide (p0 > 1010))
  else
   some (decide (p0 > 1010))).bind fun x0 =>
 some x0
theorem s_ref38_Great_ok {p0 : Int} {r : Bool} (h : s_ref38_Great p0 = some r) : Ans env k_ref38_Great [(.d true (.int .i64 p0))] (.d true (.bool r)) := by
 unfold s_ref38_Great at h
 unfold Ans
 rw [AtF fn_ref38_Great]
 simp only [n_ref38_Great]
 replace h := bsome h; obtain ⟨x0, H0, h⟩ := h
 try simp only [go_sem, *]
 refine WC.mono (Q := fun e σ' => e = .normal ∧ σ'.get 2 = (.d true (.bool x0)) ∧ σ'.up.length = 0) ?_ ?_
 ·replace h := H0
  clear H0
  replace h := itb h; rcases h with ⟨c0, h⟩ | ⟨c0, h⟩
  ·replace h := itb h; rcases h with ⟨c1, h⟩ | ⟨c1, h⟩
   ·cases h
    simp only [go_sem, c_ref38_Great_p1, *]
   ·cases h
    simp only [go_sem, c_ref38_Great_p1, *]
  ·cases h
   simp only [go_sem, c_ref38_Great_p1, *]
 ·intro e τ hJ
  obtain ⟨rfl, f0, f1⟩ := hJ
  cases h
  simp only [go_sem, *]
  exact ⟨_, rfl⟩
def s_gates_starts (p0 : S_Circuit) : Option (A4_Int) :=
 some (A4_Int.mk 1 (IntKind.wrap .i64 (1 + p0.Inputs)) (IntKind.wrap .i64 ((IntKind.wrap .i64 (1 + p0.Inputs)) + (p0.Latches.length : Int))) (IntKind.wrap .i64 ((IntKind.wrap .i64 ((IntKind.wrap .i64 (1 + p0.Inputs)) + (p0.Latches.length : Int))) + (p0.Ands.length : Int))))
theorem s_gates_starts_ok {p0 : S_Circuit} {r : A4_Int} (h : s_gates_starts p0 = some r) : Ans env k_gates_starts [(.ag [(.d true (.int .i64 p0.Inputs)), (.d false (.lst 2 (p0.Latches.map eS_Latch))), (.d false (.lst 2 (p0.Ands.map eS_And))), (.d false (.lst 1 (p0.Bads.map eI))), (.d false (.lst 1 (p0.Constraints.map eI)))])] (.ag [(.d true (.int .i64 r.a0)), (.d true (.int .i64 r.a1)), (.d true (.int .i64 r.a2)), (.d true (.int .i64 r.a3))]) := by
 unfold s_gates_starts at h
 unfold Ans
 rw [AtF fn_gates_starts]
 simp only [n_gates_starts]
 cases h
 simp only [go_sem, *]
 exact ⟨_, rfl⟩
def b_gates_Check_L0 (p0 : S_Circuit) (r1 : A4_Int) (s0 : Int) : Option ((Int) ⊕ ((Unit) ⊕ (Int))) :=
 if (decide (s0 < (p0.Bads.length : Int))) = true then
  (idx p0.Bads s0).bind fun x3 =>
  (if (decide (x3 < 0)) = true then
    some true
   else
    some (decide ((shrI .i64 x3 1) ≥ r1.a3))).bind fun x4 =>
  if x4 = true then
   some (Sum.inr (Sum.inr s0))
  else
   some (Sum.inl (IntKind.wrap .i64 (s0 + 1)))
 else
  some (Sum.inr (Sum.inl ()))
def I_gates_Check_L0 (p0 : S_Circuit) (r1 : A4_Int) (s0 : Int) (σ : St) : Prop := σ.get 0 = (.d false (.lst 1 (p0.Bads.map eI))) ∧ σ.get 1 = (.cl k_gates_Check_1 [(.ptr 2 1 0)]) ∧ σ.get 7 = (.d true (.int .i64 (p0.Bads.length : Int))) ∧ σ.get 8 = (.d true (.int .i64 s0)) ∧ σ.obj 2 0 = oB0 p0 ∧ σ.obj 2 1 = oB2 r1.a0 r1.a1 r1.a2 r1.a3 ∧ σ.obj 2 2 = some (.box [(.cl k_gates_Check_1 [(.ptr 0 1 0)])]) ∧ σ.up.length = 2
def J_gates_Check_L0 (p0 : S_Circuit) (r1 : A4_Int) (r : (Unit) ⊕ (Int)) (e : Ex) (σ' : St) : Prop := (Sum.elim (fun o0 => e = (.exit 0) ∧ σ'.obj 2 0 = oB0 p0 ∧ σ'.obj 2 1 = oB2 r1.a0 r1.a1 r1.a2 r1.a3 ∧ σ'.obj 2 2 = some (.box [(.cl k_gates_Check_1 [(.ptr 0 1 0)])]) ∧ σ'.up.length = 2) (fun o1 => e = .ret ∧ σ'.get 4 = (.d true (.int .i64 o1)) ∧ σ'.obj 2 0 = oB0 p0 ∧ σ'.obj 2 1 = oB2 r1.a0 r1.a1 r1.a2 r1.a3 ∧ σ'.obj 2 2 = some (.box [(.cl k_gates_Check_1 [(.ptr 0 1 0)])]) ∧ σ'.up.length = 2)) r
theorem L_gates_Check_L0 (p0 : S_Circuit) (r1 : A4_Int) {s : Int} {r : (Unit) ⊕ (Int)} (h : Lp (b_gates_Check_L0 p0 r1) s = some r) {σ : St} {Q : Ex → St → Prop} (hI : I_gates_Check_L0 p0 r1 s σ) (hQ : ∀ e σ', J_gates_Check_L0 p0 r1 r e σ' → Q e σ') : WC env (.loop c_slices_IndexFunc_of_int_l1) σ Q :=
 WC_Lp (I_gates_Check_L0 p0 r1) (J_gates_Check_L0 p0 r1) (by
  clear h hI hQ
  clear s r σ Q
  intro s0 σ x hI h
  obtain ⟨f6, f7, f8, f9, f10, f11, f12, f13⟩ := hI
  unfold b_gates_Check_L0 at h
  replace h := itb h; rcases h with ⟨c4, h⟩ | ⟨c4, h⟩
  ·replace h := bsome h; obtain ⟨x3, H5, h⟩ := h
   have n0 := idx_n H5; have q0 := idx_q H5; have y0 := idx_x H5
   replace h := bsome h; obtain ⟨x4, H6, h⟩ := h
   try simp (maxDischargeDepth := 6) only [go_sem, c_slices_IndexFunc_of_int_l1, c_gates_Check_p2, c_slices_ContainsFunc_of_int_p1, clF_small (f := k_gates_Check_1) rfl, clA_small (f := k_gates_Check_1) rfl, fnV_small (E := env) (f := k_gates_Check_1) fn_gates_Check_1 rfl rfl, *]
   refine WC.mono (Q := fun e σ' => e = .normal ∧ σ'.get 3 = (.d true (.bool x4)) ∧ σ'.obj 3 0 = oB0 p0 ∧ σ'.obj 3 1 = oB2 r1.a0 r1.a1 r1.a2 r1.a3 ∧ σ'.obj 3 2 = some (.box [(.cl k_gates_Check_1 [(.ptr 0 1 0)])]) ∧ σ'.up.length = 3) ?_ ?_
   ·replace h := H6
    clear H6
    replace h := itb h; rcases h with ⟨c5, h⟩ | ⟨c5, h⟩
    ·cases h
     simp (maxDischargeDepth := 6) only [go_sem, c_slices_IndexFunc_of_int_l1, c_gates_Check_p2, c_slices_ContainsFunc_of_int_p1, clF_small (f := k_gates_Check_1) rfl, clA_small (f := k_gates_Check_1) rfl, fnV_small (E := env) (f := k_gates_Check_1) fn_gates_Check_1 rfl rfl, c_gates_Check_1_p1, *]
    ·cases h
     simp (maxDischargeDepth := 6) only [go_sem, c_slices_IndexFunc_of_int_l1, c_gates_Check_p2, c_slices_ContainsFunc_of_int_p1, clF_small (f := k_gates_Check_1) rfl, clA_small (f := k_gates_Check_1) rfl, fnV_small (E := env) (f := k_gates_Check_1) fn_gates_Check_1 rfl rfl, c_gates_Check_1_p1, (show ∀ (p : Bool) (k : IntKind), natOf 4 (.d p (.int k 3)) = some 3 from fun _ _ => rfl), *]
   ·intro e τ hJ
    obtain ⟨rfl, f14, f15, f16, f17, f18⟩ := hJ
    replace h := itb h; rcases h with ⟨c6, h⟩ | ⟨c6, h⟩
    ·cases h
     simp (maxDischargeDepth := 6) only [go_sem, LQ_inr, J_gates_Check_L0, c_slices_IndexFunc_of_int_l1, c_gates_Check_p2, c_slices_ContainsFunc_of_int_p1, clF_small (f := k_gates_Check_1) rfl, clA_small (f := k_gates_Check_1) rfl, fnV_small (E := env) (f := k_gates_Check_1) fn_gates_Check_1 rfl rfl, *]
    ·cases h
     simp (maxDischargeDepth := 6) only [go_sem, LQ_inl, I_gates_Check_L0, c_slices_IndexFunc_of_int_l1, c_gates_Check_p2, c_slices_ContainsFunc_of_int_p1, clF_small (f := k_gates_Check_1) rfl, clA_small (f := k_gates_Check_1) rfl, fnV_small (E := env) (f := k_gates_Check_1) fn_gates_Check_1 rfl rfl, *]
  ·cases h
   simp only [go_sem, LQ_inr, J_gates_Check_L0, c_slices_IndexFunc_of_int_l1, c_gates_Check_p2, c_slices_ContainsFunc_of_int_p1, *]
) h hI hQ
def b_gates_Check_L1 (p0 : S_Circuit) (r1 : A4_Int) (s1 : Int) : Option ((Int) ⊕ ((Unit) ⊕ (Int))) :=
 if (decide (s1 < (p0.Constraints.length : Int))) = true then
  (idx p0.Constraints s1).bind fun x5 =>
  (if (decide (x5 < 0)) = true then
    some true
   else
    some (decide ((shrI .i64 x5 1) ≥ r1.a3))).bind fun x6 =>
  if x6 = true then
   some (Sum.inr (Sum.inr s1))
  else
   some (Sum.inl (IntKind.wrap .i64 (s1 + 1)))
 else
  some (Sum.inr (Sum.inl ()))
def I_gates_Check_L1 (p0 : S_Circuit) (r1 : A4_Int) (s1 : Int) (σ : St) : Prop := σ.get 0 = (.d false (.lst 1 (p0.Constraints.map eI))) ∧ σ.get 1 = (.cl k_gates_Check_1 [(.ptr 2 1 0)]) ∧ σ.get 7 = (.d true (.int .i64 (p0.Constraints.length : Int))) ∧ σ.get 8 = (.d true (.int .i64 s1)) ∧ σ.obj 2 0 = oB0 p0 ∧ σ.obj 2 1 = oB2 r1.a0 r1.a1 r1.a2 r1.a3 ∧ σ.obj 2 2 = some (.box [(.cl k_gates_Check_1 [(.ptr 0 1 0)])]) ∧ σ.up.length = 2
def J_gates_Check_L1 (p0 : S_Circuit) (r1 : A4_Int) (r : (Unit) ⊕ (Int)) (e : Ex) (σ' : St) : Prop := (Sum.elim (fun o0 => e = (.exit 0) ∧ σ'.obj 2 0 = oB0 p0 ∧ σ'.obj 2 1 = oB2 r1.a0 r1.a1 r1.a2 r1.a3 ∧ σ'.obj 2 2 = some (.box [(.cl k_gates_Check_1 [(.ptr 0 1 0)])]) ∧ σ'.up.length = 2) (fun o1 => e = .ret ∧ σ'.get 4 = (.d true (.int .i64 o1)) ∧ σ'.obj 2 0 = oB0 p0 ∧ σ'.obj 2 1 = oB2 r1.a0 r1.a1 r1.a2 r1.a3 ∧ σ'.obj 2 2 = some (.box [(.cl k_gates_Check_1 [(.ptr 0 1 0)])]) ∧ σ'.up.length = 2)) r
theorem L_gates_Check_L1 (p0 : S_Circuit) (r1 : A4_Int) {s : Int} {r : (Unit) ⊕ (Int)} (h : Lp (b_gates_Check_L1 p0 r1) s = some r) {σ : St} {Q : Ex → St → Prop} (hI : I_gates_Check_L1 p0 r1 s σ) (hQ : ∀ e σ', J_gates_Check_L1 p0 r1 r e σ' → Q e σ') : WC env (.loop c_slices_IndexFunc_of_int_l1) σ Q :=
 WC_Lp (I_gates_Check_L1 p0 r1) (J_gates_Check_L1 p0 r1) (by
  clear h hI hQ
  clear s r σ Q
  intro s1 σ x hI h
  obtain ⟨f20, f21, f22, f23, f24, f25, f26, f27⟩ := hI
  unfold b_gates_Check_L1 at h
  replace h := itb h; rcases h with ⟨c5, h⟩ | ⟨c5, h⟩
  ·replace h := bsome h; obtain ⟨x5, H7, h⟩ := h
   have n0 := idx_n H7; have q0 := idx_q H7; have y0 := idx_x H7
   replace h := bsome h; obtain ⟨x6, H8, h⟩ := h
   try simp (maxDischargeDepth := 6) only [go_sem, c_slices_IndexFunc_of_int_l1, c_gates_Check_p2, c_slices_ContainsFunc_of_int_p1, clF_small (f := k_gates_Check_1) rfl, clA_small (f := k_gates_Check_1) rfl, fnV_small (E := env) (f := k_gates_Check_1) fn_gates_Check_1 rfl rfl, *]
   refine WC.mono (Q := fun e σ' => e = .normal ∧ σ'.get 3 = (.d true (.bool x6)) ∧ σ'.obj 3 0 = oB0 p0 ∧ σ'.obj 3 1 = oB2 r1.a0 r1.a1 r1.a2 r1.a3 ∧ σ'.obj 3 2 = some (.box [(.cl k_gates_Check_1 [(.ptr 0 1 0)])]) ∧ σ'.up.length = 3) ?_ ?_
   ·replace h := H8
    clear H8
    replace h := itb h; rcases h with ⟨c6, h⟩ | ⟨c6, h⟩
    ·cases h
     simp (maxDischargeDepth := 6) only [go_sem, c_slices_IndexFunc_of_int_l1, c_gates_Check_p2, c_slices_ContainsFunc_of_int_p1, clF_small (f := k_gates_Check_1) rfl, clA_small (f := k_gates_Check_1) rfl, fnV_small (E := env) (f := k_gates_Check_1) fn_gates_Check_1 rfl rfl, c_gates_Check_1_p1, *]
    ·cases h
     simp (maxDischargeDepth := 6) only [go_sem, c_slices_IndexFunc_of_int_l1, c_gates_Check_p2, c_slices_ContainsFunc_of_int_p1, clF_small (f := k_gates_Check_1) rfl, clA_small (f := k_gates_Check_1) rfl, fnV_small (E := env) (f := k_gates_Check_1) fn_gates_Check_1 rfl rfl, c_gates_Check_1_p1, (show ∀ (p : Bool) (k : IntKind), natOf 4 (.d p (.int k 3)) = some 3 from fun _ _ => rfl), *]
   ·intro e τ hJ
    obtain ⟨rfl, f28, f29, f30, f31, f32⟩ := hJ
    replace h := itb h; rcases h with ⟨c7, h⟩ | ⟨c7, h⟩
    ·cases h
     simp (maxDischargeDepth := 6) only [go_sem, LQ_inr, J_gates_Check_L1, c_slices_IndexFunc_of_int_l1, c_gates_Check_p2, c_slices_ContainsFunc_of_int_p1, clF_small (f := k_gates_Check_1) rfl, clA_small (f := k_gates_Check_1) rfl, fnV_small (E := env) (f := k_gates_Check_1) fn_gates_Check_1 rfl rfl, *]
    ·cases h
     simp (maxDischargeDepth := 6) only [go_sem, LQ_inl, I_gates_Check_L1, c_slices_IndexFunc_of_int_l1, c_gates_Check_p2, c_slices_ContainsFunc_of_int_p1, clF_small (f := k_gates_Check_1) rfl, clA_small (f := k_gates_Check_1) rfl, fnV_small (E := env) (f := k_gates_Check_1) fn_gates_Check_1 rfl rfl, *]
  ·cases h
   simp only [go_sem, LQ_inr, J_gates_Check_L1, c_slices_IndexFunc_of_int_l1, c_gates_Check_p2, c_slices_ContainsFunc_of_int_p1, *]
) h hI hQ
def b_gates_Check_L2 (p0 : S_Circuit) (r1 : A4_Int) (s2 : Int) : Option ((Int) ⊕ ((Unit) ⊕ (Int))) :=
 if (decide (s2 < (p0.Latches.length : Int))) = true then
  (idx p0.Latches s2).bind fun x7 =>
  ((if (decide (x7.Next < 0)) = true then
     some true
    else
     some (decide ((shrI .i64 x7.Next 1) ≥ r1.a3))).bind fun x9 =>
   if x9 = true then
    some true
   else
    if (decide (x7.Reset < 0)) = true then
     some true
    else
     some (decide (x7.Reset > 2))).bind fun x8 =>
  if x8 = true then
   some (Sum.inr (Sum.inr s2))
  else
   some (Sum.inl (IntKind.wrap .i64 (s2 + 1)))
 else
  some (Sum.inr (Sum.inl ()))
def I_gates_Check_L2 (p0 : S_Circuit) (r1 : A4_Int) (s2 : Int) (σ : St) : Prop := σ.get 0 = (.d false (.lst 2 (p0.Latches.map eS_Latch))) ∧ σ.get 1 = (.cl k_gates_Check_2 [(.ptr 2 2 0)]) ∧ σ.get 7 = (.d true (.int .i64 (p0.Latches.length : Int))) ∧ σ.get 8 = (.d true (.int .i64 s2)) ∧ σ.obj 2 0 = oB0 p0 ∧ σ.obj 2 1 = oB2 r1.a0 r1.a1 r1.a2 r1.a3 ∧ σ.obj 2 2 = some (.box [(.cl k_gates_Check_1 [(.ptr 0 1 0)])]) ∧ σ.up.length = 2
def J_gates_Check_L2 (p0 : S_Circuit) (r1 : A4_Int) (r : (Unit) ⊕ (Int)) (e : Ex) (σ' : St) : Prop := (Sum.elim (fun o0 => e = (.exit 0) ∧ σ'.obj 2 0 = oB0 p0 ∧ σ'.obj 2 1 = oB2 r1.a0 r1.a1 r1.a2 r1.a3 ∧ σ'.up.length = 2) (fun o1 => e = .ret ∧ σ'.get 4 = (.d true (.int .i64 o1)) ∧ σ'.obj 2 0 = oB0 p0 ∧ σ'.obj 2 1 = oB2 r1.a0 r1.a1 r1.a2 r1.a3 ∧ σ'.up.length = 2)) r
theorem L_gates_Check_L2 (p0 : S_Circuit) (r1 : A4_Int) {s : Int} {r : (Unit) ⊕ (Int)} (h : Lp (b_gates_Check_L2 p0 r1) s = some r) {σ : St} {Q : Ex → St → Prop} (hI : I_gates_Check_L2 p0 r1 s σ) (hQ : ∀ e σ', J_gates_Check_L2 p0 r1 r e σ' → Q e σ') : WC env (.loop c_slices_IndexFunc_of_api_Latch_l1) σ Q :=
 WC_Lp (I_gates_Check_L2 p0 r1) (J_gates_Check_L2 p0 r1) (by
  clear h hI hQ
  clear s r σ Q
  intro s2 σ x hI h
  obtain ⟨f34, f35, f36, f37, f38, f39, f40, f41⟩ := hI
  unfold b_gates_Check_L2 at h
  replace h := itb h; rcases h with ⟨c6, h⟩ | ⟨c6, h⟩
  ·replace h := bsome h; obtain ⟨x7, H9, h⟩ := h
   have n0 := idx_n H9; have q0 := idx_q H9; have y0 := idx_x H9
   replace h := bsome h; obtain ⟨x8, H10, h⟩ := h
   try simp (maxDischargeDepth := 6) only [go_sem, c_slices_IndexFunc_of_api_Latch_l1, c_gates_Check_p2, c_slices_ContainsFunc_of_api_Latch_p1, clF_small (f := k_gates_Check_2) rfl, clA_small (f := k_gates_Check_2) rfl, fnV_small (E := env) (f := k_gates_Check_2) fn_gates_Check_2 rfl rfl, *]
   refine WC.mono (Q := fun e σ' => e = .normal ∧ σ'.get 3 = (.d true (.bool x8)) ∧ σ'.obj 3 0 = oB0 p0 ∧ σ'.obj 3 1 = oB2 r1.a0 r1.a1 r1.a2 r1.a3 ∧ σ'.obj 3 2 = some (.box [(.cl k_gates_Check_1 [(.ptr 0 1 0)])]) ∧ σ'.up.length = 3) ?_ ?_
   ·replace h := H10
    clear H10
    replace h := bsome h; obtain ⟨x9, H11, h⟩ := h
    try simp (maxDischargeDepth := 6) only [go_sem, c_slices_IndexFunc_of_api_Latch_l1, c_gates_Check_p2, c_slices_ContainsFunc_of_api_Latch_p1, clF_small (f := k_gates_Check_2) rfl, clA_small (f := k_gates_Check_2) rfl, fnV_small (E := env) (f := k_gates_Check_2) fn_gates_Check_2 rfl rfl, c_gates_Check_2_p1, clF_small (f := k_gates_Check_1) rfl, clA_small (f := k_gates_Check_1) rfl, fnV_small (E := env) (f := k_gates_Check_1) fn_gates_Check_1 rfl rfl, *]
    refine WC.mono (Q := fun e σ' => e = .normal ∧ σ'.get 3 = (.d true (.bool x9)) ∧ σ'.obj 4 0 = oB0 p0 ∧ σ'.obj 4 1 = oB2 r1.a0 r1.a1 r1.a2 r1.a3 ∧ σ'.obj 4 2 = some (.box [(.cl k_gates_Check_1 [(.ptr 0 1 0)])]) ∧ σ'.obj 1 0 = oB3 x7 ∧ σ'.up.length = 4) ?_ ?_
    ·replace h := H11
     clear H11
     replace h := itb h; rcases h with ⟨c7, h⟩ | ⟨c7, h⟩
     ·cases h
      simp (maxDischargeDepth := 6) only [go_sem, c_slices_IndexFunc_of_api_Latch_l1, c_gates_Check_p2, c_slices_ContainsFunc_of_api_Latch_p1, clF_small (f := k_gates_Check_2) rfl, clA_small (f := k_gates_Check_2) rfl, fnV_small (E := env) (f := k_gates_Check_2) fn_gates_Check_2 rfl rfl, c_gates_Check_2_p1, clF_small (f := k_gates_Check_1) rfl, clA_small (f := k_gates_Check_1) rfl, fnV_small (E := env) (f := k_gates_Check_1) fn_gates_Check_1 rfl rfl, c_gates_Check_1_p1, *]
     ·cases h
      simp (maxDischargeDepth := 6) only [go_sem, c_slices_IndexFunc_of_api_Latch_l1, c_gates_Check_p2, c_slices_ContainsFunc_of_api_Latch_p1, clF_small (f := k_gates_Check_2) rfl, clA_small (f := k_gates_Check_2) rfl, fnV_small (E := env) (f := k_gates_Check_2) fn_gates_Check_2 rfl rfl, c_gates_Check_2_p1, clF_small (f := k_gates_Check_1) rfl, clA_small (f := k_gates_Check_1) rfl, fnV_small (E := env) (f := k_gates_Check_1) fn_gates_Check_1 rfl rfl, c_gates_Check_1_p1, (show ∀ (p : Bool) (k : IntKind), natOf 4 (.d p (.int k 3)) = some 3 from fun _ _ => rfl), *]
    ·intro e τ hJ
     obtain ⟨rfl, f42, f43, f44, f45, f46, f47⟩ := hJ
     replace h := itb h; rcases h with ⟨c8, h⟩ | ⟨c8, h⟩
     ·cases h
      simp (maxDischargeDepth := 6) only [go_sem, c_slices_IndexFunc_of_api_Latch_l1, c_gates_Check_p2, c_slices_ContainsFunc_of_api_Latch_p1, clF_small (f := k_gates_Check_2) rfl, clA_small (f := k_gates_Check_2) rfl, fnV_small (E := env) (f := k_gates_Check_2) fn_gates_Check_2 rfl rfl, c_gates_Check_2_p1, clF_small (f := k_gates_Check_1) rfl, clA_small (f := k_gates_Check_1) rfl, fnV_small (E := env) (f := k_gates_Check_1) fn_gates_Check_1 rfl rfl, *]
     ·replace h := itb h; rcases h with ⟨c9, h⟩ | ⟨c9, h⟩
      ·cases h
       simp (maxDischargeDepth := 6) only [go_sem, c_slices_IndexFunc_of_api_Latch_l1, c_gates_Check_p2, c_slices_ContainsFunc_of_api_Latch_p1, clF_small (f := k_gates_Check_2) rfl, clA_small (f := k_gates_Check_2) rfl, fnV_small (E := env) (f := k_gates_Check_2) fn_gates_Check_2 rfl rfl, c_gates_Check_2_p1, clF_small (f := k_gates_Check_1) rfl, clA_small (f := k_gates_Check_1) rfl, fnV_small (E := env) (f := k_gates_Check_1) fn_gates_Check_1 rfl rfl, *]
      ·cases h
       simp (maxDischargeDepth := 6) only [go_sem, c_slices_IndexFunc_of_api_Latch_l1, c_gates_Check_p2, c_slices_ContainsFunc_of_api_Latch_p1, clF_small (f := k_gates_Check_2) rfl, clA_small (f := k_gates_Check_2) rfl, fnV_small (E := env) (f := k_gates_Check_2) fn_gates_Check_2 rfl rfl, c_gates_Check_2_p1, clF_small (f := k_gates_Check_1) rfl, clA_small (f := k_gates_Check_1) rfl, fnV_small (E := env) (f := k_gates_Check_1) fn_gates_Check_1 rfl rfl, *]
   ·intro e τ hJ
    obtain ⟨rfl, f48, f49, f50, f51, f52⟩ := hJ
    replace h := itb h; rcases h with ⟨c10, h⟩ | ⟨c10, h⟩
    ·cases h
     simp (maxDischargeDepth := 6) only [go_sem, LQ_inr, J_gates_Check_L2, c_slices_IndexFunc_of_api_Latch_l1, c_gates_Check_p2, c_slices_ContainsFunc_of_api_Latch_p1, clF_small (f := k_gates_Check_2) rfl, clA_small (f := k_gates_Check_2) rfl, fnV_small (E := env) (f := k_gates_Check_2) fn_gates_Check_2 rfl rfl, *]
    ·cases h
     simp (maxDischargeDepth := 6) only [go_sem, LQ_inl, I_gates_Check_L2, c_slices_IndexFunc_of_api_Latch_l1, c_gates_Check_p2, c_slices_ContainsFunc_of_api_Latch_p1, clF_small (f := k_gates_Check_2) rfl, clA_small (f := k_gates_Check_2) rfl, fnV_small (E := env) (f := k_gates_Check_2) fn_gates_Check_2 rfl rfl, *]
  ·cases h
   simp only [go_sem, LQ_inr, J_gates_Check_L2, c_slices_IndexFunc_of_api_Latch_l1, c_gates_Check_p2, c_slices_ContainsFunc_of_api_Latch_p1, *]
) h hI hQ
def b_gates_Check_L3 (p0 : S_Circuit) (r1 : A4_Int) (s3 : Int) : Option ((Int) ⊕ ((Unit) ⊕ (Unit))) :=
 if (decide (s3 < (p0.Ands.length : Int))) = true then
  (idx p0.Ands s3).bind fun x8 =>
  (if (decide (x8.B < 0)) = true then
    some true
   else
    if (decide (x8.A < x8.B)) = true then
     some true
    else
     some (decide (x8.A ≥ (IntKind.wrap .i64 (2 * (IntKind.wrap .i64 (r1.a2 + s3))))))).bind fun x9 =>
  if x9 = true then
   some (Sum.inr (Sum.inr ()))
  else
   some (Sum.inl (IntKind.wrap .i64 (s3 + 1)))
 else
  some (Sum.inr (Sum.inl ()))
def I_gates_Check_L3 (p0 : S_Circuit) (r1 : A4_Int) (s3 : Int) (σ : St) : Prop := σ.get 3 = (.ptr 0 1 0) ∧ σ.get 52 = (.d false (.lst 2 (p0.Ands.map eS_And))) ∧ σ.get 53 = (.d true (.int .i64 (p0.Ands.length : Int))) ∧ σ.get 54 = (.d true (.int .i64 s3)) ∧ σ.obj 0 1 = oB2 r1.a0 r1.a1 r1.a2 r1.a3 ∧ σ.up.length = 0
def J_gates_Check_L3 (p0 : S_Circuit) (r1 : A4_Int) (r : (Unit) ⊕ (Unit)) (e : Ex) (σ' : St) : Prop := (Sum.elim (fun o0 => e = (.exit 0) ∧ σ'.up.length = 0) (fun o1 => e = .ret ∧ σ'.get 2 = (.d true (.int .i64 8)) ∧ σ'.up.length = 0)) r
theorem L_gates_Check_L3 (p0 : S_Circuit) (r1 : A4_Int) {s : Int} {r : (Unit) ⊕ (Unit)} (h : Lp (b_gates_Check_L3 p0 r1) s = some r) {σ : St} {Q : Ex → St → Prop} (hI : I_gates_Check_L3 p0 r1 s σ) (hQ : ∀ e σ', J_gates_Check_L3 p0 r1 r e σ' → Q e σ') : WC env (.loop c_gates_Check_l1) σ Q :=
 WC_Lp (I_gates_Check_L3 p0 r1) (J_gates_Check_L3 p0 r1) (by
  clear h hI hQ
  clear s r σ Q
  intro s3 σ x hI h
  obtain ⟨f51, f52, f53, f54, f55, f56⟩ := hI
  unfold b_gates_Check_L3 at h
  replace h := itb h; rcases h with ⟨c7, h⟩ | ⟨c7, h⟩
  ·replace h := bsome h; obtain ⟨x8, H10, h⟩ := h
   have n0 := idx_n H10; have q0 := idx_q H10; have y0 := idx_x H10
   replace h := bsome h; obtain ⟨x9, H11, h⟩ := h
   try simp only [go_sem, c_gates_Check_l1, *]
   refine WC.mono (Q := fun e σ' => e = .normal ∧ σ'.get 3 = (.ptr 0 1 0) ∧ σ'.get 52 = (.d false (.lst 2 (p0.Ands.map eS_And))) ∧ σ'.get 53 = (.d true (.int .i64 (p0.Ands.length : Int))) ∧ σ'.get 54 = (.d true (.int .i64 s3)) ∧ σ'.get 78 = (.d true (.bool x9)) ∧ σ'.obj 0 1 = oB2 r1.a0 r1.a1 r1.a2 r1.a3 ∧ σ'.up.length = 0) ?_ ?_
   ·replace h := H11
    clear H11
    replace h := itb h; rcases h with ⟨c8, h⟩ | ⟨c8, h⟩
    ·cases h
     simp only [go_sem, c_gates_Check_l1, c_gates_Check_p3, *]
    ·replace h := itb h; rcases h with ⟨c9, h⟩ | ⟨c9, h⟩
     ·cases h
      simp only [go_sem, c_gates_Check_l1, c_gates_Check_p3, *]
     ·cases h
      simp only [go_sem, c_gates_Check_l1, c_gates_Check_p3, (show ∀ (p : Bool) (k : IntKind), natOf 4 (.d p (.int k 2)) = some 2 from fun _ _ => rfl), *]
   ·intro e τ hJ
    obtain ⟨rfl, f57, f58, f59, f60, f61, f62, f63⟩ := hJ
    replace h := itb h; rcases h with ⟨c10, h⟩ | ⟨c10, h⟩
    ·cases h
     simp only [go_sem, LQ_inr, J_gates_Check_L3, c_gates_Check_l1, *]
    ·cases h
     simp only [go_sem, LQ_inl, I_gates_Check_L3, c_gates_Check_l1, *]
  ·cases h
   simp only [go_sem, LQ_inr, J_gates_Check_L3, c_gates_Check_l1, *]
) h hI hQ
noncomputable def s_gates_Check (p0 : S_Circuit) : Option (Int) :=
 if (decide (p0.Inputs < 0)) = true then
  some 8
 else
  (if (decide (p0.Inputs > 1000)) = true then
    some true
   else
    (s_gates_starts p0).bind fun r0 =>
    if (decide ((IntKind.wrap .i64 (r0.a3 - 1)) > 1000)) = true then
     some true
    else
     some (decide ((mxI (p0.Bads.length : Int) (p0.Constraints.length : Int)) > 100))).bind fun x0 =>
  if x0 = true then
   some 4
  else
   (s_gates_starts p0).bind fun r1 =>
   (((Lp (b_gates_Check_L0 p0 r1) 0).bind fun x3 =>
     match x3 with
     | .inl x3' =>
      some (decide ((-1) ≥ 0))
     | .inr x3' =>
      some (decide (x3' ≥ 0))).bind fun x2 =>
    if x2 = true then
     some true
    else
     ((Lp (b_gates_Check_L1 p0 r1) 0).bind fun x5 =>
      match x5 with
      | .inl x5' =>
       some (decide ((-1) ≥ 0))
      | .inr x5' =>
       some (decide (x5' ≥ 0))).bind fun x4 =>
     if x4 = true then
      some true
     else
      ((Lp (b_gates_Check_L2 p0 r1) 0).bind fun x7 =>
       match x7 with
       | .inl x7' =>
        some (decide ((-1) ≥ 0))
       | .inr x7' =>
        some (decide (x7' ≥ 0))).bind fun x6 =>
      some x6).bind fun x1 =>
   if x1 = true then
    some 8
   else
    (Lp (b_gates_Check_L3 p0 r1) 0).bind fun x8 =>
    match x8 with
    | .inl x8' =>
     some 0
    | .inr x8' =>
     some 8
theorem s_gates_Check_ok {p0 : S_Circuit} {r : Int} (h : s_gates_Check p0 = some r) : Ans env k_gates_Check [(.ag [(.d true (.int .i64 p0.Inputs)), (.d false (.lst 2 (p0.Latches.map eS_Latch))), (.d false (.lst 2 (p0.Ands.map eS_And))), (.d false (.lst 1 (p0.Bads.map eI))), (.d false (.lst 1 (p0.Constraints.map eI)))])] (.d true (.int .i64 r)) := by
 unfold s_gates_Check at h
 unfold Ans
 rw [AtF fn_gates_Check]
 simp only [n_gates_Check]
 replace h := itb h; rcases h with ⟨c0, h⟩ | ⟨c0, h⟩
 ·cases h
  simp only [go_sem, *]
  exact ⟨_, rfl⟩
 ·replace h := bsome h; obtain ⟨x0, H0, h⟩ := h
  try simp only [go_sem, *]
  refine WC.mono (Q := fun e σ' => e = .normal ∧ σ'.get 1 = (.ptr 0 0 0) ∧ σ'.get 30 = (.d true (.bool x0)) ∧ σ'.obj 0 0 = oB0 p0 ∧ σ'.obj 0 1 = none ∧ σ'.obj 0 2 = none ∧ σ'.up.length = 0) ?_ ?_
  ·replace h := H0
   clear H0
   replace h := itb h; rcases h with ⟨c1, h⟩ | ⟨c1, h⟩
   ·cases h
    simp only [go_sem, c_gates_Check_p1, *]
   ·replace h := bsome h; obtain ⟨r0, H1, h⟩ := h
    have k0 := AtCall_all (s_gates_starts_ok H1); try dsimp only at k0
    replace h := itb h; rcases h with ⟨c2, h⟩ | ⟨c2, h⟩
    ·cases h
     simp only [go_sem, c_gates_Check_p1, (show ∀ (p : Bool) (k : IntKind), natOf 4 (.d p (.int k 3)) = some 3 from fun _ _ => rfl), *]
    ·cases h
     simp only [go_sem, c_gates_Check_p1, (show ∀ (p : Bool) (k : IntKind), natOf 4 (.d p (.int k 3)) = some 3 from fun _ _ => rfl), *]
  ·intro e τ hJ
   obtain ⟨rfl, f0, f1, f2, f3, f4, f5⟩ := hJ
   replace h := itb h; rcases h with ⟨c3, h⟩ | ⟨c3, h⟩
   ·cases h
    simp only [go_sem, *]
    exact ⟨_, rfl⟩
   ·replace h := bsome h; obtain ⟨r1, H2, h⟩ := h
    have k1 := AtCall_all (s_gates_starts_ok H2); try dsimp only at k1
    replace h := bsome h; obtain ⟨x1, H3, h⟩ := h
    try simp only [go_sem, *]
    refine WC.mono (Q := fun e σ' => e = .normal ∧ σ'.get 1 = (.ptr 0 0 0) ∧ σ'.get 3 = (.ptr 0 1 0) ∧ σ'.get 50 = (.d true (.bool x1)) ∧ σ'.obj 0 0 = oB0 p0 ∧ σ'.obj 0 1 = oB2 r1.a0 r1.a1 r1.a2 r1.a3 ∧ σ'.up.length = 0) ?_ ?_
    ·replace h := H3
     clear H3
     replace h := bsome h; obtain ⟨x2, H4, h⟩ := h
     try simp only [go_sem, c_gates_Check_p2, *]
     refine WC.mono (Q := fun e σ' => e = .normal ∧ σ'.get 4 = (.d true (.bool x2)) ∧ σ'.obj 1 0 = oB0 p0 ∧ σ'.obj 1 1 = oB2 r1.a0 r1.a1 r1.a2 r1.a3 ∧ σ'.obj 1 2 = some (.box [(.cl k_gates_Check_1 [(.ptr 0 1 0)])]) ∧ σ'.up.length = 1) ?_ ?_
     ·replace h := H4
      clear H4
      replace h := bsome h; obtain ⟨x3, H5, h⟩ := h
      try simp only [go_sem, c_gates_Check_p2, c_slices_ContainsFunc_of_int_p1, *]
      refine L_gates_Check_L0 p0 r1 H5 ?_ ?_
      ·clear h
       simp only [go_sem, I_gates_Check_L0, c_gates_Check_p2, c_slices_ContainsFunc_of_int_p1, *]
      ·intro e τ hJ
       rcases x3 with x3' | x3'
       ·obtain ⟨rfl, f6, f7, f8, f9⟩ := hJ
        cases h
        simp only [go_sem, c_gates_Check_p2, c_slices_ContainsFunc_of_int_p1, *]
       ·obtain ⟨rfl, f10, f11, f12, f13, f14⟩ := hJ
        cases h
        simp only [go_sem, c_gates_Check_p2, c_slices_ContainsFunc_of_int_p1, *]
     ·intro e τ hJ
      obtain ⟨rfl, f15, f16, f17, f18, f19⟩ := hJ
      replace h := itb h; rcases h with ⟨c4, h⟩ | ⟨c4, h⟩
      ·cases h
       simp only [go_sem, c_gates_Check_p2, *]
      ·replace h := bsome h; obtain ⟨x4, H6, h⟩ := h
       try simp only [go_sem, c_gates_Check_p2, *]
       refine WC.mono (Q := fun e σ' => e = .normal ∧ σ'.get 4 = (.d true (.bool x4)) ∧ σ'.obj 1 0 = oB0 p0 ∧ σ'.obj 1 1 = oB2 r1.a0 r1.a1 r1.a2 r1.a3 ∧ σ'.obj 1 2 = some (.box [(.cl k_gates_Check_1 [(.ptr 0 1 0)])]) ∧ σ'.up.length = 1) ?_ ?_
       ·replace h := H6
        clear H6
        replace h := bsome h; obtain ⟨x5, H7, h⟩ := h
        try simp only [go_sem, c_gates_Check_p2, c_slices_ContainsFunc_of_int_p1, *]
        refine L_gates_Check_L1 p0 r1 H7 ?_ ?_
        ·clear h
         simp only [go_sem, I_gates_Check_L1, c_gates_Check_p2, c_slices_ContainsFunc_of_int_p1, *]
        ·intro e τ hJ
         rcases x5 with x5' | x5'
         ·obtain ⟨rfl, f20, f21, f22, f23⟩ := hJ
          cases h
          simp only [go_sem, c_gates_Check_p2, c_slices_ContainsFunc_of_int_p1, *]
         ·obtain ⟨rfl, f24, f25, f26, f27, f28⟩ := hJ
          cases h
          simp only [go_sem, c_gates_Check_p2, c_slices_ContainsFunc_of_int_p1, *]
       ·intro e τ hJ
        obtain ⟨rfl, f29, f30, f31, f32, f33⟩ := hJ
        replace h := itb h; rcases h with ⟨c5, h⟩ | ⟨c5, h⟩
        ·cases h
         simp only [go_sem, c_gates_Check_p2, *]
        ·replace h := bsome h; obtain ⟨x6, H8, h⟩ := h
         try simp only [go_sem, c_gates_Check_p2, *]
         refine WC.mono (Q := fun e σ' => e = .normal ∧ σ'.get 4 = (.d true (.bool x6)) ∧ σ'.obj 1 0 = oB0 p0 ∧ σ'.obj 1 1 = oB2 r1.a0 r1.a1 r1.a2 r1.a3 ∧ σ'.up.length = 1) ?_ ?_
         ·replace h := H8
          clear H8
          replace h := bsome h; obtain ⟨x7, H9, h⟩ := h
          try simp only [go_sem, c_gates_Check_p2, c_slices_ContainsFunc_of_api_Latch_p1, *]
          refine L_gates_Check_L2 p0 r1 H9 ?_ ?_
          ·clear h
           simp only [go_sem, I_gates_Check_L2, c_gates_Check_p2, c_slices_ContainsFunc_of_api_Latch_p1, *]
          ·intro e τ hJ
           rcases x7 with x7' | x7'
           ·obtain ⟨rfl, f34, f35, f36⟩ := hJ
            cases h
            simp only [go_sem, c_gates_Check_p2, c_slices_ContainsFunc_of_api_Latch_p1, *]
           ·obtain ⟨rfl, f37, f38, f39, f40⟩ := hJ
            cases h
            simp only [go_sem, c_gates_Check_p2, c_slices_ContainsFunc_of_api_Latch_p1, *]
         ·intro e τ hJ
          obtain ⟨rfl, f41, f42, f43, f44⟩ := hJ
          cases h
          simp only [go_sem, c_gates_Check_p2, *]
    ·intro e τ hJ
     obtain ⟨rfl, f45, f46, f47, f48, f49, f50⟩ := hJ
     replace h := itb h; rcases h with ⟨c6, h⟩ | ⟨c6, h⟩
     ·cases h
      simp only [go_sem, *]
      exact ⟨_, rfl⟩
     ·replace h := bsome h; obtain ⟨x8, H10, h⟩ := h
      try simp only [go_sem, *]
      refine L_gates_Check_L3 p0 r1 H10 ?_ ?_
      ·clear h
       simp only [go_sem, I_gates_Check_L3, *]
      ·intro e τ hJ
       rcases x8 with x8' | x8'
       ·obtain ⟨rfl, f51⟩ := hJ
        cases h
        simp only [go_sem, *]
        exact ⟨_, rfl⟩
       ·obtain ⟨rfl, f52, f53⟩ := hJ
        cases h
        simp only [go_sem, *]
        exact ⟨_, rfl⟩
def s_clause_known (p0 : Int) (p1 : Int) : Option (Bool) :=
 (if (decide (p1 ≥ 2)) = true then
   some (decide ((IntKind.wrap .i64 (Int.tdiv p1 2)) ≤ p0))
  else
   some false).bind fun x0 =>
 some x0
theorem s_clause_known_ok {p0 : Int} {p1 : Int} {r : Bool} (h : s_clause_known p0 p1 = some r) : Ans env k_clause_known [(.d true (.int .i64 p0)), (.d true (.int .i64 p1))] (.d true (.bool r)) := by
 unfold s_clause_known at h
 unfold Ans
 rw [AtF fn_clause_known]
 simp only [n_clause_known]
 replace h := bsome h; obtain ⟨x0, H0, h⟩ := h
 try simp only [go_sem, *]
 refine WC.mono (Q := fun e σ' => e = .normal ∧ σ'.get 4 = (.d true (.bool x0)) ∧ σ'.up.length = 0) ?_ ?_
 ·replace h := H0
  clear H0
  replace h := itb h; rcases h with ⟨c0, h⟩ | ⟨c0, h⟩
  ·cases h
   simp only [go_sem, c_clause_known_p1, *]
  ·cases h
   simp only [go_sem, c_clause_known_p1, *]
 ·intro e τ hJ
  obtain ⟨rfl, f0, f1⟩ := hJ
  cases h
  simp only [go_sem, *]
  exact ⟨_, rfl⟩
noncomputable def b_clause_Check_L0 (p0 : Int) (p1 : (List Int)) (s0 : Int) : Option ((Int) ⊕ ((Unit) ⊕ (Unit))) :=
 if (decide (s0 < (p1.length : Int))) = true then
  (idx p1 s0).bind fun x1 =>
  ((s_clause_known p0 x1).bind fun r0 =>
   if r0 = true then
    if (decide (s0 > 0)) = true then
     (idx p1 (IntKind.wrap .i64 (s0 - 1))).bind fun x3 =>
     if (decide (x1 ≤ x3)) = true then
      some true
     else
      some ((IntKind.wrap .i64 (Int.tdiv x1 2)) == (IntKind.wrap .i64 (Int.tdiv x3 2)))
    else
     some false
   else
    some true).bind fun x2 =>
  if x2 = true then
   some (Sum.inr (Sum.inr ()))
  else
   some (Sum.inl (IntKind.wrap .i64 (s0 + 1)))
 else
  some (Sum.inr (Sum.inl ()))
def I_clause_Check_L0 (p0 : Int) (p1 : (List Int)) (s0 : Int) (σ : St) : Prop := σ.get 0 = (.d true (.int .i64 p0)) ∧ σ.get 1 = (.d false (.lst 1 (p1.map eI))) ∧ σ.get 13 = (.d false (.lst 1 (p1.map eI))) ∧ σ.get 14 = (.d true (.int .i64 (p1.length : Int))) ∧ σ.get 15 = (.d true (.int .i64 s0)) ∧ σ.up.length = 0
def J_clause_Check_L0 (p0 : Int) (p1 : (List Int)) (r : (Unit) ⊕ (Unit)) (e : Ex) (σ' : St) : Prop := (Sum.elim (fun o0 => e = (.exit 0) ∧ σ'.up.length = 0) (fun o1 => e = .ret ∧ σ'.get 4 = (.d true (.int .i64 8)) ∧ σ'.up.length = 0)) r
theorem L_clause_Check_L0 (p0 : Int) (p1 : (List Int)) {s : Int} {r : (Unit) ⊕ (Unit)} (h : Lp (b_clause_Check_L0 p0 p1) s = some r) {σ : St} {Q : Ex → St → Prop} (hI : I_clause_Check_L0 p0 p1 s σ) (hQ : ∀ e σ', J_clause_Check_L0 p0 p1 r e σ' → Q e σ') : WC env (.loop c_clause_Check_l1) σ Q :=
 WC_Lp (I_clause_Check_L0 p0 p1) (J_clause_Check_L0 p0 p1) (by
  clear h hI hQ
  clear s r σ Q
  intro s0 σ x hI h
  obtain ⟨f4, f5, f6, f7, f8, f9⟩ := hI
  unfold b_clause_Check_L0 at h
  replace h := itb h; rcases h with ⟨c2, h⟩ | ⟨c2, h⟩
  ·replace h := bsome h; obtain ⟨x1, H1, h⟩ := h
   have n0 := idx_n H1; have q0 := idx_q H1; have y0 := idx_x H1
   replace h := bsome h; obtain ⟨x2, H2, h⟩ := h
   try simp only [go_sem, c_clause_Check_l1, *]
   refine WC.mono (Q := fun e σ' => e = .normal ∧ σ'.get 0 = (.d true (.int .i64 p0)) ∧ σ'.get 1 = (.d false (.lst 1 (p1.map eI))) ∧ σ'.get 13 = (.d false (.lst 1 (p1.map eI))) ∧ σ'.get 14 = (.d true (.int .i64 (p1.length : Int))) ∧ σ'.get 15 = (.d true (.int .i64 s0)) ∧ σ'.get 47 = (.d true (.bool x2)) ∧ σ'.up.length = 0) ?_ ?_
   ·replace h := H2
    clear H2
    replace h := bsome h; obtain ⟨r0, H3, h⟩ := h
    have k0 := AtCall_all (s_clause_known_ok H3); try dsimp only at k0
    replace h := itb h; rcases h with ⟨c3, h⟩ | ⟨c3, h⟩
    ·replace h := itb h; rcases h with ⟨c4, h⟩ | ⟨c4, h⟩
     ·replace h := bsome h; obtain ⟨x3, H4, h⟩ := h
      have n1 := idx_n H4; have q1 := idx_q H4; have y1 := idx_x H4
      replace h := itb h; rcases h with ⟨c5, h⟩ | ⟨c5, h⟩
      ·cases h
       simp only [go_sem, c_clause_Check_l1, c_clause_Check_p2, *]
      ·cases h
       simp only [go_sem, c_clause_Check_l1, c_clause_Check_p2, *]
     ·cases h
      simp only [go_sem, c_clause_Check_l1, c_clause_Check_p2, *]
    ·cases h
     simp only [go_sem, c_clause_Check_l1, c_clause_Check_p2, *]
   ·intro e τ hJ
    obtain ⟨rfl, f10, f11, f12, f13, f14, f15, f16⟩ := hJ
    replace h := itb h; rcases h with ⟨c6, h⟩ | ⟨c6, h⟩
    ·cases h
     simp only [go_sem, LQ_inr, J_clause_Check_L0, c_clause_Check_l1, *]
    ·cases h
     simp only [go_sem, LQ_inl, I_clause_Check_L0, c_clause_Check_l1, *]
  ·cases h
   simp only [go_sem, LQ_inr, J_clause_Check_L0, c_clause_Check_l1, *]
) h hI hQ
noncomputable def s_clause_Check (p0 : Int) (p1 : (List Int)) : Option (Int) :=
 (if (decide (p0 < 0)) = true then
   some true
  else
   some (decide (p0 > 4000))).bind fun x0 =>
 if x0 = true then
  some 2
 else
  (Lp (b_clause_Check_L0 p0 p1) 0).bind fun x1 =>
  match x1 with
  | .inl x1' =>
   some 0
  | .inr x1' =>
   some 8
theorem s_clause_Check_ok {p0 : Int} {p1 : (List Int)} {r : Int} (h : s_clause_Check p0 p1 = some r) : Ans env k_clause_Check [(.d true (.int .i64 p0)), (.d false (.lst 1 (p1.map eI)))] (.d true (.int .i64 r)) := by
 unfold s_clause_Check at h
 unfold Ans
 rw [AtF fn_clause_Check]
 simp only [n_clause_Check]
 replace h := bsome h; obtain ⟨x0, H0, h⟩ := h
 try simp only [go_sem, *]
 refine WC.mono (Q := fun e σ' => e = .normal ∧ σ'.get 0 = (.d true (.int .i64 p0)) ∧ σ'.get 1 = (.d false (.lst 1 (p1.map eI))) ∧ σ'.get 12 = (.d true (.bool x0)) ∧ σ'.up.length = 0) ?_ ?_
 ·replace h := H0
  clear H0
  replace h := itb h; rcases h with ⟨c0, h⟩ | ⟨c0, h⟩
  ·cases h
   simp only [go_sem, c_clause_Check_p1, *]
  ·cases h
   simp only [go_sem, c_clause_Check_p1, *]
 ·intro e τ hJ
  obtain ⟨rfl, f0, f1, f2, f3⟩ := hJ
  replace h := itb h; rcases h with ⟨c1, h⟩ | ⟨c1, h⟩
  ·cases h
   simp only [go_sem, *]
   exact ⟨_, rfl⟩
  ·replace h := bsome h; obtain ⟨x1, H1, h⟩ := h
   try simp only [go_sem, *]
   refine L_clause_Check_L0 p0 p1 H1 ?_ ?_
   ·clear h
    simp only [go_sem, I_clause_Check_L0, *]
   ·intro e τ hJ
    rcases x1 with x1' | x1'
    ·obtain ⟨rfl, f4⟩ := hJ
     cases h
     simp only [go_sem, *]
     exact ⟨_, rfl⟩
    ·obtain ⟨rfl, f5, f6⟩ := hJ
     cases h
     simp only [go_sem, *]
     exact ⟨_, rfl⟩
noncomputable def b_queue_Right_L0 (p0 : S_Circuit) (p1 : (List S_Obligation)) (s0 : Int) : Option ((Int) ⊕ ((Unit) ⊕ (Unit))) :=
 if (decide (s0 < (p1.length : Int))) = true then
  (idx p1 s0).bind fun x0 =>
  ((s_clause_Check (p0.Latches.length : Int) x0.Cube).bind fun r1 =>
   if (r1 != 0) = true then
    some true
   else
    if ((x0.Inputs.length : Int) != p0.Inputs) = true then
     some true
    else
     if (decide (x0.Next < (-1))) = true then
      some true
     else
      some (decide (x0.Next ≥ s0))).bind fun x1 =>
  if x1 = true then
   some (Sum.inr (Sum.inr ()))
  else
   some (Sum.inl (IntKind.wrap .i64 (s0 + 1)))
 else
  some (Sum.inr (Sum.inl ()))
def I_queue_Right_L0 (p0 : S_Circuit) (p1 : (List S_Obligation)) (s0 : Int) (σ : St) : Prop := σ.get 2 = (.ptr 0 0 0) ∧ σ.get 16 = (.d false (.lst 3 (p1.map eS_Obligation))) ∧ σ.get 17 = (.d true (.int .i64 (p1.length : Int))) ∧ σ.get 18 = (.d true (.int .i64 s0)) ∧ σ.obj 0 0 = oB0 p0 ∧ σ.up.length = 0
def J_queue_Right_L0 (p0 : S_Circuit) (p1 : (List S_Obligation)) (r : (Unit) ⊕ (Unit)) (e : Ex) (σ' : St) : Prop := (Sum.elim (fun o0 => e = (.exit 0) ∧ σ'.up.length = 0) (fun o1 => e = .ret ∧ σ'.get 4 = (.d true (.int .i64 8)) ∧ σ'.up.length = 0)) r
theorem L_queue_Right_L0 (p0 : S_Circuit) (p1 : (List S_Obligation)) {s : Int} {r : (Unit) ⊕ (Unit)} (h : Lp (b_queue_Right_L0 p0 p1) s = some r) {σ : St} {Q : Ex → St → Prop} (hI : I_queue_Right_L0 p0 p1 s σ) (hQ : ∀ e σ', J_queue_Right_L0 p0 p1 r e σ' → Q e σ') : WC env (.loop c_queue_Right_l1) σ Q :=
 WC_Lp (I_queue_Right_L0 p0 p1) (J_queue_Right_L0 p0 p1) (by
  clear h hI hQ
  clear s r σ Q
  intro s0 σ x hI h
  obtain ⟨f0, f1, f2, f3, f4, f5⟩ := hI
  unfold b_queue_Right_L0 at h
  replace h := itb h; rcases h with ⟨c2, h⟩ | ⟨c2, h⟩
  ·replace h := bsome h; obtain ⟨x0, H1, h⟩ := h
   have n0 := idx_n H1; have q0 := idx_q H1; have y0 := idx_x H1
   replace h := bsome h; obtain ⟨x1, H2, h⟩ := h
   try simp only [go_sem, c_queue_Right_l1, *]
   refine WC.mono (Q := fun e σ' => e = .normal ∧ σ'.get 2 = (.ptr 0 0 0) ∧ σ'.get 16 = (.d false (.lst 3 (p1.map eS_Obligation))) ∧ σ'.get 17 = (.d true (.int .i64 (p1.length : Int))) ∧ σ'.get 18 = (.d true (.int .i64 s0)) ∧ σ'.get 48 = (.d true (.bool x1)) ∧ σ'.obj 0 0 = oB0 p0 ∧ σ'.up.length = 0) ?_ ?_
   ·replace h := H2
    clear H2
    replace h := bsome h; obtain ⟨r1, H3, h⟩ := h
    have k1 := AtCall_all (s_clause_Check_ok H3); try dsimp only at k1
    replace h := itb h; rcases h with ⟨c3, h⟩ | ⟨c3, h⟩
    ·cases h
     simp only [go_sem, c_queue_Right_l1, c_queue_Right_p1, *]
    ·replace h := itb h; rcases h with ⟨c4, h⟩ | ⟨c4, h⟩
     ·cases h
      simp only [go_sem, c_queue_Right_l1, c_queue_Right_p1, *]
     ·replace h := itb h; rcases h with ⟨c5, h⟩ | ⟨c5, h⟩
      ·cases h
       simp only [go_sem, c_queue_Right_l1, c_queue_Right_p1, *]
      ·cases h
       simp only [go_sem, c_queue_Right_l1, c_queue_Right_p1, *]
   ·intro e τ hJ
    obtain ⟨rfl, f6, f7, f8, f9, f10, f11, f12⟩ := hJ
    replace h := itb h; rcases h with ⟨c6, h⟩ | ⟨c6, h⟩
    ·cases h
     simp only [go_sem, LQ_inr, J_queue_Right_L0, c_queue_Right_l1, *]
    ·cases h
     simp only [go_sem, LQ_inl, I_queue_Right_L0, c_queue_Right_l1, *]
  ·cases h
   simp only [go_sem, LQ_inr, J_queue_Right_L0, c_queue_Right_l1, *]
) h hI hQ
noncomputable def s_queue_Right (p0 : S_Circuit) (p1 : (List S_Obligation)) : Option (Int) :=
 (s_gates_Check p0).bind fun r0 =>
 if (r0 != 0) = true then
  some r0
 else
  if (decide ((p1.length : Int) > 1000)) = true then
   some 4
  else
   (Lp (b_queue_Right_L0 p0 p1) 0).bind fun x0 =>
   match x0 with
   | .inl x0' =>
    some 0
   | .inr x0' =>
    some 8
theorem s_queue_Right_ok {p0 : S_Circuit} {p1 : (List S_Obligation)} {r : Int} (h : s_queue_Right p0 p1 = some r) : Ans env k_queue_Right [(.ag [(.d true (.int .i64 p0.Inputs)), (.d false (.lst 2 (p0.Latches.map eS_Latch))), (.d false (.lst 2 (p0.Ands.map eS_And))), (.d false (.lst 1 (p0.Bads.map eI))), (.d false (.lst 1 (p0.Constraints.map eI)))]), (.d false (.lst 3 (p1.map eS_Obligation)))] (.d true (.int .i64 r)) := by
 unfold s_queue_Right at h
 unfold Ans
 rw [AtF fn_queue_Right]
 simp only [n_queue_Right]
 replace h := bsome h; obtain ⟨r0, H0, h⟩ := h
 have k0 := AtCall_all (s_gates_Check_ok H0); try dsimp only at k0
 replace h := itb h; rcases h with ⟨c0, h⟩ | ⟨c0, h⟩
 ·cases h
  simp only [go_sem, *]
  exact ⟨_, rfl⟩
 ·replace h := itb h; rcases h with ⟨c1, h⟩ | ⟨c1, h⟩
  ·cases h
   simp only [go_sem, *]
   exact ⟨_, rfl⟩
  ·replace h := bsome h; obtain ⟨x0, H1, h⟩ := h
   try simp only [go_sem, *]
   refine L_queue_Right_L0 p0 p1 H1 ?_ ?_
   ·clear h
    simp only [go_sem, I_queue_Right_L0, *]
   ·intro e τ hJ
    rcases x0 with x0' | x0'
    ·obtain ⟨rfl, f0⟩ := hJ
     cases h
     simp only [go_sem, *]
     exact ⟨_, rfl⟩
    ·obtain ⟨rfl, f1, f2⟩ := hJ
     cases h
     simp only [go_sem, *]
     exact ⟨_, rfl⟩
noncomputable def s_queue_Chain (p0 : S_Circuit) (p1 : (List S_Obligation)) (p2 : Int) : Option ((List Int) × Int) :=
 (s_queue_Right p0 p1).bind fun r0 =>
 if (r0 != 0) = true then
  some (([] : List Int), r0)
 else
  (if (decide (p2 < 0)) = true then
    some true
   else
    some (decide (p2 ≥ (p1.length : Int)))).bind fun x0 =>
  if x0 = true then
   some (([] : List Int), 2)
  else
   (chn (fun o : S_Obligation => o.Next) p1 p2).bind fun x1 =>
   if x1.length ≤ big then
    some (x1, 0)
   else none
theorem s_queue_Chain_ok {p0 : S_Circuit} {p1 : (List S_Obligation)} {p2 : Int} {r : (List Int) × Int} (h : s_queue_Chain p0 p1 p2 = some r) : Ans env k_queue_Chain [(.ag [(.d true (.int .i64 p0.Inputs)), (.d false (.lst 2 (p0.Latches.map eS_Latch))), (.d false (.lst 2 (p0.Ands.map eS_And))), (.d false (.lst 1 (p0.Bads.map eI))), (.d false (.lst 1 (p0.Constraints.map eI)))]), (.d false (.lst 3 (p1.map eS_Obligation))), (.d true (.int .i64 p2))] (.tp [(.d true (.lst 1 (r.1.map eI))), (.d true (.int .i64 r.2))]) := by
 unfold s_queue_Chain at h
 unfold Ans
 rw [AtF fn_queue_Chain]
 simp only [n_queue_Chain]
 replace h := bsome h; obtain ⟨r0, H0, h⟩ := h
 have k0 := AtCall_all (s_queue_Right_ok H0); try dsimp only at k0
 replace h := itb h; rcases h with ⟨c0, h⟩ | ⟨c0, h⟩
 ·cases h
  simp only [go_sem, *]
  exact ⟨_, rfl⟩
 ·replace h := bsome h; obtain ⟨x0, H1, h⟩ := h
  try simp only [go_sem, *]
  refine WC.mono (Q := fun e σ' => e = .normal ∧ σ'.get 1 = (.d false (.lst 3 (p1.map eS_Obligation))) ∧ σ'.get 2 = (.d true (.int .i64 p2)) ∧ σ'.get 22 = (.d true (.bool x0)) ∧ FreeFrom σ' 0 21 ∧ σ'.up.length = 0) ?_ ?_
  ·replace h := H1
   clear H1
   replace h := itb h; rcases h with ⟨c1, h⟩ | ⟨c1, h⟩
   ·cases h
    simp only [go_sem, c_queue_Chain_p1, *]
   ·cases h
    simp only [go_sem, c_queue_Chain_p1, *]
  ·intro e τ hJ
   obtain ⟨rfl, f0, f1, f2, f3, f4⟩ := hJ
   replace h := itb h; rcases h with ⟨c2, h⟩ | ⟨c2, h⟩
   ·cases h
    simp only [go_sem, *]
    exact ⟨_, rfl⟩
   ·replace h := bsome h; obtain ⟨x1, H2, h⟩ := h
    replace h := need h; obtain ⟨H3, h⟩ := h
    try simp only [go_sem, (show isMrg 21 = true from isMrg_odd 10), *]
    refine E_collectT (enc := eS_Obligation) (ca := fun o => .lst 1 (o.Cube.map eI)) (cb := fun o => .lst 1 (o.Inputs.map eB)) (nx := fun o => o.Next) (p := false) (nb := 22) (lb := 21) (u := 0) (fun _ => rfl) H2 H3 ?_ ?_ ?_ ?_
    ·simp only [go_sem, (show isMrg 21 = true from isMrg_odd 10), *]
    ·simp only [go_sem, (show isMrg 21 = true from isMrg_odd 10), *]
    ·simp only [go_sem, (show isMrg 21 = true from isMrg_odd 10), *]
    ·intro τ f5 f6
     cases h
     simp only [go_sem, (show isMrg 21 = true from isMrg_odd 10), *]
     exact ⟨_, rfl⟩
def s_ref13_Lit (p0 : Int) (p1 : Int) : Option (Bool) :=
 (if (decide (p1 ≥ 2)) = true then
   some (decide (p1 ≤ (IntKind.wrap .i64 ((IntKind.wrap .i64 (2 * p0)) + 1))))
  else
   some false).bind fun x0 =>
 some x0
theorem s_ref13_Lit_ok {p0 : Int} {p1 : Int} {r : Bool} (h : s_ref13_Lit p0 p1 = some r) : Ans env k_ref13_Lit [(.d true (.int .i64 p0)), (.d true (.int .i64 p1))] (.d true (.bool r)) := by
 unfold s_ref13_Lit at h
 unfold Ans
 rw [AtF fn_ref13_Lit]
 simp only [n_ref13_Lit]
 replace h := bsome h; obtain ⟨x0, H0, h⟩ := h
 try simp only [go_sem, *]
 refine WC.mono (Q := fun e σ' => e = .normal ∧ σ'.get 4 = (.d true (.bool x0)) ∧ σ'.up.length = 0) ?_ ?_
 ·replace h := H0
  clear H0
  replace h := itb h; rcases h with ⟨c0, h⟩ | ⟨c0, h⟩
  ·cases h
   simp only [go_sem, c_ref13_Lit_p1, *]
  ·cases h
   simp only [go_sem, c_ref13_Lit_p1, *]
 ·intro e τ hJ
  obtain ⟨rfl, f0, f1⟩ := hJ
  cases h
  simp only [go_sem, *]
  exact ⟨_, rfl⟩
noncomputable def b_ref13_Valid_L0 (p0 : Int) (p1 : (List Int)) (s0 : Int) : Option ((Int) ⊕ ((Unit) ⊕ (Unit))) :=
 if (decide (s0 < (p1.length : Int))) = true then
  ((idx p1 s0).bind fun x1 =>
   (s_ref13_Lit p0 x1).bind fun r0 =>
   if r0 = true then
    if (decide (s0 > 0)) = true then
     (idx p1 (IntKind.wrap .i64 (s0 - 1))).bind fun x2 =>
     if (decide ((IntKind.wrap .i64 (x1 - x2)) < 1)) = true then
      some true
     else
      if ((Int.tmod x2 2) == 0) = true then
       some (x1 == (IntKind.wrap .i64 (x2 + 1)))
      else
       some false
    else
     some false
   else
    some true).bind fun x0 =>
  if x0 = true then
   some (Sum.inr (Sum.inr ()))
  else
   some (Sum.inl (IntKind.wrap .i64 (s0 + 1)))
 else
  some (Sum.inr (Sum.inl ()))
def I_ref13_Valid_L0 (p0 : Int) (p1 : (List Int)) (s0 : Int) (σ : St) : Prop := σ.get 0 = (.d true (.int .i64 p0)) ∧ σ.get 1 = (.d false (.lst 1 (p1.map eI))) ∧ σ.get 5 = (.d true (.int .i64 s0)) ∧ σ.up.length = 0
def J_ref13_Valid_L0 (p0 : Int) (p1 : (List Int)) (r : (Unit) ⊕ (Unit)) (e : Ex) (σ' : St) : Prop := (Sum.elim (fun o0 => e = (.exit 0) ∧ σ'.up.length = 0) (fun o1 => e = .ret ∧ σ'.get 4 = (.d true (.bool false)) ∧ σ'.up.length = 0)) r
theorem L_ref13_Valid_L0 (p0 : Int) (p1 : (List Int)) {s : Int} {r : (Unit) ⊕ (Unit)} (h : Lp (b_ref13_Valid_L0 p0 p1) s = some r) {σ : St} {Q : Ex → St → Prop} (hI : I_ref13_Valid_L0 p0 p1 s σ) (hQ : ∀ e σ', J_ref13_Valid_L0 p0 p1 r e σ' → Q e σ') : WC env (.loop c_ref13_Valid_l1) σ Q :=
 WC_Lp (I_ref13_Valid_L0 p0 p1) (J_ref13_Valid_L0 p0 p1) (by
  clear h hI hQ
  clear s r σ Q
  intro s0 σ x hI h
  obtain ⟨f0, f1, f2, f3⟩ := hI
  unfold b_ref13_Valid_L0 at h
  replace h := itb h; rcases h with ⟨c0, h⟩ | ⟨c0, h⟩
  ·replace h := bsome h; obtain ⟨x0, H0, h⟩ := h
   try simp only [go_sem, c_ref13_Valid_l1, *]
   refine WC.mono (Q := fun e σ' => e = .normal ∧ σ'.get 0 = (.d true (.int .i64 p0)) ∧ σ'.get 1 = (.d false (.lst 1 (p1.map eI))) ∧ σ'.get 5 = (.d true (.int .i64 s0)) ∧ σ'.get 61 = (.d true (.bool x0)) ∧ σ'.up.length = 0) ?_ ?_
   ·replace h := H0
    clear H0
    replace h := bsome h; obtain ⟨x1, H1, h⟩ := h
    have n0 := idx_n H1; have q0 := idx_q H1; have y0 := idx_x H1
    replace h := bsome h; obtain ⟨r0, H2, h⟩ := h
    have k0 := AtCall_all (s_ref13_Lit_ok H2); try dsimp only at k0
    replace h := itb h; rcases h with ⟨c1, h⟩ | ⟨c1, h⟩
    ·replace h := itb h; rcases h with ⟨c2, h⟩ | ⟨c2, h⟩
     ·replace h := bsome h; obtain ⟨x2, H3, h⟩ := h
      have n1 := idx_n H3; have q1 := idx_q H3; have y1 := idx_x H3
      replace h := itb h; rcases h with ⟨c3, h⟩ | ⟨c3, h⟩
      ·cases h
       simp only [go_sem, c_ref13_Valid_l1, c_ref13_Valid_p1, *]
      ·replace h := itb h; rcases h with ⟨c4, h⟩ | ⟨c4, h⟩
       ·cases h
        simp only [go_sem, c_ref13_Valid_l1, c_ref13_Valid_p1, *]
       ·cases h
        simp only [go_sem, c_ref13_Valid_l1, c_ref13_Valid_p1, *]
     ·cases h
      simp only [go_sem, c_ref13_Valid_l1, c_ref13_Valid_p1, *]
    ·cases h
     simp only [go_sem, c_ref13_Valid_l1, c_ref13_Valid_p1, *]
   ·intro e τ hJ
    obtain ⟨rfl, f4, f5, f6, f7, f8⟩ := hJ
    replace h := itb h; rcases h with ⟨c5, h⟩ | ⟨c5, h⟩
    ·cases h
     simp only [go_sem, LQ_inr, J_ref13_Valid_L0, c_ref13_Valid_l1, *]
    ·cases h
     simp only [go_sem, LQ_inl, I_ref13_Valid_L0, c_ref13_Valid_l1, *]
  ·cases h
   simp only [go_sem, LQ_inr, J_ref13_Valid_L0, c_ref13_Valid_l1, *]
) h hI hQ
noncomputable def s_ref13_Valid (p0 : Int) (p1 : (List Int)) : Option (Bool) :=
 (Lp (b_ref13_Valid_L0 p0 p1) 0).bind fun x0 =>
 match x0 with
 | .inl x0' =>
  some true
 | .inr x0' =>
  some false
theorem s_ref13_Valid_ok {p0 : Int} {p1 : (List Int)} {r : Bool} (h : s_ref13_Valid p0 p1 = some r) : Ans env k_ref13_Valid [(.d true (.int .i64 p0)), (.d false (.lst 1 (p1.map eI)))] (.d true (.bool r)) := by
 unfold s_ref13_Valid at h
 unfold Ans
 rw [AtF fn_ref13_Valid]
 simp only [n_ref13_Valid]
 replace h := bsome h; obtain ⟨x0, H0, h⟩ := h
 try simp only [go_sem, *]
 refine L_ref13_Valid_L0 p0 p1 H0 ?_ ?_
 ·clear h
  simp only [go_sem, I_ref13_Valid_L0, *]
 ·intro e τ hJ
  rcases x0 with x0' | x0'
  ·obtain ⟨rfl, f0⟩ := hJ
   cases h
   simp only [go_sem, *]
   exact ⟨_, rfl⟩
  ·obtain ⟨rfl, f1, f2⟩ := hJ
   cases h
   simp only [go_sem, *]
   exact ⟨_, rfl⟩
noncomputable def b_ref38_Right_L0 (p0 : S_Circuit) (p1 : (List S_Obligation)) (s0 : Int) : Option ((Int) ⊕ ((Unit) ⊕ (Unit))) :=
 if (decide (s0 < (p1.length : Int))) = true then
  ((idx p1 s0).bind fun x1 =>
   (s_ref13_Valid (p0.Latches.length : Int) x1.Cube).bind fun r1 =>
   if r1 = true then
    if ((x1.Inputs.length : Int) != p0.Inputs) = true then
     some true
    else
     if (decide (x1.Next < (-1))) = true then
      some true
     else
      some (decide (x1.Next ≥ s0))
   else
    some true).bind fun x0 =>
  if x0 = true then
   some (Sum.inr (Sum.inr ()))
  else
   some (Sum.inl (IntKind.wrap .i64 (s0 + 1)))
 else
  some (Sum.inr (Sum.inl ()))
def I_ref38_Right_L0 (p0 : S_Circuit) (p1 : (List S_Obligation)) (s0 : Int) (σ : St) : Prop := σ.get 1 = (.d false (.lst 3 (p1.map eS_Obligation))) ∧ σ.get 2 = (.ptr 0 0 0) ∧ σ.get 6 = (.d true (.int .i64 s0)) ∧ σ.obj 0 0 = oB0 p0 ∧ σ.up.length = 0
def J_ref38_Right_L0 (p0 : S_Circuit) (p1 : (List S_Obligation)) (r : (Unit) ⊕ (Unit)) (e : Ex) (σ' : St) : Prop := (Sum.elim (fun o0 => e = (.exit 0) ∧ σ'.up.length = 0) (fun o1 => e = .ret ∧ σ'.get 4 = (.d true (.int .i64 8)) ∧ σ'.up.length = 0)) r
theorem L_ref38_Right_L0 (p0 : S_Circuit) (p1 : (List S_Obligation)) {s : Int} {r : (Unit) ⊕ (Unit)} (h : Lp (b_ref38_Right_L0 p0 p1) s = some r) {σ : St} {Q : Ex → St → Prop} (hI : I_ref38_Right_L0 p0 p1 s σ) (hQ : ∀ e σ', J_ref38_Right_L0 p0 p1 r e σ' → Q e σ') : WC env (.loop c_ref38_Right_l1) σ Q :=
 WC_Lp (I_ref38_Right_L0 p0 p1) (J_ref38_Right_L0 p0 p1) (by
  clear h hI hQ
  clear s r σ Q
  intro s0 σ x hI h
  obtain ⟨f0, f1, f2, f3, f4⟩ := hI
  unfold b_ref38_Right_L0 at h
  replace h := itb h; rcases h with ⟨c2, h⟩ | ⟨c2, h⟩
  ·replace h := bsome h; obtain ⟨x0, H1, h⟩ := h
   try simp only [go_sem, c_ref38_Right_l1, *]
   refine WC.mono (Q := fun e σ' => e = .normal ∧ σ'.get 1 = (.d false (.lst 3 (p1.map eS_Obligation))) ∧ σ'.get 2 = (.ptr 0 0 0) ∧ σ'.get 6 = (.d true (.int .i64 s0)) ∧ σ'.get 58 = (.d true (.bool x0)) ∧ σ'.obj 0 0 = oB0 p0 ∧ σ'.up.length = 0) ?_ ?_
   ·replace h := H1
    clear H1
    replace h := bsome h; obtain ⟨x1, H2, h⟩ := h
    have n0 := idx_n H2; have q0 := idx_q H2; have y0 := idx_x H2
    replace h := bsome h; obtain ⟨r1, H3, h⟩ := h
    have k1 := AtCall_all (s_ref13_Valid_ok H3); try dsimp only at k1
    replace h := itb h; rcases h with ⟨c3, h⟩ | ⟨c3, h⟩
    ·replace h := itb h; rcases h with ⟨c4, h⟩ | ⟨c4, h⟩
     ·cases h
      simp only [go_sem, c_ref38_Right_l1, c_ref38_Right_p1, *]
     ·replace h := itb h; rcases h with ⟨c5, h⟩ | ⟨c5, h⟩
      ·cases h
       simp only [go_sem, c_ref38_Right_l1, c_ref38_Right_p1, *]
      ·cases h
       simp only [go_sem, c_ref38_Right_l1, c_ref38_Right_p1, *]
    ·cases h
     simp only [go_sem, c_ref38_Right_l1, c_ref38_Right_p1, *]
   ·intro e τ hJ
    obtain ⟨rfl, f5, f6, f7, f8, f9, f10⟩ := hJ
    replace h := itb h; rcases h with ⟨c6, h⟩ | ⟨c6, h⟩
    ·cases h
     simp only [go_sem, LQ_inr, J_ref38_Right_L0, c_ref38_Right_l1, *]
    ·cases h
     simp only [go_sem, LQ_inl, I_ref38_Right_L0, c_ref38_Right_l1, *]
  ·cases h
   simp only [go_sem, LQ_inr, J_ref38_Right_L0, c_ref38_Right_l1, *]
) h hI hQ
noncomputable def s_ref38_Right (p0 : S_Circuit) (p1 : (List S_Obligation)) : Option (Int) :=
 (s_ref02_Check p0).bind fun r0 =>
 if (r0 != 0) = true then
  some r0
 else
  if (decide ((p1.length : Int) > 1000)) = true then
   some 4
  else
   (Lp (b_ref38_Right_L0 p0 p1) 0).bind fun x0 =>
   match x0 with
   | .inl x0' =>
    some 0
   | .inr x0' =>
    some 8
theorem s_ref38_Right_ok {p0 : S_Circuit} {p1 : (List S_Obligation)} {r : Int} (h : s_ref38_Right p0 p1 = some r) : Ans env k_ref38_Right [(.ag [(.d true (.int .i64 p0.Inputs)), (.d false (.lst 2 (p0.Latches.map eS_Latch))), (.d false (.lst 2 (p0.Ands.map eS_And))), (.d false (.lst 1 (p0.Bads.map eI))), (.d false (.lst 1 (p0.Constraints.map eI)))]), (.d false (.lst 3 (p1.map eS_Obligation)))] (.d true (.int .i64 r)) := by
 unfold s_ref38_Right at h
 unfold Ans
 rw [AtF fn_ref38_Right]
 simp only [n_ref38_Right]
 replace h := bsome h; obtain ⟨r0, H0, h⟩ := h
 have k0 := AtCall_all (s_ref02_Check_ok H0); try dsimp only at k0
 replace h := itb h; rcases h with ⟨c0, h⟩ | ⟨c0, h⟩
 ·cases h
  simp only [go_sem, *]
  exact ⟨_, rfl⟩
 ·replace h := itb h; rcases h with ⟨c1, h⟩ | ⟨c1, h⟩
  ·cases h
   simp only [go_sem, *]
   exact ⟨_, rfl⟩
  ·replace h := bsome h; obtain ⟨x0, H1, h⟩ := h
   try simp only [go_sem, *]
   refine L_ref38_Right_L0 p0 p1 H1 ?_ ?_
   ·clear h
    simp only [go_sem, I_ref38_Right_L0, *]
   ·intro e τ hJ
    rcases x0 with x0' | x0'
    ·obtain ⟨rfl, f0⟩ := hJ
     cases h
     simp only [go_sem, *]
     exact ⟨_, rfl⟩
    ·obtain ⟨rfl, f1, f2⟩ := hJ
     cases h
     simp only [go_sem, *]
     exact ⟨_, rfl⟩
def b_ref38_Behind_L0 (p0 : (List S_Obligation)) (s0 : (List Int) × Int) : Option (((List Int) × Int) ⊕ ((List Int))) :=
 if (decide (s0.2 ≥ 0)) = true then
  if s0.1.length + 1 ≤ big then
   (idx p0 s0.2).bind fun x0 =>
   some (Sum.inl ((s0.1 ++ ([s0.2] : List Int)), x0.Next))
  else none
 else
  some (Sum.inr s0.1)
def I_ref38_Behind_L0 (p0 : (List S_Obligation)) (s0 : (List Int) × Int) (σ : St) : Prop := σ.get 0 = (.d false (.lst 3 (p0.map eS_Obligation))) ∧ σ.get 1 = (.d true (.int .i64 s0.2)) ∧ σ.get 5 = (.row 0 0 0 s0.1.length 1) ∧ (∃ gr_0_0, σ.obj 0 0 = some (.rw 1 (s0.1.map eI) gr_0_0)) ∧ σ.obj 0 2 = none ∧ σ.up.length = 0
def J_ref38_Behind_L0 (p0 : (List S_Obligation)) (r : (List Int)) (e : Ex) (σ' : St) : Prop := e = (.exit 0) ∧ σ'.get 5 = (.row 0 0 0 r.length 1) ∧ (∃ gr_0_0, σ'.obj 0 0 = some (.rw 1 (r.map eI) gr_0_0)) ∧ σ'.obj 0 2 = none ∧ σ'.up.length = 0
theorem L_ref38_Behind_L0 (p0 : (List S_Obligation)) {s : (List Int) × Int} {r : (List Int)} (h : Lp (b_ref38_Behind_L0 p0) s = some r) {σ : St} {Q : Ex → St → Prop} (hI : I_ref38_Behind_L0 p0 s σ) (hQ : ∀ e σ', J_ref38_Behind_L0 p0 r e σ' → Q e σ') : WC env (.loop c_ref38_Behind_l1) σ Q :=
 WC_Lp (I_ref38_Behind_L0 p0) (J_ref38_Behind_L0 p0) (by
  clear h hI hQ
  clear s r σ Q
  intro s0 σ x hI h
  obtain ⟨f0, f1, f2, ⟨gr_0_0, f3⟩, f4, f5⟩ := hI
  unfold b_ref38_Behind_L0 at h
  replace h := itb h; rcases h with ⟨c0, h⟩ | ⟨c0, h⟩
  ·replace h := need h; obtain ⟨H0, h⟩ := h
   replace h := bsome h; obtain ⟨x0, H1, h⟩ := h
   have n0 := idx_n H1; have q0 := idx_q H1; have y0 := idx_x H1
   cases h
   simp only [go_sem, LQ_inl, I_ref38_Behind_L0, c_ref38_Behind_l1, *]
  ·cases h
   simp only [go_sem, LQ_inr, J_ref38_Behind_L0, c_ref38_Behind_l1, *]
) h hI hQ
noncomputable def s_ref38_Behind (p0 : (List S_Obligation)) (p1 : Int) : Option ((List Int)) :=
 (Lp (b_ref38_Behind_L0 p0) (([] : List Int), p1)).bind fun x0 =>
 some x0
theorem s_ref38_Behind_ok {p0 : (List S_Obligation)} {p1 : Int} {r : (List Int)} (h : s_ref38_Behind p0 p1 = some r) : Ans env k_ref38_Behind [(.d false (.lst 3 (p0.map eS_Obligation))), (.d true (.int .i64 p1))] (.d true (.lst 1 (r.map eI))) := by
 unfold s_ref38_Behind at h
 unfold Ans
 rw [AtF fn_ref38_Behind]
 simp only [n_ref38_Behind]
 replace h := bsome h; obtain ⟨x0, H0, h⟩ := h
 try simp only [go_sem, *]
 refine L_ref38_Behind_L0 p0 H0 ?_ ?_
 ·clear h
  simp only [go_sem, I_ref38_Behind_L0, *]
 ·intro e τ hJ
  obtain ⟨rfl, f0, ⟨gr_0_0, f1⟩, f2, f3⟩ := hJ
  cases h
  simp only [go_sem, *]
  exact ⟨_, rfl⟩
noncomputable def s_ref38_Chain (p0 : S_Circuit) (p1 : (List S_Obligation)) (p2 : Int) : Option ((List Int) × Int) :=
 (s_ref38_Right p0 p1).bind fun r0 =>
 if (r0 != 0) = true then
  some (([] : List Int), r0)
 else
  (if (decide (p2 < 0)) = true then
    some true
   else
    some (decide (p2 ≥ (p1.length : Int)))).bind fun x0 =>
  if x0 = true then
   some (([] : List Int), 2)
  else
   (s_ref38_Behind p1 p2).bind fun r1 =>
   some (r1, 0)
theorem s_ref38_Chain_ok {p0 : S_Circuit} {p1 : (List S_Obligation)} {p2 : Int} {r : (List Int) × Int} (h : s_ref38_Chain p0 p1 p2 = some r) : Ans env k_ref38_Chain [(.ag [(.d true (.int .i64 p0.Inputs)), (.d false (.lst 2 (p0.Latches.map eS_Latch))), (.d false (.lst 2 (p0.Ands.map eS_And))), (.d false (.lst 1 (p0.Bads.map eI))), (.d false (.lst 1 (p0.Constraints.map eI)))]), (.d false (.lst 3 (p1.map eS_Obligation))), (.d true (.int .i64 p2))] (.tp [(.d true (.lst 1 (r.1.map eI))), (.d true (.int .i64 r.2))]) := by
 unfold s_ref38_Chain at h
 unfold Ans
 rw [AtF fn_ref38_Chain]
 simp only [n_ref38_Chain]
 replace h := bsome h; obtain ⟨r0, H0, h⟩ := h
 have k0 := AtCall_all (s_ref38_Right_ok H0); try dsimp only at k0
 replace h := itb h; rcases h with ⟨c0, h⟩ | ⟨c0, h⟩
 ·cases h
  simp only [go_sem, *]
  exact ⟨_, rfl⟩
 ·replace h := bsome h; obtain ⟨x0, H1, h⟩ := h
  try simp only [go_sem, *]
  refine WC.mono (Q := fun e σ' => e = .normal ∧ σ'.get 1 = (.d false (.lst 3 (p1.map eS_Obligation))) ∧ σ'.get 2 = (.d true (.int .i64 p2)) ∧ σ'.get 22 = (.d true (.bool x0)) ∧ σ'.up.length = 0) ?_ ?_
  ·replace h := H1
   clear H1
   replace h := itb h; rcases h with ⟨c1, h⟩ | ⟨c1, h⟩
   ·cases h
    simp only [go_sem, c_ref38_Chain_p1, *]
   ·cases h
    simp only [go_sem, c_ref38_Chain_p1, *]
  ·intro e τ hJ
   obtain ⟨rfl, f0, f1, f2, f3⟩ := hJ
   replace h := itb h; rcases h with ⟨c2, h⟩ | ⟨c2, h⟩
   ·cases h
    simp only [go_sem, *]
    exact ⟨_, rfl⟩
   ·replace h := bsome h; obtain ⟨r1, H2, h⟩ := h
    have k1 := AtCall_all (s_ref38_Behind_ok H2); try dsimp only at k1
    cases h
    simp only [go_sem, *]
    exact ⟨_, rfl⟩
noncomputable def s_queue_Trace (p0 : S_Circuit) (p1 : (List S_Obligation)) (p2 : Int) (p3 : (List Bool)) (p4 : (List Bool)) : Option (S_Trace × Int) :=
 (s_queue_Chain p0 p1 p2).bind fun r0 =>
 if (r0.2 != 0) = true then
  some ((S_Trace.mk ([] : List Bool) ([] : List (List Bool))), r0.2)
 else
  (if ((p3.length : Int) != (p0.Latches.length : Int)) = true then
    some true
   else
    some ((p4.length : Int) != p0.Inputs)).bind fun x0 =>
  if x0 = true then
   some ((S_Trace.mk ([] : List Bool) ([] : List (List Bool))), 2)
  else
   if (decide ((r0.1.length : Int) ≥ 100)) = true then
    some ((S_Trace.mk ([] : List Bool) ([] : List (List Bool))), 4)
   else
    if p3.length ≤ big then
     if p4.length ≤ big then
      (chn (fun o : S_Obligation => o.Next) p1 p2).bind fun x1 =>
      (selM (fun o : S_Obligation => o.Inputs) p1 x1).bind fun y0 =>
      if ([p4] : List (List Bool)).length + x1.length ≤ big then
       if ∀ o ∈ p1, o.Inputs.length ≤ big then
        some ((S_Trace.mk p3 (([p4] : List (List Bool)) ++ y0)), 0)
       else none
      else none
     else none
    else none
theorem s_queue_Trace_ok {p0 : S_Circuit} {p1 : (List S_Obligation)} {p2 : Int} {p3 : (List Bool)} {p4 : (List Bool)} {r : S_Trace × Int} (h : s_queue_Trace p0 p1 p2 p3 p4 = some r) : Ans env k_queue_Trace [(.ag [(.d true (.int .i64 p0.Inputs)), (.d false (.lst 2 (p0.Latches.map eS_Latch))), (.d false (.lst 2 (p0.Ands.map eS_And))), (.d false (.lst 1 (p0.Bads.map eI))), (.d false (.lst 1 (p0.Constraints.map eI)))]), (.d false (.lst 3 (p1.map eS_Obligation))), (.d true (.int .i64 p2)), (.d false (.lst 1 (p3.map eB))), (.d false (.lst 1 (p4.map eB)))] (.tp [(.ag [(.d true (.lst 1 (r.1.First.map eB))), (.d true (.lst 1 (r.1.Inputs.map (eL 1 eB))))]), (.d true (.int .i64 r.2))]) := by
 unfold s_queue_Trace at h
 unfold Ans
 rw [AtF fn_queue_Trace]
 simp only [n_queue_Trace]
 replace h := bsome h; obtain ⟨r0, H0, h⟩ := h
 have k0 := AtCall_all (s_queue_Chain_ok H0); try dsimp only at k0
 replace h := itb h; rcases h with ⟨c0, h⟩ | ⟨c0, h⟩
 ·cases h
  simp only [go_sem, *]
  exact ⟨_, rfl⟩
 ·replace h := bsome h; obtain ⟨x0, H1, h⟩ := h
  try simp only [go_sem, *]
  refine WC.mono (Q := fun e σ' => e = .normal ∧ σ'.get 2 = (.d true (.int .i64 p2)) ∧ σ'.get 3 = (.d false (.lst 1 (p3.map eB))) ∧ σ'.get 4 = (.d false (.lst 1 (p4.map eB))) ∧ σ'.get 6 = (.ptr 0 1 0) ∧ σ'.get 10 = (.ptr 0 2 0) ∧ σ'.get 12 = (.d true (.lst 1 (r0.1.map eI))) ∧ σ'.get 39 = (.d true (.bool x0)) ∧ σ'.obj 0 1 = some (.box [(.d false (.lst 3 (p1.map eS_Obligation)))]) ∧ σ'.obj 0 2 = oB4 (([] : List Bool).length) (([] : List (List Bool)).length) ∧ σ'.obj 0 3 = some (.rw 1 (([] : List Bool).map eB) false) ∧ σ'.obj 0 4 = some (.rw 1 (([] : List (List Bool)).map (eL 1 eB)) false) ∧ σ'.obj 0 5 = none ∧ σ'.obj 0 6 = none ∧ σ'.obj 0 7 = none ∧ σ'.obj 0 8 = none ∧ FreeFrom σ' 0 41 ∧ σ'.up.length = 0) ?_ ?_
  ·replace h := H1
   clear H1
   replace h := itb h; rcases h with ⟨c1, h⟩ | ⟨c1, h⟩
   ·cases h
    simp only [go_sem, c_queue_Trace_p1, *]
   ·cases h
    simp only [go_sem, c_queue_Trace_p1, *]
  ·intro e τ hJ
   obtain ⟨rfl, f0, f1, f2, f3, f4, f5, f6, f7, f8, f9, f10, f11, f12, f13, f14, f15, f16⟩ := hJ
   replace h := itb h; rcases h with ⟨c2, h⟩ | ⟨c2, h⟩
   ·cases h
    simp only [go_sem, *]
    exact ⟨_, rfl⟩
   ·replace h := itb h; rcases h with ⟨c3, h⟩ | ⟨c3, h⟩
    ·cases h
     simp only [go_sem, *]
     exact ⟨_, rfl⟩
    ·replace h := need h; obtain ⟨H2, h⟩ := h
     replace h := need h; obtain ⟨H3, h⟩ := h
     replace h := bsome h; obtain ⟨x1, H4, h⟩ := h
     replace h := bsome h; obtain ⟨y0, H5, h⟩ := h
     replace h := need h; obtain ⟨H6, h⟩ := h
     replace h := need h; obtain ⟨H7, h⟩ := h
     try simp only [go_sem, (show isMrg 41 = true from isMrg_odd 20), *]
     refine WC_traceRf (enc := eS_Obligation) (ca := fun o => .lst 1 (o.Cube.map eI)) (f := fun o => o.Inputs) (nx := fun o => o.Next) (es := ([p4] : List (List Bool))) (p := false) (gr := false) (fs := (.lst 1 (p3.map eB))) (fun _ => rfl) H4 H5 H6 H7 ?_ ?_ ?_ ?_ ?_ ?_ ?_ ?_ ?_
     ·simp only [go_sem, (show isMrg 41 = true from isMrg_odd 20), *]
     ·simp only [go_sem, (show isMrg 41 = true from isMrg_odd 20), *]
     ·simp only [go_sem, (show isMrg 41 = true from isMrg_odd 20), *]
     ·simp only [go_sem, (show isMrg 41 = true from isMrg_odd 20), *]
     ·simp only [go_sem, (show isMrg 41 = true from isMrg_odd 20), *]
     ·simp only [go_sem, (show isMrg 41 = true from isMrg_odd 20), *]
     ·simp only [go_sem, (show isMrg 41 = true from isMrg_odd 20), *]
     ·simp only [go_sem, (show isMrg 41 = true from isMrg_odd 20), *]
     ·intro τ f17 f18 f19 ⟨gr_0_5, f20⟩ f21
      cases h
      simp only [go_sem, (show isMrg 41 = true from isMrg_odd 20), *]
      exact ⟨_, rfl⟩
def b_ref38_Run_L0 (p0 : (List S_Obligation)) (p2 : (List Bool)) (r0 : (List Int)) (s0 : (List (List Bool)) × Int) : Option (((List (List Bool)) × Int) ⊕ ((List (List Bool)))) :=
 if (decide (s0.2 < (r0.length : Int))) = true then
  (idx r0 s0.2).bind fun x0 =>
  (idx p0 x0).bind fun x1 =>
  if ([] : List Bool).length + x1.Inputs.length ≤ big then
   if s0.1.length + 1 ≤ big then
    some (Sum.inl ((s0.1 ++ ([([] ++ x1.Inputs)] : List (List Bool))), (IntKind.wrap .i64 (s0.2 + 1))))
   else none
  else none
 else
  some (Sum.inr s0.1)
def I_ref38_Run_L0 (p0 : (List S_Obligation)) (p2 : (List Bool)) (r0 : (List Int)) (s0 : (List (List Bool)) × Int) (σ : St) : Prop := σ.get 0 = (.d false (.lst 3 (p0.map eS_Obligation))) ∧ σ.get 8 = (.ptr 0 0 0) ∧ σ.get 9 = (.ptr 0 8 0) ∧ σ.get 10 = (.d true (.lst 1 (r0.map eI))) ∧ σ.get 11 = (.d true (.int .i64 s0.2)) ∧ σ.obj 0 0 = oB6 (([] : List Bool).length) (([] : List (List Bool)).length) ∧ σ.obj 0 1 = some (.rw 1 (([] : List Bool).map eB) false) ∧ σ.obj 0 2 = some (.rw 1 (([] : List (List Bool)).map (eL 1 eB)) false) ∧ σ.obj 0 3 = some (.rw 1 (([] ++ p2).map eB) true) ∧ (∃ gr_0_7, σ.obj 0 7 = some (.rw 1 (s0.1.map (eL 1 eB)) gr_0_7)) ∧ σ.obj 0 8 = oB7 (([] ++ p2).length) s0.1.length ∧ σ.obj 0 4 = none ∧ σ.obj 0 6 = none ∧ σ.obj 0 10 = none ∧ σ.obj 0 12 = none ∧ σ.up.length = 0
def J_ref38_Run_L0 (p0 : (List S_Obligation)) (p2 : (List Bool)) (r0 : (List Int)) (r : (List (List Bool))) (e : Ex) (σ' : St) : Prop := e = (.exit 0) ∧ σ'.get 8 = (.ptr 0 0 0) ∧ σ'.get 9 = (.ptr 0 8 0) ∧ σ'.obj 0 0 = oB6 (([] : List Bool).length) (([] : List (List Bool)).length) ∧ σ'.obj 0 1 = some (.rw 1 (([] : List Bool).map eB) false) ∧ σ'.obj 0 2 = some (.rw 1 (([] : List (List Bool)).map (eL 1 eB)) false) ∧ σ'.obj 0 3 = some (.rw 1 (([] ++ p2).map eB) true) ∧ (∃ gr_0_7, σ'.obj 0 7 = some (.rw 1 (r.map (eL 1 eB)) gr_0_7)) ∧ σ'.obj 0 8 = oB7 (([] ++ p2).length) r.length ∧ σ'.obj 0 4 = none ∧ σ'.obj 0 6 = none ∧ σ'.obj 0 10 = none ∧ σ'.obj 0 12 = none ∧ σ'.up.length = 0
theorem L_ref38_Run_L0 (p0 : (List S_Obligation)) (p2 : (List Bool)) (r0 : (List Int)) {s : (List (List Bool)) × Int} {r : (List (List Bool))} (h : Lp (b_ref38_Run_L0 p0 p2 r0) s = some r) {σ : St} {Q : Ex → St → Prop} (hI : I_ref38_Run_L0 p0 p2 r0 s σ) (hQ : ∀ e σ', J_ref38_Run_L0 p0 p2 r0 r e σ' → Q e σ') : WC env (.loop c_ref38_Run_l1) σ Q :=
 WC_Lp (I_ref38_Run_L0 p0 p2 r0) (J_ref38_Run_L0 p0 p2 r0) (by
  clear h hI hQ
  clear s r σ Q
  intro s0 σ x hI h
  obtain ⟨f0, f1, f2, f3, f4, f5, f6, f7, f8, ⟨gr_0_7, f9⟩, f10, f11, f12, f13, f14, f15⟩ := hI
  unfold b_ref38_Run_L0 at h
  replace h := itb h; rcases h with ⟨c0, h⟩ | ⟨c0, h⟩
  ·replace h := bsome h; obtain ⟨x0, H3, h⟩ := h
   have n0 := idx_n H3; have q0 := idx_q H3; have y0 := idx_x H3
   replace h := bsome h; obtain ⟨x1, H4, h⟩ := h
   have n1 := idx_n H4; have q1 := idx_q H4; have y1 := idx_x H4
   replace h := need h; obtain ⟨H5, h⟩ := h
   try simp only [List.length_cons, List.length_nil, cpl_length, List.length_append, List.length_set, List.length_replicate, Nat.zero_add, Nat.reduceAdd] at H5
   replace h := need h; obtain ⟨H6, h⟩ := h
   cases h
   simp only [go_sem, LQ_inl, I_ref38_Run_L0, c_ref38_Run_l1, *]
  ·cases h
   simp only [go_sem, LQ_inr, J_ref38_Run_L0, c_ref38_Run_l1, *]
) h hI hQ
noncomputable def s_ref38_Run (p0 : (List S_Obligation)) (p1 : Int) (p2 : (List Bool)) (p3 : (List Bool)) : Option (S_Trace) :=
 if ([] : List Bool).length + p2.length ≤ big then
  if ([] : List Bool).length + p3.length ≤ big then
   (s_ref38_Behind p0 p1).bind fun r0 =>
   (Lp (b_ref38_Run_L0 p0 p2 r0) (([([] ++ p3)] : List (List Bool)), 0)).bind fun x0 =>
   some (S_Trace.mk ([] ++ p2) x0)
  else none
 else none
theorem s_ref38_Run_ok {p0 : (List S_Obligation)} {p1 : Int} {p2 : (List Bool)} {p3 : (List Bool)} {r : S_Trace} (h : s_ref38_Run p0 p1 p2 p3 = some r) : Ans env k_ref38_Run [(.d false (.lst 3 (p0.map eS_Obligation))), (.d true (.int .i64 p1)), (.d false (.lst 1 (p2.map eB))), (.d false (.lst 1 (p3.map eB)))] (.ag [(.d true (.lst 1 (r.First.map eB))), (.d true (.lst 1 (r.Inputs.map (eL 1 eB))))]) := by
 unfold s_ref38_Run at h
 unfold Ans
 rw [AtF fn_ref38_Run]
 simp only [n_ref38_Run]
 replace h := need h; obtain ⟨H0, h⟩ := h
 try simp only [List.length_cons, List.length_nil, cpl_length, List.length_append, List.length_set, List.length_replicate, Nat.zero_add, Nat.reduceAdd] at H0
 replace h := need h; obtain ⟨H1, h⟩ := h
 try simp only [List.length_cons, List.length_nil, cpl_length, List.length_append, List.length_set, List.length_replicate, Nat.zero_add, Nat.reduceAdd] at H1
 replace h := bsome h; obtain ⟨r0, H2, h⟩ := h
 have k0 := AtCall_all (s_ref38_Behind_ok H2); try dsimp only at k0
 replace h := bsome h; obtain ⟨x0, H3, h⟩ := h
 try simp only [go_sem, *]
 refine L_ref38_Run_L0 p0 p2 r0 H3 ?_ ?_
 ·clear h
  simp only [go_sem, I_ref38_Run_L0, *]
 ·intro e τ hJ
  obtain ⟨rfl, f0, f1, f2, f3, f4, f5, ⟨gr_0_7, f6⟩, f7, f8, f9, f10, f11, f12⟩ := hJ
  cases h
  simp only [go_sem, *]
  exact ⟨_, rfl⟩
noncomputable def s_ref38_Trace (p0 : S_Circuit) (p1 : (List S_Obligation)) (p2 : Int) (p3 : (List Bool)) (p4 : (List Bool)) : Option (S_Trace × Int) :=
 (s_ref38_Chain p0 p1 p2).bind fun r0 =>
 if (r0.2 != 0) = true then
  some ((S_Trace.mk ([] : List Bool) ([] : List (List Bool))), r0.2)
 else
  (if ((p3.length : Int) != (p0.Latches.length : Int)) = true then
    some true
   else
    some ((p4.length : Int) != p0.Inputs)).bind fun x0 =>
  if x0 = true then
   some ((S_Trace.mk ([] : List Bool) ([] : List (List Bool))), 2)
  else
   if (decide ((r0.1.length : Int) ≥ 100)) = true then
    some ((S_Trace.mk ([] : List Bool) ([] : List (List Bool))), 4)
   else
    (s_ref38_Run p1 p2 p3 p4).bind fun r1 =>
    some (r1, 0)
theorem s_ref38_Trace_ok {p0 : S_Circuit} {p1 : (List S_Obligation)} {p2 : Int} {p3 : (List Bool)} {p4 : (List Bool)} {r : S_Trace × Int} (h : s_ref38_Trace p0 p1 p2 p3 p4 = some r) : Ans env k_ref38_Trace [(.ag [(.d true (.int .i64 p0.Inputs)), (.d false (.lst 2 (p0.Latches.map eS_Latch))), (.d false (.lst 2 (p0.Ands.map eS_And))), (.d false (.lst 1 (p0.Bads.map eI))), (.d false (.lst 1 (p0.Constraints.map eI)))]), (.d false (.lst 3 (p1.map eS_Obligation))), (.d true (.int .i64 p2)), (.d false (.lst 1 (p3.map eB))), (.d false (.lst 1 (p4.map eB)))] (.tp [(.ag [(.d true (.lst 1 (r.1.First.map eB))), (.d true (.lst 1 (r.1.Inputs.map (eL 1 eB))))]), (.d true (.int .i64 r.2))]) := by
 unfold s_ref38_Trace at h
 unfold Ans
 rw [AtF fn_ref38_Trace]
 simp only [n_ref38_Trace]
 replace h := bsome h; obtain ⟨r0, H0, h⟩ := h
 have k0 := AtCall_all (s_ref38_Chain_ok H0); try dsimp only at k0
 replace h := itb h; rcases h with ⟨c0, h⟩ | ⟨c0, h⟩
 ·cases h
  simp only [go_sem, *]
  exact ⟨_, rfl⟩
 ·replace h := bsome h; obtain ⟨x0, H1, h⟩ := h
  try simp only [go_sem, *]
  refine WC.mono (Q := fun e σ' => e = .normal ∧ σ'.get 1 = (.d false (.lst 3 (p1.map eS_Obligation))) ∧ σ'.get 2 = (.d true (.int .i64 p2)) ∧ σ'.get 3 = (.d false (.lst 1 (p3.map eB))) ∧ σ'.get 4 = (.d false (.lst 1 (p4.map eB))) ∧ σ'.get 10 = (.ptr 0 1 0) ∧ σ'.get 12 = (.d true (.lst 1 (r0.1.map eI))) ∧ σ'.get 37 = (.d true (.bool x0)) ∧ σ'.obj 0 1 = oB5 (([] : List Bool).length) (([] : List (List Bool)).length) ∧ σ'.obj 0 2 = some (.rw 1 (([] : List Bool).map eB) false) ∧ σ'.obj 0 3 = some (.rw 1 (([] : List (List Bool)).map (eL 1 eB)) false) ∧ σ'.up.length = 0) ?_ ?_
  ·replace h := H1
   clear H1
   replace h := itb h; rcases h with ⟨c1, h⟩ | ⟨c1, h⟩
   ·cases h
    simp only [go_sem, c_ref38_Trace_p1, *]
   ·cases h
    simp only [go_sem, c_ref38_Trace_p1, *]
  ·intro e τ hJ
   obtain ⟨rfl, f0, f1, f2, f3, f4, f5, f6, f7, f8, f9, f10⟩ := hJ
   replace h := itb h; rcases h with ⟨c2, h⟩ | ⟨c2, h⟩
   ·cases h
    simp only [go_sem, *]
    exact ⟨_, rfl⟩
   ·replace h := itb h; rcases h with ⟨c3, h⟩ | ⟨c3, h⟩
    ·cases h
     simp only [go_sem, *]
     exact ⟨_, rfl⟩
    ·replace h := bsome h; obtain ⟨r1, H2, h⟩ := h
     have k1 := AtCall_all (s_ref38_Run_ok H2); try dsimp only at k1
     cases h
     simp only [go_sem, *]
     exact ⟨_, rfl⟩
end Go.Proofs.Ytkhgnkfdpabflaa.Vm
