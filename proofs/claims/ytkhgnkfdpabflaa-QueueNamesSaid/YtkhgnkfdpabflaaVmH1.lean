/- Walks over the code of functions. Printed. -/
import Derived.Test.YtkhgnkfdpabflaaVmH0
namespace Go.Proofs.Ytkhgnkfdpabflaa.Vm
open Go
set_option linter.unusedSimpArgs false
set_option linter.unusedVariables false
set_option maxRecDepth 4000
set_option maxHeartbeats 4000000
attribute [local go_sem] WC_skip WC_exit WC_ret WC_seq WC_block WC_cond WC_rg KSeq_normal KSeq_ret KSeq_exit KBlock_normal KBlock_ret KBlock_exit KN_eq KRg_eq KSt_eq KSet_eq KLen_eq KPick_eq KG_eq KCond_eq boolP_d biteC_true biteC_false biteO_true biteO_false WO_nil WO_mv WO_nilr WO_pick WO_bin WO_beq WO_eqs WO_un WO_cvt WO_alloc WO_box WO_load WO_store WO_fad WO_fval WO_ix WO_ixb WO_ixa WO_bld WO_bsl WO_mks WO_slc WO_len WO_mx WO_mn WO_app WO_cpy WO_clr WO_xt WO_fn WO_chk WO_g
 WO_call WO_callv callK KHand KCallv KRes KBack_ret KRet_eq KAns env_fn St.hand St.lend St.lends St.lend1 St.vals St.frz fr1_obj fr1_get fr1_upl frO_rw frO_fz frO_none St.rowOf List.foldl_nil List.foldl_cons List.map_cons List.map_nil
 optP_some optP_none
 St.get_set St.obj_set St.get_setObj St.obj_setObj St.get_kill St.obj_kill0 St.obj_killS St.get_ini St.obj_ini0 gt_nil gt_zero gt_succ St.val_t St.val_c
 stl_get stl_obj0 stl_objS stl_upl stv_d stv_dx stv_nil stv_row0 stv_rowS stv_ptr stv_rel0 stv_pd stv_ag stv_tp stv_cl stvs_nil stvs_cons obs_box obs_rw obs_fz
 ret_get ret_obj ret_up ini_objS ini_upl ini_upl0 set_upl kill_upl setObj_upl0 setObj_uplS
 kill_d kill_dx kill_nil kill_row0 kill_rowS kill_ptr0 kill_ptrS kill_rel0 kill_relS kill_pd kill_ag kill_tp kill_cl kills_nil kills_cons obk_box obk_rw obk_fz
 pre step bin_int bin_shr bin_shl beq_bool arith_add arith_sub arith_mul arith_and arith_or arith_xor arith_eql arith_neq arith_lss arith_leq arith_gtr arith_geq arith_quo2 arith_rem2 arith_shr1 arith_shl1 maxOf_two minOf_two un lenOf cellsOf ofCells wid sub? slice_map slice_head slice_full' slice_z slice_c slice_s put St.new zcells St.load St.store Vm.fad St.ix St.slc St.els St.app St.wants St.skip I.dst resVal resVals Z.v Z.t? ofT T.cells V.shift V.shifts V.down V.downs downL chkV eqs eqFlat fill fillT flatFill T.noL T.flat
 dat dat2 dat1 dats1 dats2 Fn.pure FreeRows_nil FreeRows_cons setRows ren ren2 ren1 KTk take takes2 take2 takes1 take1 take0 rowsOb Vm.st Option.isNone_none Option.isNone_some List.mem_cons List.not_mem_nil not_or
 Option.map_some Option.map_none Option.bind_some List.length_cons List.length_nil List.length_append List.length_set cpl_length List.length_map List.length_replicate List.map_append List.map_set List.map_replicate List.getElem?_map List.getElem?_cons_zero List.getElem?_cons_succ List.drop_zero List.take_zero List.drop_succ_cons List.take_succ_cons List.take_nil List.drop_nil List.zip_cons_cons List.zip_nil_left List.zip_nil_right List.mapM_cons List.mapM_nil Option.pure_def Option.bind_eq_bind List.all_cons List.all_nil List.append_eq_nil_iff List.cons_ne_nil List.map_eq_nil_iff List.set_cons_zero List.set_cons_succ List.replicate_succ List.replicate_zero
 Nat.reduceEqDiff Nat.reduceLeDiff Nat.reduceAdd Nat.reduceSub Nat.reduceLT Nat.reduceMul Nat.reduceBEq Nat.ble_eq reduceIte reduceCtorEq Nat.add_zero Nat.sub_zero Nat.zero_add and_true true_and and_false false_and and_self or_true true_or false_or or_false if_true if_false Nat.one_ne_zero not_true not_false_eq_true not_false_iff Bool.false_eq_true forall_const true_implies false_implies implies_true BEq.rfl Bool.not_true Bool.not_false Bool.and_true Bool.true_and Bool.and_false Bool.false_and Bool.and_self Bool.true_bne Bool.false_bne not_true_eq_false List.nil_append List.append_nil List.cons_append dInt dBool Nat.le_refl Nat.le_add_right St.toT St.toTs ne_eq
 ff_set ff_setObj ff_setObjl ff_ini0 ff_iniS ff_ret ff_frz1 mg_get mg_obj0 mg_objS mg_up KBack_mg mrv_d mrv_nil mrv_ptr0 mrv_ptrS mrv_row0 mrv_rowS mrv_ag mrv_tp mrv_cl mrvs_nil mrvs_cons obm_box obm_rw obm_fz
 Sum.elim_inl Sum.elim_inr Option.some.injEq Ob.rw.injEq exists_eq2 eI eU8 eU64 eB eL eS_Wait eS_Latch eS_Obligation eS_And eS_Circuit eA4_Int eS_Trace oB0 oB1 oB2 oB3 oB4 oB5 oB6 at_gates_Check_1 at_gates_Check_2 at_queue_chain at_queue_order at_slices_ContainsFunc_of_api_Latch at_slices_ContainsFunc_of_int at_slices_IndexFunc_of_api_Latch at_slices_IndexFunc_of_int at_slices_IsSortedFunc_of_api_Wait c_clause_Check c_clause_known c_cmp_Compare_of_int c_cmp_Or_of_int c_cmp_isNaN_of_int c_gates_Check c_gates_Check_1 c_gates_Check_2 c_gates_starts c_law38_popped c_law38_pushed c_queue_Chain c_queue_Check c_queue_Pop c_queue_Push c_queue_Right c_queue_Trace c_queue_chain c_queue_may c_queue_order c_ref04_Same c_ref06_Same c_ref06_SameAll c_ref13_Same c_ref38_Same c_slices_ContainsFunc_of_api_Latch c_slices_ContainsFunc_of_int c_slices_IndexFunc_of_api_Latch c_slices_IndexFunc_of_int c_slices_IsSortedFunc_of_api_Wait cloneX ex_slices_Clone_of_api_Wait ex_slices_Clone_of_bool ex_slices_Insert_of_api_Wait fn_clause_Check fn_clause_known fn_cmp_Compare_of_int fn_cmp_Or_of_int fn_cmp_isNaN_of_int fn_gates_Check fn_gates_Check_1 fn_gates_Check_2 fn_gates_starts fn_queue_Chain fn_queue_Check fn_queue_Pop fn_queue_Push fn_queue_Right fn_queue_chain fn_queue_may fn_queue_order fn_ref04_Same fn_ref06_SameAll fn_slices_Clone_of_api_Wait fn_slices_Clone_of_bool fn_slices_Collect_of_int fn_slices_ContainsFunc_of_api_Latch fn_slices_ContainsFunc_of_int fn_slices_IndexFunc_of_api_Latch fn_slices_IndexFunc_of_int fn_slices_Insert_of_api_Wait fn_slices_IsSortedFunc_of_api_Wait insA_length insertX map_insA n_clause_Check n_clause_known n_cmp_Compare_of_int n_cmp_Or_of_int n_cmp_isNaN_of_int n_gates_Check n_gates_Check_1 n_gates_Check_2 n_gates_starts n_queue_Chain n_queue_Check n_queue_Pop n_queue_Push n_queue_Right n_queue_chain n_queue_may n_queue_order n_ref04_Same n_ref06_SameAll n_slices_Collect_of_int n_slices_ContainsFunc_of_api_Latch n_slices_ContainsFunc_of_int n_slices_IndexFunc_of_api_Latch n_slices_IndexFunc_of_int n_slices_IsSortedFunc_of_api_Wait
def s_queue_may (p0 : S_Wait) : Option (Bool) :=
 (if (decide (p0.Frame ≥ 0)) = true then
   if (decide (p0.Frame ≤ 60)) = true then
    if (decide (p0.Number ≥ 0)) = true then
     some (decide (p0.Number < 1000))
    else
     some false
   else
    some false
  else
   some false).bind fun x0 =>
 some x0
theorem s_queue_may_ok {p0 : S_Wait} {r : Bool} (h : s_queue_may p0 = some r) : Ans env k_queue_may [(.ag [(.d true (.int .i64 p0.Frame)), (.d true (.int .i64 p0.Number))])] (.d true (.bool r)) := by
 unfold s_queue_may at h
 unfold Ans
 rw [AtF fn_queue_may]
 simp only [n_queue_may]
 replace h := bsome h; obtain ⟨x0, H0, h⟩ := h
 try simp only [go_sem, *]
 refine WC.mono (Q := fun e σ' => e = .normal ∧ σ'.get 2 = (.d true (.bool x0)) ∧ σ'.up.length = 0) ?_ ?_
 ·replace h := H0
  clear H0
  replace h := itb h; rcases h with ⟨c0, h⟩ | ⟨c0, h⟩
  ·replace h := itb h; rcases h with ⟨c1, h⟩ | ⟨c1, h⟩
   ·replace h := itb h; rcases h with ⟨c2, h⟩ | ⟨c2, h⟩
    ·cases h
     simp only [go_sem, c_queue_may_p1, *]
    ·cases h
     simp only [go_sem, c_queue_may_p1, *]
   ·cases h
    simp only [go_sem, c_queue_may_p1, *]
  ·cases h
   simp only [go_sem, c_queue_may_p1, *]
 ·intro e τ hJ
  obtain ⟨rfl, f0, f1⟩ := hJ
  cases h
  simp only [go_sem, *]
  exact ⟨_, rfl⟩
def s_cmp_isNaN_of_int (p0 : Int) : Option (Bool) :=
 some (p0 != p0)
theorem s_cmp_isNaN_of_int_ok {p0 : Int} {r : Bool} (h : s_cmp_isNaN_of_int p0 = some r) : Ans env k_cmp_isNaN_of_int [(.d true (.int .i64 p0))] (.d true (.bool r)) := by
 unfold s_cmp_isNaN_of_int at h
 unfold Ans
 rw [AtF fn_cmp_isNaN_of_int]
 simp only [n_cmp_isNaN_of_int]
 cases h
 simp only [go_sem, *]
 exact ⟨_, rfl⟩
noncomputable def s_cmp_Compare_of_int (p0 : Int) (p1 : Int) : Option (Int) :=
 (s_cmp_isNaN_of_int p0).bind fun r0 =>
 (s_cmp_isNaN_of_int p1).bind fun r1 =>
 if r0 = true then
  if r1 = true then
   some 0
  else
   some (-1)
 else
  if r1 = true then
   some 1
  else
   if (decide (p0 < p1)) = true then
    some (-1)
   else
    if (decide (p0 > p1)) = true then
     some 1
    else
     some 0
theorem s_cmp_Compare_of_int_ok {p0 : Int} {p1 : Int} {r : Int} (h : s_cmp_Compare_of_int p0 p1 = some r) : Ans env k_cmp_Compare_of_int [(.d true (.int .i64 p0)), (.d true (.int .i64 p1))] (.d true (.int .i64 r)) := by
 unfold s_cmp_Compare_of_int at h
 unfold Ans
 rw [AtF fn_cmp_Compare_of_int]
 simp only [n_cmp_Compare_of_int]
 replace h := bsome h; obtain ⟨r0, H0, h⟩ := h
 have k0 := AtCall_all (s_cmp_isNaN_of_int_ok H0); try dsimp only at k0
 replace h := bsome h; obtain ⟨r1, H1, h⟩ := h
 have k1 := AtCall_all (s_cmp_isNaN_of_int_ok H1); try dsimp only at k1
 replace h := itb h; rcases h with ⟨c0, h⟩ | ⟨c0, h⟩
 ·replace h := itb h; rcases h with ⟨c1, h⟩ | ⟨c1, h⟩
  ·cases h
   simp only [go_sem, *]
   exact ⟨_, rfl⟩
  ·cases h
   simp only [go_sem, *]
   exact ⟨_, rfl⟩
 ·replace h := itb h; rcases h with ⟨c2, h⟩ | ⟨c2, h⟩
  ·cases h
   simp only [go_sem, *]
   exact ⟨_, rfl⟩
  ·replace h := itb h; rcases h with ⟨c3, h⟩ | ⟨c3, h⟩
   ·cases h
    simp only [go_sem, *]
    exact ⟨_, rfl⟩
   ·replace h := itb h; rcases h with ⟨c4, h⟩ | ⟨c4, h⟩
    ·cases h
     simp only [go_sem, *]
     exact ⟨_, rfl⟩
    ·cases h
     simp only [go_sem, *]
     exact ⟨_, rfl⟩
def b_cmp_Or_of_int_L0 (p0 : (List Int)) (s0 : Int) : Option ((Int) ⊕ ((Unit) ⊕ (Int))) :=
 if (decide (s0 < (p0.length : Int))) = true then
  (idx p0 s0).bind fun x0 =>
  if (x0 != 0) = true then
   some (Sum.inr (Sum.inr x0))
  else
   some (Sum.inl (IntKind.wrap .i64 (s0 + 1)))
 else
  some (Sum.inr (Sum.inl ()))
def I_cmp_Or_of_int_L0 (p0 : (List Int)) (s0 : Int) (σ : St) : Prop := σ.get 3 = (.d true (.int .i64 0)) ∧ σ.get 6 = (.d false (.lst 1 (p0.map eI))) ∧ σ.get 7 = (.d true (.int .i64 (p0.length : Int))) ∧ σ.get 8 = (.d true (.int .i64 s0)) ∧ σ.up.length = 0
def J_cmp_Or_of_int_L0 (p0 : (List Int)) (r : (Unit) ⊕ (Int)) (e : Ex) (σ' : St) : Prop := (Sum.elim (fun o0 => e = (.exit 0) ∧ σ'.get 3 = (.d true (.int .i64 0)) ∧ σ'.up.length = 0) (fun o1 => e = .ret ∧ σ'.get 2 = (.d true (.int .i64 o1)) ∧ σ'.up.length = 0)) r
theorem L_cmp_Or_of_int_L0 (p0 : (List Int)) {s : Int} {r : (Unit) ⊕ (Int)} (h : Lp (b_cmp_Or_of_int_L0 p0) s = some r) {σ : St} {Q : Ex → St → Prop} (hI : I_cmp_Or_of_int_L0 p0 s σ) (hQ : ∀ e σ', J_cmp_Or_of_int_L0 p0 r e σ' → Q e σ') : WC env (.loop c_cmp_Or_of_int_l1) σ Q :=
 WC_Lp (I_cmp_Or_of_int_L0 p0) (J_cmp_Or_of_int_L0 p0) (by
  clear h hI hQ
  clear s r σ Q
  intro s0 σ x hI h
  obtain ⟨f0, f1, f2, f3, f4⟩ := hI
  unfold b_cmp_Or_of_int_L0 at h
  replace h := itb h; rcases h with ⟨c0, h⟩ | ⟨c0, h⟩
  ·replace h := bsome h; obtain ⟨x0, H0, h⟩ := h
   have n0 := idx_n H0; have q0 := idx_q H0; have y0 := idx_x H0
   replace h := itb h; rcases h with ⟨c1, h⟩ | ⟨c1, h⟩
   ·cases h
    simp only [go_sem, LQ_inr, J_cmp_Or_of_int_L0, c_cmp_Or_of_int_l1, *]
   ·cases h
    simp only [go_sem, LQ_inl, I_cmp_Or_of_int_L0, c_cmp_Or_of_int_l1, *]
  ·cases h
   simp only [go_sem, LQ_inr, J_cmp_Or_of_int_L0, c_cmp_Or_of_int_l1, *]
) h hI hQ
noncomputable def s_cmp_Or_of_int (p0 : (List Int)) : Option (Int) :=
 (Lp (b_cmp_Or_of_int_L0 p0) 0).bind fun x0 =>
 match x0 with
 | .inl x0' =>
  some 0
 | .inr x0' =>
  some x0'
theorem s_cmp_Or_of_int_ok {p0 : (List Int)} {r : Int} (h : s_cmp_Or_of_int p0 = some r) : Ans env k_cmp_Or_of_int [(.d false (.lst 1 (p0.map eI)))] (.d true (.int .i64 r)) := by
 unfold s_cmp_Or_of_int at h
 unfold Ans
 rw [AtF fn_cmp_Or_of_int]
 simp only [n_cmp_Or_of_int]
 replace h := bsome h; obtain ⟨x0, H0, h⟩ := h
 try simp only [go_sem, *]
 refine L_cmp_Or_of_int_L0 p0 H0 ?_ ?_
 ·clear h
  simp only [go_sem, I_cmp_Or_of_int_L0, *]
 ·intro e τ hJ
  rcases x0 with x0' | x0'
  ·obtain ⟨rfl, f0, f1⟩ := hJ
   cases h
   simp only [go_sem, *]
   exact ⟨_, rfl⟩
  ·obtain ⟨rfl, f2, f3⟩ := hJ
   cases h
   simp only [go_sem, *]
   exact ⟨_, rfl⟩
noncomputable def b_queue_Check_L0 (p0 : (List S_Wait)) (s0 : Int) : Option ((Int) ⊕ ((Unit) ⊕ (Unit))) :=
 if (decide (s0 < (p0.length : Int))) = true then
  (idx p0 s0).bind fun x0 =>
  (s_queue_may x0).bind fun r0 =>
  if r0 = true then
   some (Sum.inl (IntKind.wrap .i64 (s0 + 1)))
  else
   some (Sum.inr (Sum.inr ()))
 else
  some (Sum.inr (Sum.inl ()))
def I_queue_Check_L0 (p0 : (List S_Wait)) (s0 : Int) (σ : St) : Prop := σ.get 0 = (.d false (.lst 2 (p0.map eS_Wait))) ∧ σ.get 8 = (.d false (.lst 2 (p0.map eS_Wait))) ∧ σ.get 9 = (.d true (.int .i64 (p0.length : Int))) ∧ σ.get 10 = (.d true (.int .i64 s0)) ∧ σ.up.length = 0
def J_queue_Check_L0 (p0 : (List S_Wait)) (r : (Unit) ⊕ (Unit)) (e : Ex) (σ' : St) : Prop := (Sum.elim (fun o0 => e = (.exit 0) ∧ σ'.get 0 = (.d false (.lst 2 (p0.map eS_Wait))) ∧ σ'.up.length = 0) (fun o1 => e = .ret ∧ σ'.get 2 = (.d true (.int .i64 8)) ∧ σ'.up.length = 0)) r
theorem L_queue_Check_L0 (p0 : (List S_Wait)) {s : Int} {r : (Unit) ⊕ (Unit)} (h : Lp (b_queue_Check_L0 p0) s = some r) {σ : St} {Q : Ex → St → Prop} (hI : I_queue_Check_L0 p0 s σ) (hQ : ∀ e σ', J_queue_Check_L0 p0 r e σ' → Q e σ') : WC env (.loop c_queue_Check_l1) σ Q :=
 WC_Lp (I_queue_Check_L0 p0) (J_queue_Check_L0 p0) (by
  clear h hI hQ
  clear s r σ Q
  intro s0 σ x hI h
  obtain ⟨f0, f1, f2, f3, f4⟩ := hI
  unfold b_queue_Check_L0 at h
  replace h := itb h; rcases h with ⟨c1, h⟩ | ⟨c1, h⟩
  ·replace h := bsome h; obtain ⟨x0, H0, h⟩ := h
   have n0 := idx_n H0; have q0 := idx_q H0; have y0 := idx_x H0
   replace h := bsome h; obtain ⟨r0, H1, h⟩ := h
   have k0 := AtCall_all (s_queue_may_ok H1); try dsimp only at k0
   replace h := itb h; rcases h with ⟨c2, h⟩ | ⟨c2, h⟩
   ·cases h
    simp only [go_sem, LQ_inl, I_queue_Check_L0, c_queue_Check_l1, *]
   ·cases h
    simp only [go_sem, LQ_inr, J_queue_Check_L0, c_queue_Check_l1, *]
  ·cases h
   simp only [go_sem, LQ_inr, J_queue_Check_L0, c_queue_Check_l1, *]
) h hI hQ
noncomputable def b_queue_Check_L1 (p0 : (List S_Wait)) (s1 : Int) : Option ((Int) ⊕ ((Unit) ⊕ (Unit))) :=
 if (decide (s1 > 0)) = true then
  (idx p0 s1).bind fun x2 =>
  (idx p0 (IntKind.wrap .i64 (s1 - 1))).bind fun x3 =>
  (s_cmp_Compare_of_int x2.Frame x3.Frame).bind fun r0 =>
  (s_cmp_Compare_of_int x2.Number x3.Number).bind fun r1 =>
  (s_cmp_Or_of_int ([r0, r1] : List Int)).bind fun r2 =>
  if (decide (r2 < 0)) = true then
   some (Sum.inr (Sum.inr ()))
  else
   some (Sum.inl (IntKind.wrap .i64 (s1 - 1)))
 else
  some (Sum.inr (Sum.inl ()))
def I_queue_Check_L1 (p0 : (List S_Wait)) (s1 : Int) (σ : St) : Prop := σ.get 0 = (.d false (.lst 2 (p0.map eS_Wait))) ∧ σ.get 1 = (.cl k_queue_order []) ∧ σ.get 5 = (.d true (.int .i64 s1)) ∧ σ.up.length = 1
def J_queue_Check_L1 (p0 : (List S_Wait)) (r : (Unit) ⊕ (Unit)) (e : Ex) (σ' : St) : Prop := (Sum.elim (fun o0 => e = (.exit 0) ∧ σ'.up.length = 1) (fun o1 => e = .ret ∧ σ'.get 4 = (.d true (.bool false)) ∧ σ'.up.length = 1)) r
theorem L_queue_Check_L1 (p0 : (List S_Wait)) {s : Int} {r : (Unit) ⊕ (Unit)} (h : Lp (b_queue_Check_L1 p0) s = some r) {σ : St} {Q : Ex → St → Prop} (hI : I_queue_Check_L1 p0 s σ) (hQ : ∀ e σ', J_queue_Check_L1 p0 r e σ' → Q e σ') : WC env (.loop c_slices_IsSortedFunc_of_api_Wait_l1) σ Q :=
 WC_Lp (I_queue_Check_L1 p0) (J_queue_Check_L1 p0) (by
  clear h hI hQ
  clear s r σ Q
  intro s1 σ x hI h
  obtain ⟨f2, f3, f4, f5⟩ := hI
  unfold b_queue_Check_L1 at h
  replace h := itb h; rcases h with ⟨c1, h⟩ | ⟨c1, h⟩
  ·replace h := bsome h; obtain ⟨x2, H2, h⟩ := h
   have n0 := idx_n H2; have q0 := idx_q H2; have y0 := idx_x H2
   replace h := bsome h; obtain ⟨x3, H3, h⟩ := h
   have n1 := idx_n H3; have q1 := idx_q H3; have y1 := idx_x H3
   replace h := bsome h; obtain ⟨r0, H4, h⟩ := h
   have k0 := AtCall_all (s_cmp_Compare_of_int_ok H4); try dsimp only at k0
   replace h := bsome h; obtain ⟨r1, H5, h⟩ := h
   have k1 := AtCall_all (s_cmp_Compare_of_int_ok H5); try dsimp only at k1
   replace h := bsome h; obtain ⟨r2, H6, h⟩ := h
   have k2 := AtCall_all (s_cmp_Or_of_int_ok H6); try dsimp only at k2
   try simp only [List.map_cons, List.map_nil, List.map_append, List.map_set, List.nil_append, List.map_replicate, eI, eU8, eB, eL, eS_Wait, eS_Latch, eS_Obligation, eS_And, eS_Circuit, eA4_Int, eS_Trace] at k2
   replace h := itb h; rcases h with ⟨c2, h⟩ | ⟨c2, h⟩
   ·cases h
    simp (maxDischargeDepth := 6) only [go_sem, LQ_inr, J_queue_Check_L1, c_slices_IsSortedFunc_of_api_Wait_l1, c_queue_Check_p1, clF_small (f := k_queue_order) rfl, clA_small (f := k_queue_order) rfl, fnV_small (E := env) (f := k_queue_order) fn_queue_order rfl rfl, *]
   ·cases h
    simp (maxDischargeDepth := 6) only [go_sem, LQ_inl, I_queue_Check_L1, c_slices_IsSortedFunc_of_api_Wait_l1, c_queue_Check_p1, clF_small (f := k_queue_order) rfl, clA_small (f := k_queue_order) rfl, fnV_small (E := env) (f := k_queue_order) fn_queue_order rfl rfl, *]
  ·cases h
   simp only [go_sem, LQ_inr, J_queue_Check_L1, c_slices_IsSortedFunc_of_api_Wait_l1, c_queue_Check_p1, *]
) h hI hQ
noncomputable def s_queue_Check (p0 : (List S_Wait)) : Option (Int) :=
 if (decide ((p0.length : Int) > 1000)) = true then
  some 4
 else
  (Lp (b_queue_Check_L0 p0) 0).bind fun x0 =>
  match x0 with
  | .inl x0' =>
   ((Lp (b_queue_Check_L1 p0) (IntKind.wrap .i64 ((p0.length : Int) - 1))).bind fun x2 =>
    match x2 with
    | .inl x2' =>
     some false
    | .inr x2' =>
     some true).bind fun x1 =>
   if x1 = true then
    some 8
   else
    some 0
  | .inr x0' =>
   some 8
theorem s_queue_Check_ok {p0 : (List S_Wait)} {r : Int} (h : s_queue_Check p0 = some r) : Ans env k_queue_Check [(.d false (.lst 2 (p0.map eS_Wait)))] (.d true (.int .i64 r)) := by
 unfold s_queue_Check at h
 unfold Ans
 rw [AtF fn_queue_Check]
 simp only [n_queue_Check]
 replace h := itb h; rcases h with ⟨c0, h⟩ | ⟨c0, h⟩
 ·cases h
  simp only [go_sem, *]
  exact ⟨_, rfl⟩
 ·replace h := bsome h; obtain ⟨x0, H0, h⟩ := h
  try simp only [go_sem, *]
  refine L_queue_Check_L0 p0 H0 ?_ ?_
  ·clear h
   simp only [go_sem, I_queue_Check_L0, *]
  ·intro e τ hJ
   rcases x0 with x0' | x0'
   ·obtain ⟨rfl, f0, f1⟩ := hJ
    replace h := bsome h; obtain ⟨x1, H1, h⟩ := h
    try simp only [go_sem, *]
    refine WC.mono (Q := fun e σ' => e = .normal ∧ σ'.get 20 = (.d true (.bool x1)) ∧ σ'.up.length = 0) ?_ ?_
    ·replace h := H1
     clear H1
     replace h := bsome h; obtain ⟨x2, H2, h⟩ := h
     try simp only [go_sem, c_queue_Check_p1, *]
     refine L_queue_Check_L1 p0 H2 ?_ ?_
     ·clear h
      simp only [go_sem, I_queue_Check_L1, c_queue_Check_p1, *]
     ·intro e τ hJ
      rcases x2 with x2' | x2'
      ·obtain ⟨rfl, f2⟩ := hJ
       cases h
       simp only [go_sem, c_queue_Check_p1, *]
      ·obtain ⟨rfl, f3, f4⟩ := hJ
       cases h
       simp only [go_sem, c_queue_Check_p1, *]
    ·intro e τ hJ
     obtain ⟨rfl, f5, f6⟩ := hJ
     replace h := itb h; rcases h with ⟨c1, h⟩ | ⟨c1, h⟩
     ·cases h
      simp only [go_sem, *]
      exact ⟨_, rfl⟩
     ·cases h
      simp only [go_sem, *]
      exact ⟨_, rfl⟩
   ·obtain ⟨rfl, f7, f8⟩ := hJ
    cases h
    simp only [go_sem, *]
    exact ⟨_, rfl⟩
noncomputable def b_queue_Push_L0 (p0 : (List S_Wait)) (p1 : S_Wait) (s0 : Int) : Option ((Int) ⊕ (Int)) :=
 if (decide (s0 < (p0.length : Int))) = true then
  (idx p0 s0).bind fun x0 =>
  (s_cmp_Compare_of_int p1.Frame x0.Frame).bind fun r2 =>
  (s_cmp_Compare_of_int p1.Number x0.Number).bind fun r3 =>
  (s_cmp_Or_of_int ([r2, r3] : List Int)).bind fun r4 =>
  if (decide (r4 < 0)) = true then
   some (Sum.inr s0)
  else
   some (Sum.inl (IntKind.wrap .i64 (s0 + 1)))
 else
  some (Sum.inr (p0.length : Int))
def I_queue_Push_L0 (p0 : (List S_Wait)) (p1 : S_Wait) (s0 : Int) (σ : St) : Prop := σ.get 0 = (.d false (.lst 2 (p0.map eS_Wait))) ∧ σ.get 3 = (.ptr 0 0 0) ∧ σ.get 7 = (.d true (.int .i64 (p0.length : Int))) ∧ σ.get 23 = (.d false (.lst 2 (p0.map eS_Wait))) ∧ σ.get 24 = (.d true (.int .i64 (p0.length : Int))) ∧ σ.get 25 = (.d true (.int .i64 s0)) ∧ σ.obj 0 0 = oB0 p1 ∧ σ.obj 0 2 = none ∧ σ.obj 0 40 = none ∧ σ.obj 0 44 = none ∧ σ.up.length = 0
def J_queue_Push_L0 (p0 : (List S_Wait)) (p1 : S_Wait) (r : Int) (e : Ex) (σ' : St) : Prop := e = (.exit 0) ∧ σ'.get 0 = (.d false (.lst 2 (p0.map eS_Wait))) ∧ σ'.get 3 = (.ptr 0 0 0) ∧ σ'.get 7 = (.d true (.int .i64 r)) ∧ σ'.obj 0 0 = oB0 p1 ∧ σ'.obj 0 2 = none ∧ σ'.obj 0 40 = none ∧ σ'.obj 0 44 = none ∧ σ'.up.length = 0
theorem L_queue_Push_L0 (p0 : (List S_Wait)) (p1 : S_Wait) {s : Int} {r : Int} (h : Lp (b_queue_Push_L0 p0 p1) s = some r) {σ : St} {Q : Ex → St → Prop} (hI : I_queue_Push_L0 p0 p1 s σ) (hQ : ∀ e σ', J_queue_Push_L0 p0 p1 r e σ' → Q e σ') : WC env (.loop c_queue_Push_l1) σ Q :=
 WC_Lp (I_queue_Push_L0 p0 p1) (J_queue_Push_L0 p0 p1) (by
  clear h hI hQ
  clear s r σ Q
  intro s0 σ x hI h
  obtain ⟨f0, f1, f2, f3, f4, f5, f6, f7, f8, f9, f10⟩ := hI
  unfold b_queue_Push_L0 at h
  replace h := itb h; rcases h with ⟨c3, h⟩ | ⟨c3, h⟩
  ·replace h := bsome h; obtain ⟨x0, H2, h⟩ := h
   have n0 := idx_n H2; have q0 := idx_q H2; have y0 := idx_x H2
   replace h := bsome h; obtain ⟨r2, H3, h⟩ := h
   have k2 := AtCall_all (s_cmp_Compare_of_int_ok H3); try dsimp only at k2
   replace h := bsome h; obtain ⟨r3, H4, h⟩ := h
   have k3 := AtCall_all (s_cmp_Compare_of_int_ok H4); try dsimp only at k3
   replace h := bsome h; obtain ⟨r4, H5, h⟩ := h
   have k4 := AtCall_all (s_cmp_Or_of_int_ok H5); try dsimp only at k4
   try simp only [List.map_cons, List.map_nil, List.map_append, List.map_set, List.nil_append, List.map_replicate, eI, eU8, eB, eL, eS_Wait, eS_Latch, eS_Obligation, eS_And, eS_Circuit, eA4_Int, eS_Trace] at k4
   replace h := itb h; rcases h with ⟨c4, h⟩ | ⟨c4, h⟩
   ·cases h
    simp only [go_sem, LQ_inr, J_queue_Push_L0, c_queue_Push_l1, *]
   ·cases h
    simp only [go_sem, LQ_inl, I_queue_Push_L0, c_queue_Push_l1, *]
  ·cases h
   simp only [go_sem, LQ_inr, J_queue_Push_L0, c_queue_Push_l1, *]
) h hI hQ
noncomputable def s_queue_Push (p0 : (List S_Wait)) (p1 : S_Wait) : Option ((List S_Wait) × Int) :=
 (s_queue_Check p0).bind fun r0 =>
 if (r0 != 0) = true then
  some (([] : List S_Wait), r0)
 else
  (s_queue_may p1).bind fun r1 =>
  if r1 = true then
   if ((p0.length : Int) == 1000) = true then
    some (([] : List S_Wait), 4)
   else
    (Lp (b_queue_Push_L0 p0 p1) 0).bind fun x0 =>
    if p0.length ≤ big then
     if (0 ≤ x0 ∧ x0 ≤ (p0.length : Int)) ∧ p0.length < big then
      some ((insA p0 x0 p1), 0)
     else none
    else none
  else
   some (([] : List S_Wait), 2)
theorem s_queue_Push_ok {p0 : (List S_Wait)} {p1 : S_Wait} {r : (List S_Wait) × Int} (h : s_queue_Push p0 p1 = some r) : Ans env k_queue_Push [(.d false (.lst 2 (p0.map eS_Wait))), (.ag [(.d true (.int .i64 p1.Frame)), (.d true (.int .i64 p1.Number))])] (.tp [(.d true (.lst 2 (r.1.map eS_Wait))), (.d true (.int .i64 r.2))]) := by
 unfold s_queue_Push at h
 unfold Ans
 rw [AtF fn_queue_Push]
 simp only [n_queue_Push]
 replace h := bsome h; obtain ⟨r0, H0, h⟩ := h
 have k0 := AtCall_all (s_queue_Check_ok H0); try dsimp only at k0
 replace h := itb h; rcases h with ⟨c0, h⟩ | ⟨c0, h⟩
 ·cases h
  simp only [go_sem, *]
  exact ⟨_, rfl⟩
 ·replace h := bsome h; obtain ⟨r1, H1, h⟩ := h
  have k1 := AtCall_all (s_queue_may_ok H1); try dsimp only at k1
  replace h := itb h; rcases h with ⟨c1, h⟩ | ⟨c1, h⟩
  ·replace h := itb h; rcases h with ⟨c2, h⟩ | ⟨c2, h⟩
   ·cases h
    simp only [go_sem, *]
    exact ⟨_, rfl⟩
   ·replace h := bsome h; obtain ⟨x0, H2, h⟩ := h
    try simp only [go_sem, *]
    refine L_queue_Push_L0 p0 p1 H2 ?_ ?_
    ·clear h
     simp only [go_sem, I_queue_Push_L0, *]
    ·intro e τ hJ
     obtain ⟨rfl, f0, f1, f2, f3, f4, f5, f6, f7⟩ := hJ
     replace h := need h; obtain ⟨H3, h⟩ := h
     replace h := need h; obtain ⟨H4, h⟩ := h
     cases h
     simp only [go_sem, WC_rgx, KRgx_eq, KX_eq, KOrd_nil, KOrd_cons, pick_nil, pick_cons, SEqT_nf, nf_set, nf_setObj, ins_swap, ins_same, ins_insO, insO_swap, insO_same, *]
     exact ⟨_, rfl⟩
  ·cases h
   simp only [go_sem, *]
   exact ⟨_, rfl⟩
noncomputable def s_queue_Pop (p0 : (List S_Wait)) : Option (S_Wait × (List S_Wait) × Int) :=
 (s_queue_Check p0).bind fun r0 =>
 if (r0 != 0) = true then
  some ((S_Wait.mk 0 0), ([] : List S_Wait), r0)
 else
  if ((p0.length : Int) == 0) = true then
   some ((S_Wait.mk 0 0), ([] : List S_Wait), 6)
  else
   (idx p0 0).bind fun x0 =>
   if inC p0.length 1 (p0.length : Int) then
    if (slice (Int.toNat 1) (p0.length - (Int.toNat 1)) p0).length ≤ big then
     some (x0, (slice (Int.toNat 1) (p0.length - (Int.toNat 1)) p0), 0)
    else none
   else none
theorem s_queue_Pop_ok {p0 : (List S_Wait)} {r : S_Wait × (List S_Wait) × Int} (h : s_queue_Pop p0 = some r) : Ans env k_queue_Pop [(.d false (.lst 2 (p0.map eS_Wait)))] (.tp [(.ag [(.d true (.int .i64 r.1.Frame)), (.d true (.int .i64 r.1.Number))]), (.d true (.lst 2 (r.2.1.map eS_Wait))), (.d true (.int .i64 r.2.2))]) := by
 unfold s_queue_Pop at h
 unfold Ans
 rw [AtF fn_queue_Pop]
 simp only [n_queue_Pop]
 replace h := bsome h; obtain ⟨r0, H0, h⟩ := h
 have k0 := AtCall_all (s_queue_Check_ok H0); try dsimp only at k0
 replace h := itb h; rcases h with ⟨c0, h⟩ | ⟨c0, h⟩
 ·cases h
  simp only [go_sem, *]
  exact ⟨_, rfl⟩
 ·replace h := itb h; rcases h with ⟨c1, h⟩ | ⟨c1, h⟩
  ·cases h
   simp only [go_sem, *]
   exact ⟨_, rfl⟩
  ·replace h := bsome h; obtain ⟨x0, H1, h⟩ := h
   have n0 := idx_n H1; have q0 := idx_q H1; have y0 := idx_x H1
   simp only [Int.toNat_zero] at n0 q0 y0
   replace h := need h; obtain ⟨H2, h⟩ := h
   have zH2 := (cut_lo H2)
   replace h := need h; obtain ⟨H3, h⟩ := h
   cases h
   simp only [go_sem, WC_rgx, KRgx_eq, KX_eq, KOrd_nil, KOrd_cons, pick_nil, pick_cons, SEqT_nf, nf_set, nf_setObj, ins_swap, ins_same, ins_insO, insO_swap, insO_same, *]
   exact ⟨_, rfl⟩
def s_gates_starts (p0 : S_Circuit) : Option (A4_Int) :=
 some (A4_Int.mk 1 (IntKind.wrap .i64 (1 + p0.Inputs)) (IntKind.wrap .i64 ((IntKind.wrap .i64 (1 + p0.Inputs)) + (p0.Latches.length : Int))) (IntKind.wrap .i64 ((IntKind.wrap .i64 ((IntKind.wrap .i64 (1 + p0.Inputs)) + (p0.Latches.length : Int))) + (p0.Ands.length : Int))))
theorem s_gates_starts_ok {p0 : S_Circuit} {r : A4_Int} (h : s_gates_starts p0 = some r) : Ans env k_gates_starts [(.ag [(.d true (.int .i64 p0.Inputs)), (.d false (.lst 2 (p0.Latches.map eS_Latch))), (.d false (.lst 2 (p0.Ands.map eS_And))), (.d false (.lst 1 (p0.Bads.map eI))), (.d false (.lst 1 (p0.Constraints.map eI)))])] (.ag [(.d true (.int .i64 r.a0)), (.d true (.int .i64 r.a1)), (.d true (.int .i64 r.a2)), (.d true (.int .i64 r.a3))]) := by
 unfold s_gates_starts at h
 unfold Ans
 rw [AtF fn_gates_starts]
 simp only [n_gates_starts]
 cases h
 simp only [go_sem, *]
 exact ⟨_, rfl⟩
def b_gates_Check_L0 (p0 : S_Circuit) (r1 : A4_Int) (s0 : Int) : Option ((Int) ⊕ ((Unit) ⊕ (Int))) :=
 if (decide (s0 < (p0.Bads.length : Int))) = true then
  (idx p0.Bads s0).bind fun x3 =>
  (if (decide (x3 < 0)) = true then
    some true
   else
    some (decide ((shrI .i64 x3 1) ≥ r1.a3))).bind fun x4 =>
  if x4 = true then
   some (Sum.inr (Sum.inr s0))
  else
   some (Sum.inl (IntKind.wrap .i64 (s0 + 1)))
 else
  some (Sum.inr (Sum.inl ()))
def I_gates_Check_L0 (p0 : S_Circuit) (r1 : A4_Int) (s0 : Int) (σ : St) : Prop := σ.get 0 = (.d false (.lst 1 (p0.Bads.map eI))) ∧ σ.get 1 = (.cl k_gates_Check_1 [(.ptr 2 1 0)]) ∧ σ.get 7 = (.d true (.int .i64 (p0.Bads.length : Int))) ∧ σ.get 8 = (.d true (.int .i64 s0)) ∧ σ.obj 2 0 = oB1 p0 ∧ σ.obj 2 1 = oB2 r1.a0 r1.a1 r1.a2 r1.a3 ∧ σ.obj 2 2 = some (.box [(.cl k_gates_Check_1 [(.ptr 0 1 0)])]) ∧ σ.up.length = 2
def J_gates_Check_L0 (p0 : S_Circuit) (r1 : A4_Int) (r : (Unit) ⊕ (Int)) (e : Ex) (σ' : St) : Prop := (Sum.elim (fun o0 => e = (.exit 0) ∧ σ'.obj 2 0 = oB1 p0 ∧ σ'.obj 2 1 = oB2 r1.a0 r1.a1 r1.a2 r1.a3 ∧ σ'.obj 2 2 = some (.box [(.cl k_gates_Check_1 [(.ptr 0 1 0)])]) ∧ σ'.up.length = 2) (fun o1 => e = .ret ∧ σ'.get 4 = (.d true (.int .i64 o1)) ∧ σ'.obj 2 0 = oB1 p0 ∧ σ'.obj 2 1 = oB2 r1.a0 r1.a1 r1.a2 r1.a3 ∧ σ'.obj 2 2 = some (.box [(.cl k_gates_Check_1 [(.ptr 0 1 0)])]) ∧ σ'.up.length = 2)) r
theorem L_gates_Check_L0 (p0 : S_Circuit) (r1 : A4_Int) {s : Int} {r : (Unit) ⊕ (Int)} (h : Lp (b_gates_Check_L0 p0 r1) s = some r) {σ : St} {Q : Ex → St → Prop} (hI : I_gates_Check_L0 p0 r1 s σ) (hQ : ∀ e σ', J_gates_Check_L0 p0 r1 r e σ' → Q e σ') : WC env (.loop c_slices_IndexFunc_of_int_l1) σ Q :=
 WC_Lp (I_gates_Check_L0 p0 r1) (J_gates_Check_L0 p0 r1) (by
  clear h hI hQ
  clear s r σ Q
  intro s0 σ x hI h
  obtain ⟨f6, f7, f8, f9, f10, f11, f12, f13⟩ := hI
  unfold b_gates_Check_L0 at h
  replace h := itb h; rcases h with ⟨c4, h⟩ | ⟨c4, h⟩
  ·replace h := bsome h; obtain ⟨x3, H5, h⟩ := h
   have n0 := idx_n H5; have q0 := idx_q H5; have y0 := idx_x H5
   replace h := bsome h; obtain ⟨x4, H6, h⟩ := h
   try simp (maxDischargeDepth := 6) only [go_sem, c_slices_IndexFunc_of_int_l1, c_gates_Check_p2, c_slices_ContainsFunc_of_int_p1, clF_small (f := k_gates_Check_1) rfl, clA_small (f := k_gates_Check_1) rfl, fnV_small (E := env) (f := k_gates_Check_1) fn_gates_Check_1 rfl rfl, *]
   refine WC.mono (Q := fun e σ' => e = .normal ∧ σ'.get 3 = (.d true (.bool x4)) ∧ σ'.obj 3 0 = oB1 p0 ∧ σ'.obj 3 1 = oB2 r1.a0 r1.a1 r1.a2 r1.a3 ∧ σ'.obj 3 2 = some (.box [(.cl k_gates_Check_1 [(.ptr 0 1 0)])]) ∧ σ'.up.length = 3) ?_ ?_
   ·replace h := H6
    clear H6
    replace h := itb h; rcases h with ⟨c5, h⟩ | ⟨c5, h⟩
    ·cases h
     simp (maxDischargeDepth := 6) only [go_sem, c_slices_IndexFunc_of_int_l1, c_gates_Check_p2, c_slices_ContainsFunc_of_int_p1, clF_small (f := k_gates_Check_1) rfl, clA_small (f := k_gates_Check_1) rfl, fnV_small (E := env) (f := k_gates_Check_1) fn_gates_Check_1 rfl rfl, c_gates_Check_1_p1, *]
    ·cases h
     simp (maxDischargeDepth := 6) only [go_sem, c_slices_IndexFunc_of_int_l1, c_gates_Check_p2, c_slices_ContainsFunc_of_int_p1, clF_small (f := k_gates_Check_1) rfl, clA_small (f := k_gates_Check_1) rfl, fnV_small (E := env) (f := k_gates_Check_1) fn_gates_Check_1 rfl rfl, c_gates_Check_1_p1, (show ∀ (p : Bool) (k : IntKind), natOf 4 (.d p (.int k 3)) = some 3 from fun _ _ => rfl), *]
   ·intro e τ hJ
    obtain ⟨rfl, f14, f15, f16, f17, f18⟩ := hJ
    replace h := itb h; rcases h with ⟨c6, h⟩ | ⟨c6, h⟩
    ·cases h
     simp (maxDischargeDepth := 6) only [go_sem, LQ_inr, J_gates_Check_L0, c_slices_IndexFunc_of_int_l1, c_gates_Check_p2, c_slices_ContainsFunc_of_int_p1, clF_small (f := k_gates_Check_1) rfl, clA_small (f := k_gates_Check_1) rfl, fnV_small (E := env) (f := k_gates_Check_1) fn_gates_Check_1 rfl rfl, *]
    ·cases h
     simp (maxDischargeDepth := 6) only [go_sem, LQ_inl, I_gates_Check_L0, c_slices_IndexFunc_of_int_l1, c_gates_Check_p2, c_slices_ContainsFunc_of_int_p1, clF_small (f := k_gates_Check_1) rfl, clA_small (f := k_gates_Check_1) rfl, fnV_small (E := env) (f := k_gates_Check_1) fn_gates_Check_1 rfl rfl, *]
  ·cases h
   simp only [go_sem, LQ_inr, J_gates_Check_L0, c_slices_IndexFunc_of_int_l1, c_gates_Check_p2, c_slices_ContainsFunc_of_int_p1, *]
) h hI hQ
def b_gates_Check_L1 (p0 : S_Circuit) (r1 : A4_Int) (s1 : Int) : Option ((Int) ⊕ ((Unit) ⊕ (Int))) :=
 if (decide (s1 < (p0.Constraints.length : Int))) = true then
  (idx p0.Constraints s1).bind fun x5 =>
  (if (decide (x5 < 0)) = true then
    some true
   else
    some (decide ((shrI .i64 x5 1) ≥ r1.a3))).bind fun x6 =>
  if x6 = true then
   some (Sum.inr (Sum.inr s1))
  else
   some (Sum.inl (IntKind.wrap .i64 (s1 + 1)))
 else
  some (Sum.inr (Sum.inl ()))
def I_gates_Check_L1 (p0 : S_Circuit) (r1 : A4_Int) (s1 : Int) (σ : St) : Prop := σ.get 0 = (.d false (.lst 1 (p0.Constraints.map eI))) ∧ σ.get 1 = (.cl k_gates_Check_1 [(.ptr 2 1 0)]) ∧ σ.get 7 = (.d true (.int .i64 (p0.Constraints.length : Int))) ∧ σ.get 8 = (.d true (.int .i64 s1)) ∧ σ.obj 2 0 = oB1 p0 ∧ σ.obj 2 1 = oB2 r1.a0 r1.a1 r1.a2 r1.a3 ∧ σ.obj 2 2 = some (.box [(.cl k_gates_Check_1 [(.ptr 0 1 0)])]) ∧ σ.up.length = 2
def J_gates_Check_L1 (p0 : S_Circuit) (r1 : A4_Int) (r : (Unit) ⊕ (Int)) (e : Ex) (σ' : St) : Prop := (Sum.elim (fun o0 => e = (.exit 0) ∧ σ'.obj 2 0 = oB1 p0 ∧ σ'.obj 2 1 = oB2 r1.a0 r1.a1 r1.a2 r1.a3 ∧ σ'.obj 2 2 = some (.box [(.cl k_gates_Check_1 [(.ptr 0 1 0)])]) ∧ σ'.up.length = 2) (fun o1 => e = .ret ∧ σ'.get 4 = (.d true (.int .i64 o1)) ∧ σ'.obj 2 0 = oB1 p0 ∧ σ'.obj 2 1 = oB2 r1.a0 r1.a1 r1.a2 r1.a3 ∧ σ'.obj 2 2 = some (.box [(.cl k_gates_Check_1 [(.ptr 0 1 0)])]) ∧ σ'.up.length = 2)) r
theorem L_gates_Check_L1 (p0 : S_Circuit) (r1 : A4_Int) {s : Int} {r : (Unit) ⊕ (Int)} (h : Lp (b_gates_Check_L1 p0 r1) s = some r) {σ : St} {Q : Ex → St → Prop} (hI : I_gates_Check_L1 p0 r1 s σ) (hQ : ∀ e σ', J_gates_Check_L1 p0 r1 r e σ' → Q e σ') : WC env (.loop c_slices_IndexFunc_of_int_l1) σ Q :=
 WC_Lp (I_gates_Check_L1 p0 r1) (J_gates_Check_L1 p0 r1) (by
  clear h hI hQ
  clear s r σ Q
  intro s1 σ x hI h
  obtain ⟨f20, f21, f22, f23, f24, f25, f26, f27⟩ := hI
  unfold b_gates_Check_L1 at h
  replace h := itb h; rcases h with ⟨c5, h⟩ | ⟨c5, h⟩
  ·replace h := bsome h; obtain ⟨x5, H7, h⟩ := h
   have n0 := idx_n H7; have q0 := idx_q H7; have y0 := idx_x H7
   replace h := bsome h; obtain ⟨x6, H8, h⟩ := h
   try simp (maxDischargeDepth := 6) only [go_sem, c_slices_IndexFunc_of_int_l1, c_gates_Check_p2, c_slices_ContainsFunc_of_int_p1, clF_small (f := k_gates_Check_1) rfl, clA_small (f := k_gates_Check_1) rfl, fnV_small (E := env) (f := k_gates_Check_1) fn_gates_Check_1 rfl rfl, *]
   refine WC.mono (Q := fun e σ' => e = .normal ∧ σ'.get 3 = (.d true (.bool x6)) ∧ σ'.obj 3 0 = oB1 p0 ∧ σ'.obj 3 1 = oB2 r1.a0 r1.a1 r1.a2 r1.a3 ∧ σ'.obj 3 2 = some (.box [(.cl k_gates_Check_1 [(.ptr 0 1 0)])]) ∧ σ'.up.length = 3) ?_ ?_
   ·replace h := H8
    clear H8
    replace h := itb h; rcases h with ⟨c6, h⟩ | ⟨c6, h⟩
    ·cases h
     simp (maxDischargeDepth := 6) only [go_sem, c_slices_IndexFunc_of_int_l1, c_gates_Check_p2, c_slices_ContainsFunc_of_int_p1, clF_small (f := k_gates_Check_1) rfl, clA_small (f := k_gates_Check_1) rfl, fnV_small (E := env) (f := k_gates_Check_1) fn_gates_Check_1 rfl rfl, c_gates_Check_1_p1, *]
    ·cases h
     simp (maxDischargeDepth := 6) only [go_sem, c_slices_IndexFunc_of_int_l1, c_gates_Check_p2, c_slices_ContainsFunc_of_int_p1, clF_small (f := k_gates_Check_1) rfl, clA_small (f := k_gates_Check_1) rfl, fnV_small (E := env) (f := k_gates_Check_1) fn_gates_Check_1 rfl rfl, c_gates_Check_1_p1, (show ∀ (p : Bool) (k : IntKind), natOf 4 (.d p (.int k 3)) = some 3 from fun _ _ => rfl), *]
   ·intro e τ hJ
    obtain ⟨rfl, f28, f29, f30, f31, f32⟩ := hJ
    replace h := itb h; rcases h with ⟨c7, h⟩ | ⟨c7, h⟩
    ·cases h
     simp (maxDischargeDepth := 6) only [go_sem, LQ_inr, J_gates_Check_L1, c_slices_IndexFunc_of_int_l1, c_gates_Check_p2, c_slices_ContainsFunc_of_int_p1, clF_small (f := k_gates_Check_1) rfl, clA_small (f := k_gates_Check_1) rfl, fnV_small (E := env) (f := k_gates_Check_1) fn_gates_Check_1 rfl rfl, *]
    ·cases h
     simp (maxDischargeDepth := 6) only [go_sem, LQ_inl, I_gates_Check_L1, c_slices_IndexFunc_of_int_l1, c_gates_Check_p2, c_slices_ContainsFunc_of_int_p1, clF_small (f := k_gates_Check_1) rfl, clA_small (f := k_gates_Check_1) rfl, fnV_small (E := env) (f := k_gates_Check_1) fn_gates_Check_1 rfl rfl, *]
  ·cases h
   simp only [go_sem, LQ_inr, J_gates_Check_L1, c_slices_IndexFunc_of_int_l1, c_gates_Check_p2, c_slices_ContainsFunc_of_int_p1, *]
) h hI hQ
def b_gates_Check_L2 (p0 : S_Circuit) (r1 : A4_Int) (s2 : Int) : Option ((Int) ⊕ ((Unit) ⊕ (Int))) :=
 if (decide (s2 < (p0.Latches.length : Int))) = true then
  (idx p0.Latches s2).bind fun x7 =>
  ((if (decide (x7.Next < 0)) = true then
     some true
    else
     some (decide ((shrI .i64 x7.Next 1) ≥ r1.a3))).bind fun x9 =>
   if x9 = true then
    some true
   else
    if (decide (x7.Reset < 0)) = true then
     some true
    else
     some (decide (x7.Reset > 2))).bind fun x8 =>
  if x8 = true then
   some (Sum.inr (Sum.inr s2))
  else
   some (Sum.inl (IntKind.wrap .i64 (s2 + 1)))
 else
  some (Sum.inr (Sum.inl ()))
def I_gates_Check_L2 (p0 : S_Circuit) (r1 : A4_Int) (s2 : Int) (σ : St) : Prop := σ.get 0 = (.d false (.lst 2 (p0.Latches.map eS_Latch))) ∧ σ.get 1 = (.cl k_gates_Check_2 [(.ptr 2 2 0)]) ∧ σ.get 7 = (.d true (.int .i64 (p0.Latches.length : Int))) ∧ σ.get 8 = (.d true (.int .i64 s2)) ∧ σ.obj 2 0 = oB1 p0 ∧ σ.obj 2 1 = oB2 r1.a0 r1.a1 r1.a2 r1.a3 ∧ σ.obj 2 2 = some (.box [(.cl k_gates_Check_1 [(.ptr 0 1 0)])]) ∧ σ.up.length = 2
def J_gates_Check_L2 (p0 : S_Circuit) (r1 : A4_Int) (r : (Unit) ⊕ (Int)) (e : Ex) (σ' : St) : Prop := (Sum.elim (fun o0 => e = (.exit 0) ∧ σ'.obj 2 0 = oB1 p0 ∧ σ'.obj 2 1 = oB2 r1.a0 r1.a1 r1.a2 r1.a3 ∧ σ'.up.length = 2) (fun o1 => e = .ret ∧ σ'.get 4 = (.d true (.int .i64 o1)) ∧ σ'.obj 2 0 = oB1 p0 ∧ σ'.obj 2 1 = oB2 r1.a0 r1.a1 r1.a2 r1.a3 ∧ σ'.up.length = 2)) r
theorem L_gates_Check_L2 (p0 : S_Circuit) (r1 : A4_Int) {s : Int} {r : (Unit) ⊕ (Int)} (h : Lp (b_gates_Check_L2 p0 r1) s = some r) {σ : St} {Q : Ex → St → Prop} (hI : I_gates_Check_L2 p0 r1 s σ) (hQ : ∀ e σ', J_gates_Check_L2 p0 r1 r e σ' → Q e σ') : WC env (.loop c_slices_IndexFunc_of_api_Latch_l1) σ Q :=
 WC_Lp (I_gates_Check_L2 p0 r1) (J_gates_Check_L2 p0 r1) (by
  clear h hI hQ
  clear s r σ Q
  intro s2 σ x hI h
  obtain ⟨f34, f35, f36, f37, f38, f39, f40, f41⟩ := hI
  unfold b_gates_Check_L2 at h
  replace h := itb h; rcases h with ⟨c6, h⟩ | ⟨c6, h⟩
  ·replace h := bsome h; obtain ⟨x7, H9, h⟩ := h
   have n0 := idx_n H9; have q0 := idx_q H9; have y0 := idx_x H9
   replace h := bsome h; obtain ⟨x8, H10, h⟩ := h
   try simp (maxDischargeDepth := 6) only [go_sem, c_slices_IndexFunc_of_api_Latch_l1, c_gates_Check_p2, c_slices_ContainsFunc_of_api_Latch_p1, clF_small (f := k_gates_Check_2) rfl, clA_small (f := k_gates_Check_2) rfl, fnV_small (E := env) (f := k_gates_Check_2) fn_gates_Check_2 rfl rfl, *]
   refine WC.mono (Q := fun e σ' => e = .normal ∧ σ'.get 3 = (.d true (.bool x8)) ∧ σ'.obj 3 0 = oB1 p0 ∧ σ'.obj 3 1 = oB2 r1.a0 r1.a1 r1.a2 r1.a3 ∧ σ'.obj 3 2 = some (.box [(.cl k_gates_Check_1 [(.ptr 0 1 0)])]) ∧ σ'.up.length = 3) ?_ ?_
   ·replace h := H10
    clear H10
    replace h := bsome h; obtain ⟨x9, H11, h⟩ := h
    try simp (maxDischargeDepth := 6) only [go_sem, c_slices_IndexFunc_of_api_Latch_l1, c_gates_Check_p2, c_slices_ContainsFunc_of_api_Latch_p1, clF_small (f := k_gates_Check_2) rfl, clA_small (f := k_gates_Check_2) rfl, fnV_small (E := env) (f := k_gates_Check_2) fn_gates_Check_2 rfl rfl, c_gates_Check_2_p1, clF_small (f := k_gates_Check_1) rfl, clA_small (f := k_gates_Check_1) rfl, fnV_small (E := env) (f := k_gates_Check_1) fn_gates_Check_1 rfl rfl, *]
    refine WC.mono (Q := fun e σ' => e = .normal ∧ σ'.get 3 = (.d true (.bool x9)) ∧ σ'.obj 4 0 = oB1 p0 ∧ σ'.obj 4 1 = oB2 r1.a0 r1.a1 r1.a2 r1.a3 ∧ σ'.obj 4 2 = some (.box [(.cl k_gates_Check_1 [(.ptr 0 1 0)])]) ∧ σ'.obj 1 0 = oB3 x7 ∧ σ'.up.length = 4) ?_ ?_
    ·replace h := H11
     clear H11
     replace h := itb h; rcases h with ⟨c7, h⟩ | ⟨c7, h⟩
     ·cases h
      simp (maxDischargeDepth := 6) only [go_sem, c_slices_IndexFunc_of_api_Latch_l1, c_gates_Check_p2, c_slices_ContainsFunc_of_api_Latch_p1, clF_small (f := k_gates_Check_2) rfl, clA_small (f := k_gates_Check_2) rfl, fnV_small (E := env) (f := k_gates_Check_2) fn_gates_Check_2 rfl rfl, c_gates_Check_2_p1, clF_small (f := k_gates_Check_1) rfl, clA_small (f := k_gates_Check_1) rfl, fnV_small (E := env) (f := k_gates_Check_1) fn_gates_Check_1 rfl rfl, c_gates_Check_1_p1, *]
     ·cases h
      simp (maxDischargeDepth := 6) only [go_sem, c_slices_IndexFunc_of_api_Latch_l1, c_gates_Check_p2, c_slices_ContainsFunc_of_api_Latch_p1, clF_small (f := k_gates_Check_2) rfl, clA_small (f := k_gates_Check_2) rfl, fnV_small (E := env) (f := k_gates_Check_2) fn_gates_Check_2 rfl rfl, c_gates_Check_2_p1, clF_small (f := k_gates_Check_1) rfl, clA_small (f := k_gates_Check_1) rfl, fnV_small (E := env) (f := k_gates_Check_1) fn_gates_Check_1 rfl rfl, c_gates_Check_1_p1, (show ∀ (p : Bool) (k : IntKind), natOf 4 (.d p (.int k 3)) = some 3 from fun _ _ => rfl), *]
    ·intro e τ hJ
     obtain ⟨rfl, f42, f43, f44, f45, f46, f47⟩ := hJ
     replace h := itb h; rcases h with ⟨c8, h⟩ | ⟨c8, h⟩
     ·cases h
      simp (maxDischargeDepth := 6) only [go_sem, c_slices_IndexFunc_of_api_Latch_l1, c_gates_Check_p2, c_slices_ContainsFunc_of_api_Latch_p1, clF_small (f := k_gates_Check_2) rfl, clA_small (f := k_gates_Check_2) rfl, fnV_small (E := env) (f := k_gates_Check_2) fn_gates_Check_2 rfl rfl, c_gates_Check_2_p1, clF_small (f := k_gates_Check_1) rfl, clA_small (f := k_gates_Check_1) rfl, fnV_small (E := env) (f := k_gates_Check_1) fn_gates_Check_1 rfl rfl, *]
     ·replace h := itb h; rcases h with ⟨c9, h⟩ | ⟨c9, h⟩
      ·cases h
       simp (maxDischargeDepth := 6) only [go_sem, c_slices_IndexFunc_of_api_Latch_l1, c_gates_Check_p2, c_slices_ContainsFunc_of_api_Latch_p1, clF_small (f := k_gates_Check_2) rfl, clA_small (f := k_gates_Check_2) rfl, fnV_small (E := env) (f := k_gates_Check_2) fn_gates_Check_2 rfl rfl, c_gates_Check_2_p1, clF_small (f := k_gates_Check_1) rfl, clA_small (f := k_gates_Check_1) rfl, fnV_small (E := env) (f := k_gates_Check_1) fn_gates_Check_1 rfl rfl, *]
      ·cases h
       simp (maxDischargeDepth := 6) only [go_sem, c_slices_IndexFunc_of_api_Latch_l1, c_gates_Check_p2, c_slices_ContainsFunc_of_api_Latch_p1, clF_small (f := k_gates_Check_2) rfl, clA_small (f := k_gates_Check_2) rfl, fnV_small (E := env) (f := k_gates_Check_2) fn_gates_Check_2 rfl rfl, c_gates_Check_2_p1, clF_small (f := k_gates_Check_1) rfl, clA_small (f := k_gates_Check_1) rfl, fnV_small (E := env) (f := k_gates_Check_1) fn_gates_Check_1 rfl rfl, *]
   ·intro e τ hJ
    obtain ⟨rfl, f48, f49, f50, f51, f52⟩ := hJ
    replace h := itb h; rcases h with ⟨c10, h⟩ | ⟨c10, h⟩
    ·cases h
     simp (maxDischargeDepth := 6) only [go_sem, LQ_inr, J_gates_Check_L2, c_slices_IndexFunc_of_api_Latch_l1, c_gates_Check_p2, c_slices_ContainsFunc_of_api_Latch_p1, clF_small (f := k_gates_Check_2) rfl, clA_small (f := k_gates_Check_2) rfl, fnV_small (E := env) (f := k_gates_Check_2) fn_gates_Check_2 rfl rfl, *]
    ·cases h
     simp (maxDischargeDepth := 6) only [go_sem, LQ_inl, I_gates_Check_L2, c_slices_IndexFunc_of_api_Latch_l1, c_gates_Check_p2, c_slices_ContainsFunc_of_api_Latch_p1, clF_small (f := k_gates_Check_2) rfl, clA_small (f := k_gates_Check_2) rfl, fnV_small (E := env) (f := k_gates_Check_2) fn_gates_Check_2 rfl rfl, *]
  ·cases h
   simp only [go_sem, LQ_inr, J_gates_Check_L2, c_slices_IndexFunc_of_api_Latch_l1, c_gates_Check_p2, c_slices_ContainsFunc_of_api_Latch_p1, *]
) h hI hQ
def b_gates_Check_L3 (p0 : S_Circuit) (r1 : A4_Int) (s3 : Int) : Option ((Int) ⊕ ((Unit) ⊕ (Unit))) :=
 if (decide (s3 < (p0.Ands.length : Int))) = true then
  (idx p0.Ands s3).bind fun x8 =>
  (if (decide (x8.B < 0)) = true then
    some true
   else
    if (decide (x8.A < x8.B)) = true then
     some true
    else
     some (decide (x8.A ≥ (IntKind.wrap .i64 (2 * (IntKind.wrap .i64 (r1.a2 + s3))))))).bind fun x9 =>
  if x9 = true then
   some (Sum.inr (Sum.inr ()))
  else
   some (Sum.inl (IntKind.wrap .i64 (s3 + 1)))
 else
  some (Sum.inr (Sum.inl ()))
def I_gates_Check_L3 (p0 : S_Circuit) (r1 : A4_Int) (s3 : Int) (σ : St) : Prop := σ.get 3 = (.ptr 0 1 0) ∧ σ.get 52 = (.d false (.lst 2 (p0.Ands.map eS_And))) ∧ σ.get 53 = (.d true (.int .i64 (p0.Ands.length : Int))) ∧ σ.get 54 = (.d true (.int .i64 s3)) ∧ σ.obj 0 1 = oB2 r1.a0 r1.a1 r1.a2 r1.a3 ∧ σ.up.length = 0
def J_gates_Check_L3 (p0 : S_Circuit) (r1 : A4_Int) (r : (Unit) ⊕ (Unit)) (e : Ex) (σ' : St) : Prop := (Sum.elim (fun o0 => e = (.exit 0) ∧ σ'.up.length = 0) (fun o1 => e = .ret ∧ σ'.get 2 = (.d true (.int .i64 8)) ∧ σ'.up.length = 0)) r
theorem L_gates_Check_L3 (p0 : S_Circuit) (r1 : A4_Int) {s : Int} {r : (Unit) ⊕ (Unit)} (h : Lp (b_gates_Check_L3 p0 r1) s = some r) {σ : St} {Q : Ex → St → Prop} (hI : I_gates_Check_L3 p0 r1 s σ) (hQ : ∀ e σ', J_gates_Check_L3 p0 r1 r e σ' → Q e σ') : WC env (.loop c_gates_Check_l1) σ Q :=
 WC_Lp (I_gates_Check_L3 p0 r1) (J_gates_Check_L3 p0 r1) (by
  clear h hI hQ
  clear s r σ Q
  intro s3 σ x hI h
  obtain ⟨f51, f52, f53, f54, f55, f56⟩ := hI
  unfold b_gates_Check_L3 at h
  replace h := itb h; rcases h with ⟨c7, h⟩ | ⟨c7, h⟩
  ·replace h := bsome h; obtain ⟨x8, H10, h⟩ := h
   have n0 := idx_n H10; have q0 := idx_q H10; have y0 := idx_x H10
   replace h := bsome h; obtain ⟨x9, H11, h⟩ := h
   try simp only [go_sem, c_gates_Check_l1, *]
   refine WC.mono (Q := fun e σ' => e = .normal ∧ σ'.get 3 = (.ptr 0 1 0) ∧ σ'.get 52 = (.d false (.lst 2 (p0.Ands.map eS_And))) ∧ σ'.get 53 = (.d true (.int .i64 (p0.Ands.length : Int))) ∧ σ'.get 54 = (.d true (.int .i64 s3)) ∧ σ'.get 78 = (.d true (.bool x9)) ∧ σ'.obj 0 1 = oB2 r1.a0 r1.a1 r1.a2 r1.a3 ∧ σ'.up.length = 0) ?_ ?_
   ·replace h := H11
    clear H11
    replace h := itb h; rcases h with ⟨c8, h⟩ | ⟨c8, h⟩
    ·cases h
     simp only [go_sem, c_gates_Check_l1, c_gates_Check_p3, *]
    ·replace h := itb h; rcases h with ⟨c9, h⟩ | ⟨c9, h⟩
     ·cases h
      simp only [go_sem, c_gates_Check_l1, c_gates_Check_p3, *]
     ·cases h
      simp only [go_sem, c_gates_Check_l1, c_gates_Check_p3, (show ∀ (p : Bool) (k : IntKind), natOf 4 (.d p (.int k 2)) = some 2 from fun _ _ => rfl), *]
   ·intro e τ hJ
    obtain ⟨rfl, f57, f58, f59, f60, f61, f62, f63⟩ := hJ
    replace h := itb h; rcases h with ⟨c10, h⟩ | ⟨c10, h⟩
    ·cases h
     simp only [go_sem, LQ_inr, J_gates_Check_L3, c_gates_Check_l1, *]
    ·cases h
     simp only [go_sem, LQ_inl, I_gates_Check_L3, c_gates_Check_l1, *]
  ·cases h
   simp only [go_sem, LQ_inr, J_gates_Check_L3, c_gates_Check_l1, *]
) h hI hQ
noncomputable def s_gates_Check (p0 : S_Circuit) : Option (Int) :=
 if (decide (p0.Inputs < 0)) = true then
  some 8
 else
  (if (decide (p0.Inputs > 1000)) = true then
    some true
   else
    (s_gates_starts p0).bind fun r0 =>
    if (decide ((IntKind.wrap .i64 (r0.a3 - 1)) > 1000)) = true then
     some true
    else
     some (decide ((mxI (p0.Bads.length : Int) (p0.Constraints.length : Int)) > 100))).bind fun x0 =>
  if x0 = true then
   some 4
  else
   (s_gates_starts p0).bind fun r1 =>
   (((Lp (b_gates_Check_L0 p0 r1) 0).bind fun x3 =>
     match x3 with
     | .inl x3' =>
      some (decide ((-1) ≥ 0))
     | .inr x3' =>
      some (decide (x3' ≥ 0))).bind fun x2 =>
    if x2 = true then
     some true
    else
     ((Lp (b_gates_Check_L1 p0 r1) 0).bind fun x5 =>
      match x5 with
      | .inl x5' =>
       some (decide ((-1) ≥ 0))
      | .inr x5' =>
       some (decide (x5' ≥ 0))).bind fun x4 =>
     if x4 = true then
      some true
     else
      ((Lp (b_gates_Check_L2 p0 r1) 0).bind fun x7 =>
       match x7 with
       | .inl x7' =>
        some (decide ((-1) ≥ 0))
       | .inr x7' =>
        some (decide (x7' ≥ 0))).bind fun x6 =>
      some x6).bind fun x1 =>
   if x1 = true then
    some 8
   else
    (Lp (b_gates_Check_L3 p0 r1) 0).bind fun x8 =>
    match x8 with
    | .inl x8' =>
     some 0
    | .inr x8' =>
     some 8
theorem s_gates_Check_ok {p0 : S_Circuit} {r : Int} (h : s_gates_Check p0 = some r) : Ans env k_gates_Check [(.ag [(.d true (.int .i64 p0.Inputs)), (.d false (.lst 2 (p0.Latches.map eS_Latch))), (.d false (.lst 2 (p0.Ands.map eS_And))), (.d false (.lst 1 (p0.Bads.map eI))), (.d false (.lst 1 (p0.Constraints.map eI)))])] (.d true (.int .i64 r)) := by
 unfold s_gates_Check at h
 unfold Ans
 rw [AtF fn_gates_Check]
 simp only [n_gates_Check]
 replace h := itb h; rcases h with ⟨c0, h⟩ | ⟨c0, h⟩
 ·cases h
  simp only [go_sem, *]
  exact ⟨_, rfl⟩
 ·replace h := bsome h; obtain ⟨x0, H0, h⟩ := h
  try simp only [go_sem, *]
  refine WC.mono (Q := fun e σ' => e = .normal ∧ σ'.get 1 = (.ptr 0 0 0) ∧ σ'.get 30 = (.d true (.bool x0)) ∧ σ'.obj 0 0 = oB1 p0 ∧ σ'.obj 0 1 = none ∧ σ'.obj 0 2 = none ∧ σ'.up.length = 0) ?_ ?_
  ·replace h := H0
   clear H0
   replace h := itb h; rcases h with ⟨c1, h⟩ | ⟨c1, h⟩
   ·cases h
    simp only [go_sem, c_gates_Check_p1, *]
   ·replace h := bsome h; obtain ⟨r0, H1, h⟩ := h
    have k0 := AtCall_all (s_gates_starts_ok H1); try dsimp only at k0
    replace h := itb h; rcases h with ⟨c2, h⟩ | ⟨c2, h⟩
    ·cases h
     simp only [go_sem, c_gates_Check_p1, (show ∀ (p : Bool) (k : IntKind), natOf 4 (.d p (.int k 3)) = some 3 from fun _ _ => rfl), *]
    ·cases h
     simp only [go_sem, c_gates_Check_p1, (show ∀ (p : Bool) (k : IntKind), natOf 4 (.d p (.int k 3)) = some 3 from fun _ _ => rfl), *]
  ·intro e τ hJ
   obtain ⟨rfl, f0, f1, f2, f3, f4, f5⟩ := hJ
   replace h := itb h; rcases h with ⟨c3, h⟩ | ⟨c3, h⟩
   ·cases h
    simp only [go_sem, *]
    exact ⟨_, rfl⟩
   ·replace h := bsome h; obtain ⟨r1, H2, h⟩ := h
    have k1 := AtCall_all (s_gates_starts_ok H2); try dsimp only at k1
    replace h := bsome h; obtain ⟨x1, H3, h⟩ := h
    try simp only [go_sem, *]
    refine WC.mono (Q := fun e σ' => e = .normal ∧ σ'.get 1 = (.ptr 0 0 0) ∧ σ'.get 3 = (.ptr 0 1 0) ∧ σ'.get 50 = (.d true (.bool x1)) ∧ σ'.obj 0 0 = oB1 p0 ∧ σ'.obj 0 1 = oB2 r1.a0 r1.a1 r1.a2 r1.a3 ∧ σ'.up.length = 0) ?_ ?_
    ·replace h := H3
     clear H3
     replace h := bsome h; obtain ⟨x2, H4, h⟩ := h
     try simp only [go_sem, c_gates_Check_p2, *]
     refine WC.mono (Q := fun e σ' => e = .normal ∧ σ'.get 4 = (.d true (.bool x2)) ∧ σ'.obj 1 0 = oB1 p0 ∧ σ'.obj 1 1 = oB2 r1.a0 r1.a1 r1.a2 r1.a3 ∧ σ'.obj 1 2 = some (.box [(.cl k_gates_Check_1 [(.ptr 0 1 0)])]) ∧ σ'.up.length = 1) ?_ ?_
     ·replace h := H4
      clear H4
      replace h := bsome h; obtain ⟨x3, H5, h⟩ := h
      try simp only [go_sem, c_gates_Check_p2, c_slices_ContainsFunc_of_int_p1, *]
      refine L_gates_Check_L0 p0 r1 H5 ?_ ?_
      ·clear h
       simp only [go_sem, I_gates_Check_L0, c_gates_Check_p2, c_slices_ContainsFunc_of_int_p1, *]
      ·intro e τ hJ
       rcases x3 with x3' | x3'
       ·obtain ⟨rfl, f6, f7, f8, f9⟩ := hJ
        cases h
        simp only [go_sem, c_gates_Check_p2, c_slices_ContainsFunc_of_int_p1, *]
       ·obtain ⟨rfl, f10, f11, f12, f13, f14⟩ := hJ
        cases h
        simp only [go_sem, c_gates_Check_p2, c_slices_ContainsFunc_of_int_p1, *]
     ·intro e τ hJ
      obtain ⟨rfl, f15, f16, f17, f18, f19⟩ := hJ
      replace h := itb h; rcases h with ⟨c4, h⟩ | ⟨c4, h⟩
      ·cases h
       simp only [go_sem, c_gates_Check_p2, *]
      ·replace h := bsome h; obtain ⟨x4, H6, h⟩ := h
       try simp only [go_sem, c_gates_Check_p2, *]
       refine WC.mono (Q := fun e σ' => e = .normal ∧ σ'.get 4 = (.d true (.bool x4)) ∧ σ'.obj 1 0 = oB1 p0 ∧ σ'.obj 1 1 = oB2 r1.a0 r1.a1 r1.a2 r1.a3 ∧ σ'.obj 1 2 = some (.box [(.cl k_gates_Check_1 [(.ptr 0 1 0)])]) ∧ σ'.up.length = 1) ?_ ?_
       ·replace h := H6
        clear H6
        replace h := bsome h; obtain ⟨x5, H7, h⟩ := h
        try simp only [go_sem, c_gates_Check_p2, c_slices_ContainsFunc_of_int_p1, *]
        refine L_gates_Check_L1 p0 r1 H7 ?_ ?_
        ·clear h
         simp only [go_sem, I_gates_Check_L1, c_gates_Check_p2, c_slices_ContainsFunc_of_int_p1, *]
        ·intro e τ hJ
         rcases x5 with x5' | x5'
         ·obtain ⟨rfl, f20, f21, f22, f23⟩ := hJ
          cases h
          simp only [go_sem, c_gates_Check_p2, c_slices_ContainsFunc_of_int_p1, *]
         ·obtain ⟨rfl, f24, f25, f26, f27, f28⟩ := hJ
          cases h
          simp only [go_sem, c_gates_Check_p2, c_slices_ContainsFunc_of_int_p1, *]
       ·intro e τ hJ
        obtain ⟨rfl, f29, f30, f31, f32, f33⟩ := hJ
        replace h := itb h; rcases h with ⟨c5, h⟩ | ⟨c5, h⟩
        ·cases h
         simp only [go_sem, c_gates_Check_p2, *]
        ·replace h := bsome h; obtain ⟨x6, H8, h⟩ := h
         try simp only [go_sem, c_gates_Check_p2, *]
         refine WC.mono (Q := fun e σ' => e = .normal ∧ σ'.get 4 = (.d true (.bool x6)) ∧ σ'.obj 1 0 = oB1 p0 ∧ σ'.obj 1 1 = oB2 r1.a0 r1.a1 r1.a2 r1.a3 ∧ σ'.up.length = 1) ?_ ?_
         ·replace h := H8
          clear H8
          replace h := bsome h; obtain ⟨x7, H9, h⟩ := h
          try simp only [go_sem, c_gates_Check_p2, c_slices_ContainsFunc_of_api_Latch_p1, *]
          refine L_gates_Check_L2 p0 r1 H9 ?_ ?_
          ·clear h
           simp only [go_sem, I_gates_Check_L2, c_gates_Check_p2, c_slices_ContainsFunc_of_api_Latch_p1, *]
          ·intro e τ hJ
           rcases x7 with x7' | x7'
           ·obtain ⟨rfl, f34, f35, f36⟩ := hJ
            cases h
            simp only [go_sem, c_gates_Check_p2, c_slices_ContainsFunc_of_api_Latch_p1, *]
           ·obtain ⟨rfl, f37, f38, f39, f40⟩ := hJ
            cases h
            simp only [go_sem, c_gates_Check_p2, c_slices_ContainsFunc_of_api_Latch_p1, *]
         ·intro e τ hJ
          obtain ⟨rfl, f41, f42, f43, f44⟩ := hJ
          cases h
          simp only [go_sem, c_gates_Check_p2, *]
    ·intro e τ hJ
     obtain ⟨rfl, f45, f46, f47, f48, f49, f50⟩ := hJ
     replace h := itb h; rcases h with ⟨c6, h⟩ | ⟨c6, h⟩
     ·cases h
      simp only [go_sem, *]
      exact ⟨_, rfl⟩
     ·replace h := bsome h; obtain ⟨x8, H10, h⟩ := h
      try simp only [go_sem, *]
      refine L_gates_Check_L3 p0 r1 H10 ?_ ?_
      ·clear h
       simp only [go_sem, I_gates_Check_L3, *]
      ·intro e τ hJ
       rcases x8 with x8' | x8'
       ·obtain ⟨rfl, f51⟩ := hJ
        cases h
        simp only [go_sem, *]
        exact ⟨_, rfl⟩
       ·obtain ⟨rfl, f52, f53⟩ := hJ
        cases h
        simp only [go_sem, *]
        exact ⟨_, rfl⟩
def s_clause_known (p0 : Int) (p1 : Int) : Option (Bool) :=
 (if (decide (p1 ≥ 2)) = true then
   some (decide ((IntKind.wrap .i64 (Int.tdiv p1 2)) ≤ p0))
  else
   some false).bind fun x0 =>
 some x0
theorem s_clause_known_ok {p0 : Int} {p1 : Int} {r : Bool} (h : s_clause_known p0 p1 = some r) : Ans env k_clause_known [(.d true (.int .i64 p0)), (.d true (.int .i64 p1))] (.d true (.bool r)) := by
 unfold s_clause_known at h
 unfold Ans
 rw [AtF fn_clause_known]
 simp only [n_clause_known]
 replace h := bsome h; obtain ⟨x0, H0, h⟩ := h
 try simp only [go_sem, *]
 refine WC.mono (Q := fun e σ' => e = .normal ∧ σ'.get 4 = (.d true (.bool x0)) ∧ σ'.up.length = 0) ?_ ?_
 ·replace h := H0
  clear H0
  replace h := itb h; rcases h with ⟨c0, h⟩ | ⟨c0, h⟩
  ·cases h
   simp only [go_sem, c_clause_known_p1, *]
  ·cases h
   simp only [go_sem, c_clause_known_p1, *]
 ·intro e τ hJ
  obtain ⟨rfl, f0, f1⟩ := hJ
  cases h
  simp only [go_sem, *]
  exact ⟨_, rfl⟩
noncomputable def b_clause_Check_L0 (p0 : Int) (p1 : (List Int)) (s0 : Int) : Option ((Int) ⊕ ((Unit) ⊕ (Unit))) :=
 if (decide (s0 < (p1.length : Int))) = true then
  (idx p1 s0).bind fun x1 =>
  ((s_clause_known p0 x1).bind fun r0 =>
   if r0 = true then
    if (decide (s0 > 0)) = true then
     (idx p1 (IntKind.wrap .i64 (s0 - 1))).bind fun x3 =>
     if (decide (x1 ≤ x3)) = true then
      some true
     else
      some ((IntKind.wrap .i64 (Int.tdiv x1 2)) == (IntKind.wrap .i64 (Int.tdiv x3 2)))
    else
     some false
   else
    some true).bind fun x2 =>
  if x2 = true then
   some (Sum.inr (Sum.inr ()))
  else
   some (Sum.inl (IntKind.wrap .i64 (s0 + 1)))
 else
  some (Sum.inr (Sum.inl ()))
def I_clause_Check_L0 (p0 : Int) (p1 : (List Int)) (s0 : Int) (σ : St) : Prop := σ.get 0 = (.d true (.int .i64 p0)) ∧ σ.get 1 = (.d false (.lst 1 (p1.map eI))) ∧ σ.get 13 = (.d false (.lst 1 (p1.map eI))) ∧ σ.get 14 = (.d true (.int .i64 (p1.length : Int))) ∧ σ.get 15 = (.d true (.int .i64 s0)) ∧ σ.up.length = 0
def J_clause_Check_L0 (p0 : Int) (p1 : (List Int)) (r : (Unit) ⊕ (Unit)) (e : Ex) (σ' : St) : Prop := (Sum.elim (fun o0 => e = (.exit 0) ∧ σ'.up.length = 0) (fun o1 => e = .ret ∧ σ'.get 4 = (.d true (.int .i64 8)) ∧ σ'.up.length = 0)) r
theorem L_clause_Check_L0 (p0 : Int) (p1 : (List Int)) {s : Int} {r : (Unit) ⊕ (Unit)} (h : Lp (b_clause_Check_L0 p0 p1) s = some r) {σ : St} {Q : Ex → St → Prop} (hI : I_clause_Check_L0 p0 p1 s σ) (hQ : ∀ e σ', J_clause_Check_L0 p0 p1 r e σ' → Q e σ') : WC env (.loop c_clause_Check_l1) σ Q :=
 WC_Lp (I_clause_Check_L0 p0 p1) (J_clause_Check_L0 p0 p1) (by
  clear h hI hQ
  clear s r σ Q
  intro s0 σ x hI h
  obtain ⟨f4, f5, f6, f7, f8, f9⟩ := hI
  unfold b_clause_Check_L0 at h
  replace h := itb h; rcases h with ⟨c2, h⟩ | ⟨c2, h⟩
  ·replace h := bsome h; obtain ⟨x1, H1, h⟩ := h
   have n0 := idx_n H1; have q0 := idx_q H1; have y0 := idx_x H1
   replace h := bsome h; obtain ⟨x2, H2, h⟩ := h
   try simp only [go_sem, c_clause_Check_l1, *]
   refine WC.mono (Q := fun e σ' => e = .normal ∧ σ'.get 0 = (.d true (.int .i64 p0)) ∧ σ'.get 1 = (.d false (.lst 1 (p1.map eI))) ∧ σ'.get 13 = (.d false (.lst 1 (p1.map eI))) ∧ σ'.get 14 = (.d true (.int .i64 (p1.length : Int))) ∧ σ'.get 15 = (.d true (.int .i64 s0)) ∧ σ'.get 47 = (.d true (.bool x2)) ∧ σ'.up.length = 0) ?_ ?_
   ·replace h := H2
    clear H2
    replace h := bsome h; obtain ⟨r0, H3, h⟩ := h
    have k0 := AtCall_all (s_clause_known_ok H3); try dsimp only at k0
    replace h := itb h; rcases h with ⟨c3, h⟩ | ⟨c3, h⟩
    ·replace h := itb h; rcases h with ⟨c4, h⟩ | ⟨c4, h⟩
     ·replace h := bsome h; obtain ⟨x3, H4, h⟩ := h
      have n1 := idx_n H4; have q1 := idx_q H4; have y1 := idx_x H4
      replace h := itb h; rcases h with ⟨c5, h⟩ | ⟨c5, h⟩
      ·cases h
       simp only [go_sem, c_clause_Check_l1, c_clause_Check_p2, *]
      ·cases h
       simp only [go_sem, c_clause_Check_l1, c_clause_Check_p2, *]
     ·cases h
      simp only [go_sem, c_clause_Check_l1, c_clause_Check_p2, *]
    ·cases h
     simp only [go_sem, c_clause_Check_l1, c_clause_Check_p2, *]
   ·intro e τ hJ
    obtain ⟨rfl, f10, f11, f12, f13, f14, f15, f16⟩ := hJ
    replace h := itb h; rcases h with ⟨c6, h⟩ | ⟨c6, h⟩
    ·cases h
     simp only [go_sem, LQ_inr, J_clause_Check_L0, c_clause_Check_l1, *]
    ·cases h
     simp only [go_sem, LQ_inl, I_clause_Check_L0, c_clause_Check_l1, *]
  ·cases h
   simp only [go_sem, LQ_inr, J_clause_Check_L0, c_clause_Check_l1, *]
) h hI hQ
noncomputable def s_clause_Check (p0 : Int) (p1 : (List Int)) : Option (Int) :=
 (if (decide (p0 < 0)) = true then
   some true
  else
   some (decide (p0 > 4000))).bind fun x0 =>
 if x0 = true then
  some 2
 else
  (Lp (b_clause_Check_L0 p0 p1) 0).bind fun x1 =>
  match x1 with
  | .inl x1' =>
   some 0
  | .inr x1' =>
   some 8
theorem s_clause_Check_ok {p0 : Int} {p1 : (List Int)} {r : Int} (h : s_clause_Check p0 p1 = some r) : Ans env k_clause_Check [(.d true (.int .i64 p0)), (.d false (.lst 1 (p1.map eI)))] (.d true (.int .i64 r)) := by
 unfold s_clause_Check at h
 unfold Ans
 rw [AtF fn_clause_Check]
 simp only [n_clause_Check]
 replace h := bsome h; obtain ⟨x0, H0, h⟩ := h
 try simp only [go_sem, *]
 refine WC.mono (Q := fun e σ' => e = .normal ∧ σ'.get 0 = (.d true (.int .i64 p0)) ∧ σ'.get 1 = (.d false (.lst 1 (p1.map eI))) ∧ σ'.get 12 = (.d true (.bool x0)) ∧ σ'.up.length = 0) ?_ ?_
 ·replace h := H0
  clear H0
  replace h := itb h; rcases h with ⟨c0, h⟩ | ⟨c0, h⟩
  ·cases h
   simp only [go_sem, c_clause_Check_p1, *]
  ·cases h
   simp only [go_sem, c_clause_Check_p1, *]
 ·intro e τ hJ
  obtain ⟨rfl, f0, f1, f2, f3⟩ := hJ
  replace h := itb h; rcases h with ⟨c1, h⟩ | ⟨c1, h⟩
  ·cases h
   simp only [go_sem, *]
   exact ⟨_, rfl⟩
  ·replace h := bsome h; obtain ⟨x1, H1, h⟩ := h
   try simp only [go_sem, *]
   refine L_clause_Check_L0 p0 p1 H1 ?_ ?_
   ·clear h
    simp only [go_sem, I_clause_Check_L0, *]
   ·intro e τ hJ
    rcases x1 with x1' | x1'
    ·obtain ⟨rfl, f4⟩ := hJ
     cases h
     simp only [go_sem, *]
     exact ⟨_, rfl⟩
    ·obtain ⟨rfl, f5, f6⟩ := hJ
     cases h
     simp only [go_sem, *]
     exact ⟨_, rfl⟩
noncomputable def b_queue_Right_L0 (p0 : S_Circuit) (p1 : (List S_Obligation)) (s0 : Int) : Option ((Int) ⊕ ((Unit) ⊕ (Unit))) :=
 if (decide (s0 < (p1.length : Int))) = true then
  (idx p1 s0).bind fun x0 =>
  ((s_clause_Check (p0.Latches.length : Int) x0.Cube).bind fun r1 =>
   if (r1 != 0) = true then
    some true
   else
    if ((x0.Inputs.length : Int) != p0.Inputs) = true then
     some true
    else
     if (decide (x0.Next < (-1))) = true then
      some true
     else
      some (decide (x0.Next ≥ s0))).bind fun x1 =>
  if x1 = true then
   some (Sum.inr (Sum.inr ()))
  else
   some (Sum.inl (IntKind.wrap .i64 (s0 + 1)))
 else
  some (Sum.inr (Sum.inl ()))
def I_queue_Right_L0 (p0 : S_Circuit) (p1 : (List S_Obligation)) (s0 : Int) (σ : St) : Prop := σ.get 2 = (.ptr 0 0 0) ∧ σ.get 16 = (.d false (.lst 3 (p1.map eS_Obligation))) ∧ σ.get 17 = (.d true (.int .i64 (p1.length : Int))) ∧ σ.get 18 = (.d true (.int .i64 s0)) ∧ σ.obj 0 0 = oB1 p0 ∧ σ.up.length = 0
def J_queue_Right_L0 (p0 : S_Circuit) (p1 : (List S_Obligation)) (r : (Unit) ⊕ (Unit)) (e : Ex) (σ' : St) : Prop := (Sum.elim (fun o0 => e = (.exit 0) ∧ σ'.up.length = 0) (fun o1 => e = .ret ∧ σ'.get 4 = (.d true (.int .i64 8)) ∧ σ'.up.length = 0)) r
theorem L_queue_Right_L0 (p0 : S_Circuit) (p1 : (List S_Obligation)) {s : Int} {r : (Unit) ⊕ (Unit)} (h : Lp (b_queue_Right_L0 p0 p1) s = some r) {σ : St} {Q : Ex → St → Prop} (hI : I_queue_Right_L0 p0 p1 s σ) (hQ : ∀ e σ', J_queue_Right_L0 p0 p1 r e σ' → Q e σ') : WC env (.loop c_queue_Right_l1) σ Q :=
 WC_Lp (I_queue_Right_L0 p0 p1) (J_queue_Right_L0 p0 p1) (by
  clear h hI hQ
  clear s r σ Q
  intro s0 σ x hI h
  obtain ⟨f0, f1, f2, f3, f4, f5⟩ := hI
  unfold b_queue_Right_L0 at h
  replace h := itb h; rcases h with ⟨c2, h⟩ | ⟨c2, h⟩
  ·replace h := bsome h; obtain ⟨x0, H1, h⟩ := h
   have n0 := idx_n H1; have q0 := idx_q H1; have y0 := idx_x H1
   replace h := bsome h; obtain ⟨x1, H2, h⟩ := h
   try simp only [go_sem, c_queue_Right_l1, *]
   refine WC.mono (Q := fun e σ' => e = .normal ∧ σ'.get 2 = (.ptr 0 0 0) ∧ σ'.get 16 = (.d false (.lst 3 (p1.map eS_Obligation))) ∧ σ'.get 17 = (.d true (.int .i64 (p1.length : Int))) ∧ σ'.get 18 = (.d true (.int .i64 s0)) ∧ σ'.get 48 = (.d true (.bool x1)) ∧ σ'.obj 0 0 = oB1 p0 ∧ σ'.up.length = 0) ?_ ?_
   ·replace h := H2
    clear H2
    replace h := bsome h; obtain ⟨r1, H3, h⟩ := h
    have k1 := AtCall_all (s_clause_Check_ok H3); try dsimp only at k1
    replace h := itb h; rcases h with ⟨c3, h⟩ | ⟨c3, h⟩
    ·cases h
     simp only [go_sem, c_queue_Right_l1, c_queue_Right_p1, *]
    ·replace h := itb h; rcases h with ⟨c4, h⟩ | ⟨c4, h⟩
     ·cases h
      simp only [go_sem, c_queue_Right_l1, c_queue_Right_p1, *]
     ·replace h := itb h; rcases h with ⟨c5, h⟩ | ⟨c5, h⟩
      ·cases h
       simp only [go_sem, c_queue_Right_l1, c_queue_Right_p1, *]
      ·cases h
       simp only [go_sem, c_queue_Right_l1, c_queue_Right_p1, *]
   ·intro e τ hJ
    obtain ⟨rfl, f6, f7, f8, f9, f10, f11, f12⟩ := hJ
    replace h := itb h; rcases h with ⟨c6, h⟩ | ⟨c6, h⟩
    ·cases h
     simp only [go_sem, LQ_inr, J_queue_Right_L0, c_queue_Right_l1, *]
    ·cases h
     simp only [go_sem, LQ_inl, I_queue_Right_L0, c_queue_Right_l1, *]
  ·cases h
   simp only [go_sem, LQ_inr, J_queue_Right_L0, c_queue_Right_l1, *]
) h hI hQ
noncomputable def s_queue_Right (p0 : S_Circuit) (p1 : (List S_Obligation)) : Option (Int) :=
 (s_gates_Check p0).bind fun r0 =>
 if (r0 != 0) = true then
  some r0
 else
  if (decide ((p1.length : Int) > 1000)) = true then
   some 4
  else
   (Lp (b_queue_Right_L0 p0 p1) 0).bind fun x0 =>
   match x0 with
   | .inl x0' =>
    some 0
   | .inr x0' =>
    some 8
theorem s_queue_Right_ok {p0 : S_Circuit} {p1 : (List S_Obligation)} {r : Int} (h : s_queue_Right p0 p1 = some r) : Ans env k_queue_Right [(.ag [(.d true (.int .i64 p0.Inputs)), (.d false (.lst 2 (p0.Latches.map eS_Latch))), (.d false (.lst 2 (p0.Ands.map eS_And))), (.d false (.lst 1 (p0.Bads.map eI))), (.d false (.lst 1 (p0.Constraints.map eI)))]), (.d false (.lst 3 (p1.map eS_Obligation)))] (.d true (.int .i64 r)) := by
 unfold s_queue_Right at h
 unfold Ans
 rw [AtF fn_queue_Right]
 simp only [n_queue_Right]
 replace h := bsome h; obtain ⟨r0, H0, h⟩ := h
 have k0 := AtCall_all (s_gates_Check_ok H0); try dsimp only at k0
 replace h := itb h; rcases h with ⟨c0, h⟩ | ⟨c0, h⟩
 ·cases h
  simp only [go_sem, *]
  exact ⟨_, rfl⟩
 ·replace h := itb h; rcases h with ⟨c1, h⟩ | ⟨c1, h⟩
  ·cases h
   simp only [go_sem, *]
   exact ⟨_, rfl⟩
  ·replace h := bsome h; obtain ⟨x0, H1, h⟩ := h
   try simp only [go_sem, *]
   refine L_queue_Right_L0 p0 p1 H1 ?_ ?_
   ·clear h
    simp only [go_sem, I_queue_Right_L0, *]
   ·intro e τ hJ
    rcases x0 with x0' | x0'
    ·obtain ⟨rfl, f0⟩ := hJ
     cases h
     simp only [go_sem, *]
     exact ⟨_, rfl⟩
    ·obtain ⟨rfl, f1, f2⟩ := hJ
     cases h
     simp only [go_sem, *]
     exact ⟨_, rfl⟩
noncomputable def s_queue_Chain (p0 : S_Circuit) (p1 : (List S_Obligation)) (p2 : Int) : Option ((List Int) × Int) :=
 (s_queue_Right p0 p1).bind fun r0 =>
 if (r0 != 0) = true then
  some (([] : List Int), r0)
 else
  (if (decide (p2 < 0)) = true then
    some true
   else
    some (decide (p2 ≥ (p1.length : Int)))).bind fun x0 =>
  if x0 = true then
   some (([] : List Int), 2)
  else
   (chn (fun o : S_Obligation => o.Next) p1 p2).bind fun x1 =>
   if x1.length ≤ big then
    some (x1, 0)
   else none
theorem s_queue_Chain_ok {p0 : S_Circuit} {p1 : (List S_Obligation)} {p2 : Int} {r : (List Int) × Int} (h : s_queue_Chain p0 p1 p2 = some r) : Ans env k_queue_Chain [(.ag [(.d true (.int .i64 p0.Inputs)), (.d false (.lst 2 (p0.Latches.map eS_Latch))), (.d false (.lst 2 (p0.Ands.map eS_And))), (.d false (.lst 1 (p0.Bads.map eI))), (.d false (.lst 1 (p0.Constraints.map eI)))]), (.d false (.lst 3 (p1.map eS_Obligation))), (.d true (.int .i64 p2))] (.tp [(.d true (.lst 1 (r.1.map eI))), (.d true (.int .i64 r.2))]) := by
 unfold s_queue_Chain at h
 unfold Ans
 rw [AtF fn_queue_Chain]
 simp only [n_queue_Chain]
 replace h := bsome h; obtain ⟨r0, H0, h⟩ := h
 have k0 := AtCall_all (s_queue_Right_ok H0); try dsimp only at k0
 replace h := itb h; rcases h with ⟨c0, h⟩ | ⟨c0, h⟩
 ·cases h
  simp only [go_sem, *]
  exact ⟨_, rfl⟩
 ·replace h := bsome h; obtain ⟨x0, H1, h⟩ := h
  try simp only [go_sem, *]
  refine WC.mono (Q := fun e σ' => e = .normal ∧ σ'.get 1 = (.d false (.lst 3 (p1.map eS_Obligation))) ∧ σ'.get 2 = (.d true (.int .i64 p2)) ∧ σ'.get 22 = (.d true (.bool x0)) ∧ FreeFrom σ' 0 21 ∧ σ'.up.length = 0) ?_ ?_
  ·replace h := H1
   clear H1
   replace h := itb h; rcases h with ⟨c1, h⟩ | ⟨c1, h⟩
   ·cases h
    simp only [go_sem, c_queue_Chain_p1, *]
   ·cases h
    simp only [go_sem, c_queue_Chain_p1, *]
  ·intro e τ hJ
   obtain ⟨rfl, f0, f1, f2, f3, f4⟩ := hJ
   replace h := itb h; rcases h with ⟨c2, h⟩ | ⟨c2, h⟩
   ·cases h
    simp only [go_sem, *]
    exact ⟨_, rfl⟩
   ·replace h := bsome h; obtain ⟨x1, H2, h⟩ := h
    replace h := need h; obtain ⟨H3, h⟩ := h
    try simp only [go_sem, (show isMrg 21 = true from isMrg_odd 10), *]
    refine E_collectT (enc := eS_Obligation) (ca := fun o => .lst 1 (o.Cube.map eI)) (cb := fun o => .lst 1 (o.Inputs.map eB)) (nx := fun o => o.Next) (p := false) (nb := 22) (lb := 21) (u := 0) (fun _ => rfl) H2 H3 ?_ ?_ ?_ ?_
    ·simp only [go_sem, (show isMrg 21 = true from isMrg_odd 10), *]
    ·simp only [go_sem, (show isMrg 21 = true from isMrg_odd 10), *]
    ·simp only [go_sem, (show isMrg 21 = true from isMrg_odd 10), *]
    ·intro τ f5 f6
     cases h
     simp only [go_sem, (show isMrg 21 = true from isMrg_odd 10), *]
     exact ⟨_, rfl⟩
noncomputable def s_queue_Trace (p0 : S_Circuit) (p1 : (List S_Obligation)) (p2 : Int) (p3 : (List Bool)) (p4 : (List Bool)) : Option (S_Trace × Int) :=
 (s_queue_Chain p0 p1 p2).bind fun r0 =>
 if (r0.2 != 0) = true then
  some ((S_Trace.mk ([] : List Bool) ([] : List (List Bool))), r0.2)
 else
  (if ((p3.length : Int) != (p0.Latches.length : Int)) = true then
    some true
   else
    some ((p4.length : Int) != p0.Inputs)).bind fun x0 =>
  if x0 = true then
   some ((S_Trace.mk ([] : List Bool) ([] : List (List Bool))), 2)
  else
   if (decide ((r0.1.length : Int) ≥ 100)) = true then
    some ((S_Trace.mk ([] : List Bool) ([] : List (List Bool))), 4)
   else
    if p3.length ≤ big then
     if p4.length ≤ big then
      (chn (fun o : S_Obligation => o.Next) p1 p2).bind fun x1 =>
      (selM (fun o : S_Obligation => o.Inputs) p1 x1).bind fun y0 =>
      if ([p4] : List (List Bool)).length + x1.length ≤ big then
       if ∀ o ∈ p1, o.Inputs.length ≤ big then
        some ((S_Trace.mk p3 (([p4] : List (List Bool)) ++ y0)), 0)
       else none
      else none
     else none
    else none
theorem s_queue_Trace_ok {p0 : S_Circuit} {p1 : (List S_Obligation)} {p2 : Int} {p3 : (List Bool)} {p4 : (List Bool)} {r : S_Trace × Int} (h : s_queue_Trace p0 p1 p2 p3 p4 = some r) : Ans env k_queue_Trace [(.ag [(.d true (.int .i64 p0.Inputs)), (.d false (.lst 2 (p0.Latches.map eS_Latch))), (.d false (.lst 2 (p0.Ands.map eS_And))), (.d false (.lst 1 (p0.Bads.map eI))), (.d false (.lst 1 (p0.Constraints.map eI)))]), (.d false (.lst 3 (p1.map eS_Obligation))), (.d true (.int .i64 p2)), (.d false (.lst 1 (p3.map eB))), (.d false (.lst 1 (p4.map eB)))] (.tp [(.ag [(.d true (.lst 1 (r.1.First.map eB))), (.d true (.lst 1 (r.1.Inputs.map (eL 1 eB))))]), (.d true (.int .i64 r.2))]) := by
 unfold s_queue_Trace at h
 unfold Ans
 rw [AtF fn_queue_Trace]
 simp only [n_queue_Trace]
 replace h := bsome h; obtain ⟨r0, H0, h⟩ := h
 have k0 := AtCall_all (s_queue_Chain_ok H0); try dsimp only at k0
 replace h := itb h; rcases h with ⟨c0, h⟩ | ⟨c0, h⟩
 ·cases h
  simp only [go_sem, *]
  exact ⟨_, rfl⟩
 ·replace h := bsome h; obtain ⟨x0, H1, h⟩ := h
  try simp only [go_sem, *]
  refine WC.mono (Q := fun e σ' => e = .normal ∧ σ'.get 2 = (.d true (.int .i64 p2)) ∧ σ'.get 3 = (.d false (.lst 1 (p3.map eB))) ∧ σ'.get 4 = (.d false (.lst 1 (p4.map eB))) ∧ σ'.get 6 = (.ptr 0 1 0) ∧ σ'.get 10 = (.ptr 0 2 0) ∧ σ'.get 12 = (.d true (.lst 1 (r0.1.map eI))) ∧ σ'.get 39 = (.d true (.bool x0)) ∧ σ'.obj 0 1 = some (.box [(.d false (.lst 3 (p1.map eS_Obligation)))]) ∧ σ'.obj 0 2 = oB4 (([] : List Bool).length) (([] : List (List Bool)).length) ∧ σ'.obj 0 3 = some (.rw 1 (([] : List Bool).map eB) false) ∧ σ'.obj 0 4 = some (.rw 1 (([] : List (List Bool)).map (eL 1 eB)) false) ∧ σ'.obj 0 5 = none ∧ σ'.obj 0 6 = none ∧ σ'.obj 0 7 = none ∧ σ'.obj 0 8 = none ∧ FreeFrom σ' 0 41 ∧ σ'.up.length = 0) ?_ ?_
  ·replace h := H1
   clear H1
   replace h := itb h; rcases h with ⟨c1, h⟩ | ⟨c1, h⟩
   ·cases h
    simp only [go_sem, c_queue_Trace_p1, *]
   ·cases h
    simp only [go_sem, c_queue_Trace_p1, *]
  ·intro e τ hJ
   obtain ⟨rfl, f0, f1, f2, f3, f4, f5, f6, f7, f8, f9, f10, f11, f12, f13, f14, f15, f16⟩ := hJ
   replace h := itb h; rcases h with ⟨c2, h⟩ | ⟨c2, h⟩
   ·cases h
    simp only [go_sem, *]
    exact ⟨_, rfl⟩
   ·replace h := itb h; rcases h with ⟨c3, h⟩ | ⟨c3, h⟩
    ·cases h
     simp only [go_sem, *]
     exact ⟨_, rfl⟩
    ·replace h := need h; obtain ⟨H2, h⟩ := h
     replace h := need h; obtain ⟨H3, h⟩ := h
     replace h := bsome h; obtain ⟨x1, H4, h⟩ := h
     replace h := bsome h; obtain ⟨y0, H5, h⟩ := h
     replace h := need h; obtain ⟨H6, h⟩ := h
     replace h := need h; obtain ⟨H7, h⟩ := h
     try simp only [go_sem, (show isMrg 41 = true from isMrg_odd 20), *]
     refine WC_traceRf (enc := eS_Obligation) (ca := fun o => .lst 1 (o.Cube.map eI)) (f := fun o => o.Inputs) (nx := fun o => o.Next) (es := ([p4] : List (List Bool))) (p := false) (gr := false) (fs := (.lst 1 (p3.map eB))) (fun _ => rfl) H4 H5 H6 H7 ?_ ?_ ?_ ?_ ?_ ?_ ?_ ?_ ?_
     ·simp only [go_sem, (show isMrg 41 = true from isMrg_odd 20), *]
     ·simp only [go_sem, (show isMrg 41 = true from isMrg_odd 20), *]
     ·simp only [go_sem, (show isMrg 41 = true from isMrg_odd 20), *]
     ·simp only [go_sem, (show isMrg 41 = true from isMrg_odd 20), *]
     ·simp only [go_sem, (show isMrg 41 = true from isMrg_odd 20), *]
     ·simp only [go_sem, (show isMrg 41 = true from isMrg_odd 20), *]
     ·simp only [go_sem, (show isMrg 41 = true from isMrg_odd 20), *]
     ·simp only [go_sem, (show isMrg 41 = true from isMrg_odd 20), *]
     ·intro τ f17 f18 f19 ⟨gr_0_5, f20⟩ f21
      cases h
      simp only [go_sem, (show isMrg 41 = true from isMrg_odd 20), *]
      exact ⟨_, rfl⟩
def b_ref04_Same_L0 (p0 : (List Bool)) (p1 : (List Bool)) (s0 : Int) : Option ((Int) ⊕ ((Unit) ⊕ (Unit))) :=
 if (decide (s0 < (p0.length : Int))) = true then
  (idx p0 s0).bind fun x0 =>
  (idx p1 s0).bind fun x1 =>
  if ((x0 == x1) != true) = true then
   some (Sum.inr (Sum.inr ()))
  else
   some (Sum.inl (IntKind.wrap .i64 (s0 + 1)))
 else
  some (Sum.inr (Sum.inl ()))
def I_ref04_Same_L0 (p0 : (List Bool)) (p1 : (List Bool)) (s0 : Int) (σ : St) : Prop := σ.get 0 = (.d false (.lst 1 (p0.map eB))) ∧ σ.get 1 = (.d false (.lst 1 (p1.map eB))) ∧ σ.get 5 = (.d true (.int .i64 s0)) ∧ σ.up.length = 0
def J_ref04_Same_L0 (p0 : (List Bool)) (p1 : (List Bool)) (r : (Unit) ⊕ (Unit)) (e : Ex) (σ' : St) : Prop := (Sum.elim (fun o0 => e = (.exit 0) ∧ σ'.up.length = 0) (fun o1 => e = .ret ∧ σ'.get 4 = (.d true (.bool false)) ∧ σ'.up.length = 0)) r
theorem L_ref04_Same_L0 (p0 : (List Bool)) (p1 : (List Bool)) {s : Int} {r : (Unit) ⊕ (Unit)} (h : Lp (b_ref04_Same_L0 p0 p1) s = some r) {σ : St} {Q : Ex → St → Prop} (hI : I_ref04_Same_L0 p0 p1 s σ) (hQ : ∀ e σ', J_ref04_Same_L0 p0 p1 r e σ' → Q e σ') : WC env (.loop c_ref04_Same_l1) σ Q :=
 WC_Lp (I_ref04_Same_L0 p0 p1) (J_ref04_Same_L0 p0 p1) (by
  clear h hI hQ
  clear s r σ Q
  intro s0 σ x hI h
  obtain ⟨f0, f1, f2, f3⟩ := hI
  unfold b_ref04_Same_L0 at h
  replace h := itb h; rcases h with ⟨c1, h⟩ | ⟨c1, h⟩
  ·replace h := bsome h; obtain ⟨x0, H0, h⟩ := h
   have n0 := idx_n H0; have q0 := idx_q H0; have y0 := idx_x H0
   replace h := bsome h; obtain ⟨x1, H1, h⟩ := h
   have n1 := idx_n H1; have q1 := idx_q H1; have y1 := idx_x H1
   replace h := itb h; rcases h with ⟨c2, h⟩ | ⟨c2, h⟩
   ·cases h
    simp only [go_sem, LQ_inr, J_ref04_Same_L0, c_ref04_Same_l1, *]
   ·cases h
    simp only [go_sem, LQ_inl, I_ref04_Same_L0, c_ref04_Same_l1, *]
  ·cases h
   simp only [go_sem, LQ_inr, J_ref04_Same_L0, c_ref04_Same_l1, *]
) h hI hQ
noncomputable def s_ref04_Same (p0 : (List Bool)) (p1 : (List Bool)) : Option (Bool) :=
 if ((p0.length : Int) != (p1.length : Int)) = true then
  some false
 else
  (Lp (b_ref04_Same_L0 p0 p1) 0).bind fun x0 =>
  match x0 with
  | .inl x0' =>
   some true
  | .inr x0' =>
   some false
theorem s_ref04_Same_ok {p0 : (List Bool)} {p1 : (List Bool)} {r : Bool} (h : s_ref04_Same p0 p1 = some r) : Ans env k_ref04_Same [(.d false (.lst 1 (p0.map eB))), (.d false (.lst 1 (p1.map eB)))] (.d true (.bool r)) := by
 unfold s_ref04_Same at h
 unfold Ans
 rw [AtF fn_ref04_Same]
 simp only [n_ref04_Same]
 replace h := itb h; rcases h with ⟨c0, h⟩ | ⟨c0, h⟩
 ·cases h
  simp only [go_sem, *]
  exact ⟨_, rfl⟩
 ·replace h := bsome h; obtain ⟨x0, H0, h⟩ := h
  try simp only [go_sem, *]
  refine L_ref04_Same_L0 p0 p1 H0 ?_ ?_
  ·clear h
   simp only [go_sem, I_ref04_Same_L0, *]
  ·intro e τ hJ
   rcases x0 with x0' | x0'
   ·obtain ⟨rfl, f0⟩ := hJ
    cases h
    simp only [go_sem, *]
    exact ⟨_, rfl⟩
   ·obtain ⟨rfl, f1, f2⟩ := hJ
    cases h
    simp only [go_sem, *]
    exact ⟨_, rfl⟩
noncomputable def b_ref06_SameAll_L0 (p0 : (List (List Bool))) (p1 : (List (List Bool))) (s0 : Int) : Option ((Int) ⊕ ((Unit) ⊕ (Unit))) :=
 if (decide (s0 < (p0.length : Int))) = true then
  (idx p0 s0).bind fun x0 =>
  (idx p1 s0).bind fun x1 =>
  (s_ref04_Same x0 x1).bind fun r0 =>
  if r0 = true then
   some (Sum.inl (IntKind.wrap .i64 (s0 + 1)))
  else
   some (Sum.inr (Sum.inr ()))
 else
  some (Sum.inr (Sum.inl ()))
def I_ref06_SameAll_L0 (p0 : (List (List Bool))) (p1 : (List (List Bool))) (s0 : Int) (σ : St) : Prop := σ.get 0 = (.d false (.lst 1 (p0.map (eL 1 eB)))) ∧ σ.get 1 = (.d false (.lst 1 (p1.map (eL 1 eB)))) ∧ σ.get 5 = (.d true (.int .i64 s0)) ∧ σ.up.length = 0
def J_ref06_SameAll_L0 (p0 : (List (List Bool))) (p1 : (List (List Bool))) (r : (Unit) ⊕ (Unit)) (e : Ex) (σ' : St) : Prop := (Sum.elim (fun o0 => e = (.exit 0) ∧ σ'.up.length = 0) (fun o1 => e = .ret ∧ σ'.get 4 = (.d true (.bool false)) ∧ σ'.up.length = 0)) r
theorem L_ref06_SameAll_L0 (p0 : (List (List Bool))) (p1 : (List (List Bool))) {s : Int} {r : (Unit) ⊕ (Unit)} (h : Lp (b_ref06_SameAll_L0 p0 p1) s = some r) {σ : St} {Q : Ex → St → Prop} (hI : I_ref06_SameAll_L0 p0 p1 s σ) (hQ : ∀ e σ', J_ref06_SameAll_L0 p0 p1 r e σ' → Q e σ') : WC env (.loop c_ref06_SameAll_l1) σ Q :=
 WC_Lp (I_ref06_SameAll_L0 p0 p1) (J_ref06_SameAll_L0 p0 p1) (by
  clear h hI hQ
  clear s r σ Q
  intro s0 σ x hI h
  obtain ⟨f0, f1, f2, f3⟩ := hI
  unfold b_ref06_SameAll_L0 at h
  replace h := itb h; rcases h with ⟨c1, h⟩ | ⟨c1, h⟩
  ·replace h := bsome h; obtain ⟨x0, H0, h⟩ := h
   have n0 := idx_n H0; have q0 := idx_q H0; have y0 := idx_x H0
   replace h := bsome h; obtain ⟨x1, H1, h⟩ := h
   have n1 := idx_n H1; have q1 := idx_q H1; have y1 := idx_x H1
   replace h := bsome h; obtain ⟨r0, H2, h⟩ := h
   have k0 := AtCall_all (s_ref04_Same_ok H2); try dsimp only at k0
   replace h := itb h; rcases h with ⟨c2, h⟩ | ⟨c2, h⟩
   ·cases h
    simp only [go_sem, LQ_inl, I_ref06_SameAll_L0, c_ref06_SameAll_l1, *]
   ·cases h
    simp only [go_sem, LQ_inr, J_ref06_SameAll_L0, c_ref06_SameAll_l1, *]
  ·cases h
   simp only [go_sem, LQ_inr, J_ref06_SameAll_L0, c_ref06_SameAll_l1, *]
) h hI hQ
noncomputable def s_ref06_SameAll (p0 : (List (List Bool))) (p1 : (List (List Bool))) : Option (Bool) :=
 if ((p0.length : Int) != (p1.length : Int)) = true then
  some false
 else
  (Lp (b_ref06_SameAll_L0 p0 p1) 0).bind fun x0 =>
  match x0 with
  | .inl x0' =>
   some true
  | .inr x0' =>
   some false
theorem s_ref06_SameAll_ok {p0 : (List (List Bool))} {p1 : (List (List Bool))} {r : Bool} (h : s_ref06_SameAll p0 p1 = some r) : Ans env k_ref06_SameAll [(.d false (.lst 1 (p0.map (eL 1 eB)))), (.d false (.lst 1 (p1.map (eL 1 eB))))] (.d true (.bool r)) := by
 unfold s_ref06_SameAll at h
 unfold Ans
 rw [AtF fn_ref06_SameAll]
 simp only [n_ref06_SameAll]
 replace h := itb h; rcases h with ⟨c0, h⟩ | ⟨c0, h⟩
 ·cases h
  simp only [go_sem, *]
  exact ⟨_, rfl⟩
 ·replace h := bsome h; obtain ⟨x0, H0, h⟩ := h
  try simp only [go_sem, *]
  refine L_ref06_SameAll_L0 p0 p1 H0 ?_ ?_
  ·clear h
   simp only [go_sem, I_ref06_SameAll_L0, *]
  ·intro e τ hJ
   rcases x0 with x0' | x0'
   ·obtain ⟨rfl, f0⟩ := hJ
    cases h
    simp only [go_sem, *]
    exact ⟨_, rfl⟩
   ·obtain ⟨rfl, f1, f2⟩ := hJ
    cases h
    simp only [go_sem, *]
    exact ⟨_, rfl⟩
noncomputable def s_ref06_Same (p0 : S_Trace) (p1 : S_Trace) : Option (Bool) :=
 ((s_ref04_Same p0.First p1.First).bind fun r0 =>
  if r0 = true then
   (s_ref06_SameAll p0.Inputs p1.Inputs).bind fun r1 =>
   some r1
  else
   some false).bind fun x0 =>
 some x0
theorem s_ref06_Same_ok {p0 : S_Trace} {p1 : S_Trace} {r : Bool} (h : s_ref06_Same p0 p1 = some r) : Ans env k_ref06_Same [(.ag [(.d false (.lst 1 (p0.First.map eB))), (.d false (.lst 1 (p0.Inputs.map (eL 1 eB))))]), (.ag [(.d false (.lst 1 (p1.First.map eB))), (.d false (.lst 1 (p1.Inputs.map (eL 1 eB))))])] (.d true (.bool r)) := by
 unfold s_ref06_Same at h
 unfold Ans
 rw [AtF fn_ref06_Same]
 simp only [n_ref06_Same]
 replace h := bsome h; obtain ⟨x0, H0, h⟩ := h
 try simp only [go_sem, *]
 refine WC.mono (Q := fun e σ' => e = .normal ∧ σ'.get 4 = (.d true (.bool x0)) ∧ σ'.up.length = 0) ?_ ?_
 ·replace h := H0
  clear H0
  replace h := bsome h; obtain ⟨r0, H1, h⟩ := h
  have k0 := AtCall_all (s_ref04_Same_ok H1); try dsimp only at k0
  replace h := itb h; rcases h with ⟨c0, h⟩ | ⟨c0, h⟩
  ·replace h := bsome h; obtain ⟨r1, H2, h⟩ := h
   have k1 := AtCall_all (s_ref06_SameAll_ok H2); try dsimp only at k1
   cases h
   simp only [go_sem, c_ref06_Same_p1, *]
  ·cases h
   simp only [go_sem, c_ref06_Same_p1, *]
 ·intro e τ hJ
  obtain ⟨rfl, f0, f1⟩ := hJ
  cases h
  simp only [go_sem, *]
  exact ⟨_, rfl⟩
noncomputable def b_law38_pushed_L0 (p0 : (List S_Wait)) (s0 : (List S_Wait) × Int) : Option (((List S_Wait) × Int) ⊕ (((List S_Wait)) ⊕ (Int))) :=
 if (decide (s0.2 < (p0.length : Int))) = true then
  (idx p0 s0.2).bind fun x1 =>
  (s_queue_Push s0.1 x1).bind fun r1 =>
  if (r1.2 != 0) = true then
   some (Sum.inr (Sum.inr r1.2))
  else
   some (Sum.inl (r1.1, (IntKind.wrap .i64 (s0.2 + 1))))
 else
  some (Sum.inr (Sum.inl s0.1))
def I_law38_pushed_L0 (p0 : (List S_Wait)) (s0 : (List S_Wait) × Int) (σ : St) : Prop := σ.get 0 = (.d false (.lst 2 (p0.map eS_Wait))) ∧ σ.get 4 = (.d true (.lst 2 (s0.1.map eS_Wait))) ∧ σ.get 5 = (.d true (.int .i64 s0.2)) ∧ σ.up.length = 0
def J_law38_pushed_L0 (p0 : (List S_Wait)) (r : ((List S_Wait)) ⊕ (Int)) (e : Ex) (σ' : St) : Prop := (Sum.elim (fun o0 => e = (.exit 0) ∧ σ'.get 4 = (.d true (.lst 2 (o0.map eS_Wait))) ∧ σ'.up.length = 0) (fun o1 => e = .ret ∧ σ'.get 2 = (.nil 2) ∧ σ'.get 3 = (.d true (.int .i64 o1)) ∧ σ'.up.length = 0)) r
theorem L_law38_pushed_L0 (p0 : (List S_Wait)) {s : (List S_Wait) × Int} {r : ((List S_Wait)) ⊕ (Int)} (h : Lp (b_law38_pushed_L0 p0) s = some r) {σ : St} {Q : Ex → St → Prop} (hI : I_law38_pushed_L0 p0 s σ) (hQ : ∀ e σ', J_law38_pushed_L0 p0 r e σ' → Q e σ') : WC env (.loop c_law38_pushed_l1) σ Q :=
 WC_Lp (I_law38_pushed_L0 p0) (J_law38_pushed_L0 p0) (by
  clear h hI hQ
  clear s r σ Q
  intro s0 σ x hI h
  obtain ⟨f0, f1, f2, f3⟩ := hI
  unfold b_law38_pushed_L0 at h
  replace h := itb h; rcases h with ⟨c2, h⟩ | ⟨c2, h⟩
  ·replace h := bsome h; obtain ⟨x1, H2, h⟩ := h
   have n1 := idx_n H2; have q1 := idx_q H2; have y1 := idx_x H2
   replace h := bsome h; obtain ⟨r1, H3, h⟩ := h
   have k1 := AtCall_all (s_queue_Push_ok H3); try dsimp only at k1
   replace h := itb h; rcases h with ⟨c3, h⟩ | ⟨c3, h⟩
   ·cases h
    simp only [go_sem, LQ_inr, J_law38_pushed_L0, c_law38_pushed_l1, *]
   ·cases h
    simp only [go_sem, LQ_inl, I_law38_pushed_L0, c_law38_pushed_l1, *]
  ·cases h
   simp only [go_sem, LQ_inr, J_law38_pushed_L0, c_law38_pushed_l1, *]
) h hI hQ
noncomputable def s_law38_pushed (p0 : (List S_Wait)) : Option ((List S_Wait) × Int) :=
 if (decide (0 < (p0.length : Int))) = true then
  (idx p0 0).bind fun x0 =>
  (s_queue_Push ([] : List S_Wait) x0).bind fun r0 =>
  if (r0.2 != 0) = true then
   some (([] : List S_Wait), r0.2)
  else
   (Lp (b_law38_pushed_L0 p0) (r0.1, (IntKind.wrap .i64 (0 + 1)))).bind fun x1 =>
   match x1 with
   | .inl x1' =>
    some (x1', 0)
   | .inr x1' =>
    some (([] : List S_Wait), x1')
 else
  some (([] : List S_Wait), 0)
theorem s_law38_pushed_ok {p0 : (List S_Wait)} {r : (List S_Wait) × Int} (h : s_law38_pushed p0 = some r) : Ans env k_law38_pushed [(.d false (.lst 2 (p0.map eS_Wait)))] (.tp [(.d true (.lst 2 (r.1.map eS_Wait))), (.d true (.int .i64 r.2))]) := by
 unfold s_law38_pushed at h
 unfold Ans
 rw [AtF fn_law38_pushed]
 simp only [n_law38_pushed]
 try simp only [go_sem, *]
 rw [WC_loop' c_law38_pushed_l1.eq_1]
 replace h := itb h; rcases h with ⟨c0, h⟩ | ⟨c0, h⟩
 ·replace h := bsome h; obtain ⟨x0, H0, h⟩ := h
  have n0 := idx_n H0; have q0 := idx_q H0; have y0 := idx_x H0
  simp only [Int.toNat_zero] at n0 q0 y0
  replace h := bsome h; obtain ⟨r0, H1, h⟩ := h
  have k0 := AtCall_all (s_queue_Push_ok H1); try dsimp only at k0
  try simp only [List.map_cons, List.map_nil, List.map_append, List.map_set, List.nil_append, List.map_replicate, eI, eU8, eB, eL, eS_Wait, eS_Latch, eS_Obligation, eS_And, eS_Circuit, eA4_Int, eS_Trace] at k0
  replace h := itb h; rcases h with ⟨c1, h⟩ | ⟨c1, h⟩
  ·cases h
   simp only [go_sem, *]
   exact ⟨_, rfl⟩
  ·replace h := bsome h; obtain ⟨x1, H2, h⟩ := h
   try simp only [go_sem, *]
   refine L_law38_pushed_L0 p0 H2 ?_ ?_
   ·clear h
    simp only [go_sem, I_law38_pushed_L0, *]
   ·intro e τ hJ
    rcases x1 with x1' | x1'
    ·obtain ⟨rfl, f0, f1⟩ := hJ
     cases h
     simp only [go_sem, *]
     exact ⟨_, rfl⟩
    ·obtain ⟨rfl, f2, f3, f4⟩ := hJ
     cases h
     simp only [go_sem, *]
     exact ⟨_, rfl⟩
 ·cases h
  simp only [go_sem, *]
  exact ⟨_, rfl⟩
noncomputable def b_law38_popped_L0 (s0 : (List S_Wait) × (List S_Wait) × Int) : Option (((List S_Wait) × (List S_Wait) × Int) ⊕ (((List S_Wait)) ⊕ ((List S_Wait) × Bool))) :=
 if (decide (s0.2.2 ≤ 2000)) = true then
  (s_queue_Pop s0.2.1).bind fun r1 =>
  if (r1.2.2 != 0) = true then
   some (Sum.inr (Sum.inr (s0.1, (r1.2.2 == 6))))
  else
   if s0.1.length + 1 ≤ big then
    some (Sum.inl ((s0.1 ++ ([r1.1] : List S_Wait)), r1.2.1, (IntKind.wrap .i64 (s0.2.2 + 1))))
   else none
 else
  some (Sum.inr (Sum.inl s0.1))
def I_law38_popped_L0 (s0 : (List S_Wait) × (List S_Wait) × Int) (σ : St) : Prop := σ.get 0 = (.d true (.lst 2 (s0.2.1.map eS_Wait))) ∧ σ.get 4 = (.row 0 0 0 s0.1.length 2) ∧ σ.get 5 = (.d true (.int .i64 s0.2.2)) ∧ σ.obj 0 0 = some (.rw 2 (s0.1.map eS_Wait) true) ∧ σ.obj 0 3 = none ∧ σ.up.length = 0
def J_law38_popped_L0 (r : ((List S_Wait)) ⊕ ((List S_Wait) × Bool)) (e : Ex) (σ' : St) : Prop := (Sum.elim (fun o0 => e = (.exit 0) ∧ σ'.get 4 = (.row 0 0 0 o0.length 2) ∧ σ'.obj 0 0 = some (.rw 2 (o0.map eS_Wait) true) ∧ σ'.obj 0 3 = none ∧ σ'.up.length = 0) (fun o1 => e = .ret ∧ σ'.get 2 = (.row 0 0 0 o1.1.length 2) ∧ σ'.get 3 = (.d true (.bool o1.2)) ∧ σ'.obj 0 0 = some (.rw 2 (o1.1.map eS_Wait) true) ∧ σ'.obj 0 3 = none ∧ σ'.up.length = 0)) r
theorem L_law38_popped_L0 {s : (List S_Wait) × (List S_Wait) × Int} {r : ((List S_Wait)) ⊕ ((List S_Wait) × Bool)} (h : Lp (b_law38_popped_L0) s = some r) {σ : St} {Q : Ex → St → Prop} (hI : I_law38_popped_L0 s σ) (hQ : ∀ e σ', J_law38_popped_L0 r e σ' → Q e σ') : WC env (.loop c_law38_popped_l1) σ Q :=
 WC_Lp (I_law38_popped_L0) (J_law38_popped_L0) (by
  clear h hI hQ
  clear s r σ Q
  intro s0 σ x hI h
  obtain ⟨f0, f1, f2, f3, f4, f5⟩ := hI
  unfold b_law38_popped_L0 at h
  replace h := itb h; rcases h with ⟨c1, h⟩ | ⟨c1, h⟩
  ·replace h := bsome h; obtain ⟨r1, H2, h⟩ := h
   have k1 := AtCall_all (s_queue_Pop_ok H2); try dsimp only at k1
   replace h := itb h; rcases h with ⟨c2, h⟩ | ⟨c2, h⟩
   ·cases h
    simp only [go_sem, LQ_inr, J_law38_popped_L0, c_law38_popped_l1, (show (decide ((0 : Int) ≤ 2000)) = true from rfl), *]
   ·replace h := need h; obtain ⟨H3, h⟩ := h
    cases h
    simp only [go_sem, LQ_inl, I_law38_popped_L0, c_law38_popped_l1, (show (decide ((0 : Int) ≤ 2000)) = true from rfl), *]
  ·cases h
   simp only [go_sem, LQ_inr, J_law38_popped_L0, c_law38_popped_l1, (show (decide ((0 : Int) ≤ 2000)) = true from rfl), *]
) h hI hQ
noncomputable def s_law38_popped (p0 : (List S_Wait)) : Option ((List S_Wait) × Bool) :=
 (s_queue_Pop p0).bind fun r0 =>
 if (r0.2.2 != 0) = true then
  some (([] : List S_Wait), (r0.2.2 == 6))
 else
  if ([] : List S_Wait).length + 1 ≤ big then
   (Lp (b_law38_popped_L0) (([] ++ ([r0.1] : List S_Wait)), r0.2.1, (IntKind.wrap .i64 (0 + 1)))).bind fun x0 =>
   match x0 with
   | .inl x0' =>
    some (x0', false)
   | .inr x0' =>
    some (x0'.1, x0'.2)
  else none
theorem s_law38_popped_ok {p0 : (List S_Wait)} {r : (List S_Wait) × Bool} (h : s_law38_popped p0 = some r) : Ans env k_law38_popped [(.d false (.lst 2 (p0.map eS_Wait)))] (.tp [(.d true (.lst 2 (r.1.map eS_Wait))), (.d true (.bool r.2))]) := by
 unfold s_law38_popped at h
 unfold Ans
 rw [AtF fn_law38_popped]
 simp only [n_law38_popped]
 try simp only [go_sem, *]
 rw [WC_loop' c_law38_popped_l1.eq_1]
 replace h := bsome h; obtain ⟨r0, H0, h⟩ := h
 have k0 := AtCall_all (s_queue_Pop_ok H0); try dsimp only at k0
 replace h := itb h; rcases h with ⟨c0, h⟩ | ⟨c0, h⟩
 ·cases h
  simp only [go_sem, (show (decide ((0 : Int) ≤ 2000)) = true from rfl), *]
  exact ⟨_, rfl⟩
 ·replace h := need h; obtain ⟨H1, h⟩ := h
  try simp only [List.length_cons, List.length_nil, cpl_length, List.length_append, List.length_set, List.length_replicate, Nat.zero_add, Nat.reduceAdd] at H1
  replace h := bsome h; obtain ⟨x0, H2, h⟩ := h
  try simp only [go_sem, (show (decide ((0 : Int) ≤ 2000)) = true from rfl), *]
  refine L_law38_popped_L0 H2 ?_ ?_
  ·clear h
   simp only [go_sem, I_law38_popped_L0, (show (decide ((0 : Int) ≤ 2000)) = true from rfl), *]
  ·intro e τ hJ
   rcases x0 with x0' | x0'
   ·obtain ⟨rfl, f0, f1, f2, f3⟩ := hJ
    cases h
    simp only [go_sem, (show (decide ((0 : Int) ≤ 2000)) = true from rfl), *]
    exact ⟨_, rfl⟩
   ·obtain ⟨rfl, f4, f5, f6, f7, f8⟩ := hJ
    cases h
    simp only [go_sem, (show (decide ((0 : Int) ≤ 2000)) = true from rfl), *]
    exact ⟨_, rfl⟩
def b_ref38_Same_L0 (p0 : (List S_Wait)) (p1 : (List S_Wait)) (s0 : Int) : Option ((Int) ⊕ ((Unit) ⊕ (Unit))) :=
 if (decide (s0 < (p0.length : Int))) = true then
  ((idx p0 s0).bind fun x1 =>
   (idx p1 s0).bind fun x2 =>
   if (x1.Frame == x2.Frame) = true then
    if (x1.Number == x2.Number) = true then
     some false
    else
     some true
   else
    some true).bind fun x0 =>
  if x0 = true then
   some (Sum.inr (Sum.inr ()))
  else
   some (Sum.inl (IntKind.wrap .i64 (s0 + 1)))
 else
  some (Sum.inr (Sum.inl ()))
def I_ref38_Same_L0 (p0 : (List S_Wait)) (p1 : (List S_Wait)) (s0 : Int) (σ : St) : Prop := σ.get 0 = (.d false (.lst 2 (p0.map eS_Wait))) ∧ σ.get 1 = (.d false (.lst 2 (p1.map eS_Wait))) ∧ σ.get 5 = (.d true (.int .i64 s0)) ∧ σ.up.length = 0
def J_ref38_Same_L0 (p0 : (List S_Wait)) (p1 : (List S_Wait)) (r : (Unit) ⊕ (Unit)) (e : Ex) (σ' : St) : Prop := (Sum.elim (fun o0 => e = (.exit 0) ∧ σ'.up.length = 0) (fun o1 => e = .ret ∧ σ'.get 4 = (.d true (.bool false)) ∧ σ'.up.length = 0)) r
theorem L_ref38_Same_L0 (p0 : (List S_Wait)) (p1 : (List S_Wait)) {s : Int} {r : (Unit) ⊕ (Unit)} (h : Lp (b_ref38_Same_L0 p0 p1) s = some r) {σ : St} {Q : Ex → St → Prop} (hI : I_ref38_Same_L0 p0 p1 s σ) (hQ : ∀ e σ', J_ref38_Same_L0 p0 p1 r e σ' → Q e σ') : WC env (.loop c_ref38_Same_l1) σ Q :=
 WC_Lp (I_ref38_Same_L0 p0 p1) (J_ref38_Same_L0 p0 p1) (by
  clear h hI hQ
  clear s r σ Q
  intro s0 σ x hI h
  obtain ⟨f0, f1, f2, f3⟩ := hI
  unfold b_ref38_Same_L0 at h
  replace h := itb h; rcases h with ⟨c1, h⟩ | ⟨c1, h⟩
  ·replace h := bsome h; obtain ⟨x0, H0, h⟩ := h
   try simp only [go_sem, c_ref38_Same_l1, *]
   refine WC.mono (Q := fun e σ' => e = .normal ∧ σ'.get 0 = (.d false (.lst 2 (p0.map eS_Wait))) ∧ σ'.get 1 = (.d false (.lst 2 (p1.map eS_Wait))) ∧ σ'.get 5 = (.d true (.int .i64 s0)) ∧ σ'.get 25 = (.d true (.bool x0)) ∧ σ'.up.length = 0) ?_ ?_
   ·replace h := H0
    clear H0
    replace h := bsome h; obtain ⟨x1, H1, h⟩ := h
    have n0 := idx_n H1; have q0 := idx_q H1; have y0 := idx_x H1
    replace h := bsome h; obtain ⟨x2, H2, h⟩ := h
    have n1 := idx_n H2; have q1 := idx_q H2; have y1 := idx_x H2
    replace h := itb h; rcases h with ⟨c2, h⟩ | ⟨c2, h⟩
    ·replace h := itb h; rcases h with ⟨c3, h⟩ | ⟨c3, h⟩
     ·cases h
      simp only [go_sem, c_ref38_Same_l1, c_ref38_Same_p1, *]
     ·cases h
      simp only [go_sem, c_ref38_Same_l1, c_ref38_Same_p1, *]
    ·cases h
     simp only [go_sem, c_ref38_Same_l1, c_ref38_Same_p1, *]
   ·intro e τ hJ
    obtain ⟨rfl, f4, f5, f6, f7, f8⟩ := hJ
    replace h := itb h; rcases h with ⟨c4, h⟩ | ⟨c4, h⟩
    ·cases h
     simp only [go_sem, LQ_inr, J_ref38_Same_L0, c_ref38_Same_l1, *]
    ·cases h
     simp only [go_sem, LQ_inl, I_ref38_Same_L0, c_ref38_Same_l1, *]
  ·cases h
   simp only [go_sem, LQ_inr, J_ref38_Same_L0, c_ref38_Same_l1, *]
) h hI hQ
noncomputable def s_ref38_Same (p0 : (List S_Wait)) (p1 : (List S_Wait)) : Option (Bool) :=
 if ((p0.length : Int) != (p1.length : Int)) = true then
  some false
 else
  (Lp (b_ref38_Same_L0 p0 p1) 0).bind fun x0 =>
  match x0 with
  | .inl x0' =>
   some true
  | .inr x0' =>
   some false
theorem s_ref38_Same_ok {p0 : (List S_Wait)} {p1 : (List S_Wait)} {r : Bool} (h : s_ref38_Same p0 p1 = some r) : Ans env k_ref38_Same [(.d false (.lst 2 (p0.map eS_Wait))), (.d false (.lst 2 (p1.map eS_Wait)))] (.d true (.bool r)) := by
 unfold s_ref38_Same at h
 unfold Ans
 rw [AtF fn_ref38_Same]
 simp only [n_ref38_Same]
 replace h := itb h; rcases h with ⟨c0, h⟩ | ⟨c0, h⟩
 ·cases h
  simp only [go_sem, *]
  exact ⟨_, rfl⟩
 ·replace h := bsome h; obtain ⟨x0, H0, h⟩ := h
  try simp only [go_sem, *]
  refine L_ref38_Same_L0 p0 p1 H0 ?_ ?_
  ·clear h
   simp only [go_sem, I_ref38_Same_L0, *]
  ·intro e τ hJ
   rcases x0 with x0' | x0'
   ·obtain ⟨rfl, f0⟩ := hJ
    cases h
    simp only [go_sem, *]
    exact ⟨_, rfl⟩
   ·obtain ⟨rfl, f1, f2⟩ := hJ
    cases h
    simp only [go_sem, *]
    exact ⟨_, rfl⟩
def b_ref13_Same_L0 (p0 : (List Int)) (p1 : (List Int)) (s0 : Int) : Option ((Int) ⊕ ((Unit) ⊕ (Unit))) :=
 if (decide (s0 < (p0.length : Int))) = true then
  (idx p0 s0).bind fun x0 =>
  (idx p1 s0).bind fun x1 =>
  if (x0 != x1) = true then
   some (Sum.inr (Sum.inr ()))
  else
   some (Sum.inl (IntKind.wrap .i64 (s0 + 1)))
 else
  some (Sum.inr (Sum.inl ()))
def I_ref13_Same_L0 (p0 : (List Int)) (p1 : (List Int)) (s0 : Int) (σ : St) : Prop := σ.get 0 = (.d false (.lst 1 (p0.map eI))) ∧ σ.get 1 = (.d false (.lst 1 (p1.map eI))) ∧ σ.get 5 = (.d true (.int .i64 s0)) ∧ σ.up.length = 0
def J_ref13_Same_L0 (p0 : (List Int)) (p1 : (List Int)) (r : (Unit) ⊕ (Unit)) (e : Ex) (σ' : St) : Prop := (Sum.elim (fun o0 => e = (.exit 0) ∧ σ'.up.length = 0) (fun o1 => e = .ret ∧ σ'.get 4 = (.d true (.bool false)) ∧ σ'.up.length = 0)) r
theorem L_ref13_Same_L0 (p0 : (List Int)) (p1 : (List Int)) {s : Int} {r : (Unit) ⊕ (Unit)} (h : Lp (b_ref13_Same_L0 p0 p1) s = some r) {σ : St} {Q : Ex → St → Prop} (hI : I_ref13_Same_L0 p0 p1 s σ) (hQ : ∀ e σ', J_ref13_Same_L0 p0 p1 r e σ' → Q e σ') : WC env (.loop c_ref13_Same_l1) σ Q :=
 WC_Lp (I_ref13_Same_L0 p0 p1) (J_ref13_Same_L0 p0 p1) (by
  clear h hI hQ
  clear s r σ Q
  intro s0 σ x hI h
  obtain ⟨f0, f1, f2, f3⟩ := hI
  unfold b_ref13_Same_L0 at h
  replace h := itb h; rcases h with ⟨c1, h⟩ | ⟨c1, h⟩
  ·replace h := bsome h; obtain ⟨x0, H0, h⟩ := h
   have n0 := idx_n H0; have q0 := idx_q H0; have y0 := idx_x H0
   replace h := bsome h; obtain ⟨x1, H1, h⟩ := h
   have n1 := idx_n H1; have q1 := idx_q H1; have y1 := idx_x H1
   replace h := itb h; rcases h with ⟨c2, h⟩ | ⟨c2, h⟩
   ·cases h
    simp only [go_sem, LQ_inr, J_ref13_Same_L0, c_ref13_Same_l1, *]
   ·cases h
    simp only [go_sem, LQ_inl, I_ref13_Same_L0, c_ref13_Same_l1, *]
  ·cases h
   simp only [go_sem, LQ_inr, J_ref13_Same_L0, c_ref13_Same_l1, *]
) h hI hQ
noncomputable def s_ref13_Same (p0 : (List Int)) (p1 : (List Int)) : Option (Bool) :=
 if ((p0.length : Int) != (p1.length : Int)) = true then
  some false
 else
  (Lp (b_ref13_Same_L0 p0 p1) 0).bind fun x0 =>
  match x0 with
  | .inl x0' =>
   some true
  | .inr x0' =>
   some false
theorem s_ref13_Same_ok {p0 : (List Int)} {p1 : (List Int)} {r : Bool} (h : s_ref13_Same p0 p1 = some r) : Ans env k_ref13_Same [(.d false (.lst 1 (p0.map eI))), (.d false (.lst 1 (p1.map eI)))] (.d true (.bool r)) := by
 unfold s_ref13_Same at h
 unfold Ans
 rw [AtF fn_ref13_Same]
 simp only [n_ref13_Same]
 replace h := itb h; rcases h with ⟨c0, h⟩ | ⟨c0, h⟩
 ·cases h
  simp only [go_sem, *]
  exact ⟨_, rfl⟩
 ·replace h := bsome h; obtain ⟨x0, H0, h⟩ := h
  try simp only [go_sem, *]
  refine L_ref13_Same_L0 p0 p1 H0 ?_ ?_
  ·clear h
   simp only [go_sem, I_ref13_Same_L0, *]
  ·intro e τ hJ
   rcases x0 with x0' | x0'
   ·obtain ⟨rfl, f0⟩ := hJ
    cases h
    simp only [go_sem, *]
    exact ⟨_, rfl⟩
   ·obtain ⟨rfl, f1, f2⟩ := hJ
    cases h
    simp only [go_sem, *]
    exact ⟨_, rfl⟩
end Go.Proofs.Ytkhgnkfdpabflaa.Vm
