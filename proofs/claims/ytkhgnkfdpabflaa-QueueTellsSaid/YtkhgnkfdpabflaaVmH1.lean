/- Walks over the code of functions. Printed. -/
import Derived.Test.YtkhgnkfdpabflaaVmH0
namespace Go.Proofs.Ytkhgnkfdpabflaa.Vm
open Go
set_option linter.unusedSimpArgs false
set_option linter.unusedVariables false
set_option maxRecDepth 4000
set_option maxHeartbeats 4000000
attribute [local go_sem] WC_skip WC_exit WC_ret WC_seq WC_block WC_cond WC_rg KSeq_normal KSeq_ret KSeq_exit KBlock_normal KBlock_ret KBlock_exit KN_eq KRg_eq KSt_eq KSet_eq KLen_eq KPick_eq KG_eq KCond_eq boolP_d biteC_true biteC_false biteO_true biteO_false WO_nil WO_mv WO_nilr WO_pick WO_bin WO_beq WO_eqs WO_un WO_cvt WO_alloc WO_box WO_load WO_store WO_fad WO_fval WO_ix WO_ixb WO_ixa WO_bld WO_bsl WO_mks WO_slc WO_len WO_mx WO_mn WO_app WO_cpy WO_clr WO_xt WO_fn WO_chk WO_g
 WO_call WO_callv callK KHand KCallv KRes KBack_ret KRet_eq KAns env_fn St.hand St.lend St.lends St.lend1 St.vals St.frz fr1_obj fr1_get fr1_upl frO_rw frO_fz frO_none St.rowOf List.foldl_nil List.foldl_cons List.map_cons List.map_nil
 optP_some optP_none
 St.get_set St.obj_set St.get_setObj St.obj_setObj St.get_kill St.obj_kill0 St.obj_killS St.get_ini St.obj_ini0 gt_nil gt_zero gt_succ St.val_t St.val_c
 stl_get stl_obj0 stl_objS stl_upl stv_d stv_dx stv_nil stv_row0 stv_rowS stv_ptr stv_rel0 stv_pd stv_ag stv_tp stv_cl stvs_nil stvs_cons obs_box obs_rw obs_fz
 ret_get ret_obj ret_up ini_objS ini_upl ini_upl0 set_upl kill_upl setObj_upl0 setObj_uplS
 kill_d kill_dx kill_nil kill_row0 kill_rowS kill_ptr0 kill_ptrS kill_rel0 kill_relS kill_pd kill_ag kill_tp kill_cl kills_nil kills_cons obk_box obk_rw obk_fz
 pre step bin_int bin_shr bin_shl beq_bool arith_add arith_sub arith_mul arith_and arith_or arith_xor arith_eql arith_neq arith_lss arith_leq arith_gtr arith_geq arith_quo2 arith_rem2 arith_shr1 arith_shl1 maxOf_two minOf_two un lenOf cellsOf ofCells wid sub? slice_map slice_head slice_full' slice_z slice_c slice_s put St.new zcells St.load St.store Vm.fad St.ix St.slc St.els St.app St.wants St.skip I.dst resVal resVals Z.v Z.t? ofT T.cells V.shift V.shifts V.down V.downs downL chkV eqs eqFlat fill fillT flatFill T.noL T.flat
 dat dat2 dat1 dats1 dats2 Fn.pure FreeRows_nil FreeRows_cons setRows ren ren2 ren1 KTk take takes2 take2 takes1 take1 take0 rowsOb Vm.st Option.isNone_none Option.isNone_some List.mem_cons List.not_mem_nil not_or
 Option.map_some Option.map_none Option.bind_some List.length_cons List.length_nil List.length_append List.length_set cpl_length List.length_map List.length_replicate List.map_append List.map_set List.map_replicate List.getElem?_map List.getElem?_cons_zero List.getElem?_cons_succ List.drop_zero List.take_zero List.drop_succ_cons List.take_succ_cons List.take_nil List.drop_nil List.zip_cons_cons List.zip_nil_left List.zip_nil_right List.mapM_cons List.mapM_nil Option.pure_def Option.bind_eq_bind List.all_cons List.all_nil List.append_eq_nil_iff List.cons_ne_nil List.map_eq_nil_iff List.set_cons_zero List.set_cons_succ List.replicate_succ List.replicate_zero
 Nat.reduceEqDiff Nat.reduceLeDiff Nat.reduceAdd Nat.reduceSub Nat.reduceLT Nat.reduceMul Nat.reduceBEq Nat.ble_eq reduceIte reduceCtorEq Nat.add_zero Nat.sub_zero Nat.zero_add and_true true_and and_false false_and and_self or_true true_or false_or or_false if_true if_false Nat.one_ne_zero not_true not_false_eq_true not_false_iff Bool.false_eq_true forall_const true_implies false_implies implies_true BEq.rfl Bool.not_true Bool.not_false Bool.and_true Bool.true_and Bool.and_false Bool.false_and Bool.and_self Bool.true_bne Bool.false_bne not_true_eq_false List.nil_append List.append_nil List.cons_append dInt dBool Nat.le_refl Nat.le_add_right St.toT St.toTs ne_eq
 ff_set ff_setObj ff_setObjl ff_ini0 ff_iniS ff_ret ff_frz1 mg_get mg_obj0 mg_objS mg_up KBack_mg mrv_d mrv_nil mrv_ptr0 mrv_ptrS mrv_row0 mrv_rowS mrv_ag mrv_tp mrv_cl mrvs_nil mrvs_cons obm_box obm_rw obm_fz
 Sum.elim_inl Sum.elim_inr Option.some.injEq Ob.rw.injEq exists_eq2 eI eU8 eU64 eB eL eS_Wait oB0 at_queue_order at_slices_IsSortedFunc_of_api_Wait c_cmp_Compare_of_int c_cmp_Or_of_int c_cmp_isNaN_of_int c_law38_QueueTells c_queue_Check c_queue_Pop c_queue_Push c_queue_may c_queue_order c_ref38_Check c_ref38_Great c_ref38_Less c_ref38_May c_ref38_Pop c_ref38_Push c_ref38_Same c_ref38_With c_slices_IsSortedFunc_of_api_Wait cloneX ex_slices_Clone_of_api_Wait ex_slices_Insert_of_api_Wait fn_cmp_Compare_of_int fn_cmp_Or_of_int fn_cmp_isNaN_of_int fn_queue_Check fn_queue_Pop fn_queue_Push fn_queue_may fn_queue_order fn_ref38_Check fn_ref38_Great fn_ref38_Less fn_ref38_May fn_ref38_Pop fn_ref38_Push fn_ref38_Same fn_ref38_With fn_slices_Clone_of_api_Wait fn_slices_Insert_of_api_Wait fn_slices_IsSortedFunc_of_api_Wait insA_length insertX map_insA n_cmp_Compare_of_int n_cmp_Or_of_int n_cmp_isNaN_of_int n_queue_Check n_queue_Pop n_queue_Push n_queue_may n_queue_order n_ref38_Check n_ref38_Great n_ref38_Less n_ref38_May n_ref38_Pop n_ref38_Push n_ref38_Same n_ref38_With n_slices_IsSortedFunc_of_api_Wait
def s_ref38_Great (p0 : Int) : Option (Bool) :=
 (if (decide (p0 > 130)) = true then
   if (decide (p0 < 1000)) = true then
    some true
   else
    some (decide (p0 > 1010))
  else
   some (decide (p0 > 1010))).bind fun x0 =>
 some x0
theorem s_ref38_Great_ok {p0 : Int} {r : Bool} (h : s_ref38_Great p0 = some r) : Ans env k_ref38_Great [(.d true (.int .i64 p0))] (.d true (.bool r)) := by
 unfold s_ref38_Great at h
 unfold Ans
 rw [AtF fn_ref38_Great]
 simp only [n_ref38_Great]
 replace h := bsome h; obtain ⟨x0, H0, h⟩ := h
 try simp only [go_sem, *]
 refine WC.mono (Q := fun e σ' => e = .normal ∧ σ'.get 2 = (.d true (.bool x0)) ∧ σ'.up.length = 0) ?_ ?_
 ·replace h := H0
  clear H0
  replace h := itb h; rcases h with ⟨c0, h⟩ | ⟨c0, h⟩
  ·replace h := itb h; rcases h with ⟨c1, h⟩ | ⟨c1, h⟩
   ·cases h
    simp only [go_sem, c_ref38_Great_p1, *]
   ·cases h
    simp only [go_sem, c_ref38_Great_p1, *]
  ·cases h
   simp only [go_sem, c_ref38_Great_p1, *]
 ·intro e τ hJ
  obtain ⟨rfl, f0, f1⟩ := hJ
  cases h
  simp only [go_sem, *]
  exact ⟨_, rfl⟩
def s_queue_may (p0 : S_Wait) : Option (Bool) :=
 (if (decide (p0.Frame ≥ 0)) = true then
   if (decide (p0.Frame ≤ 60)) = true then
    if (decide (p0.Number ≥ 0)) = true then
     some (decide (p0.Number < 1000))
    else
     some false
   else
    some false
  else
   some false).bind fun x0 =>
 some x0
theorem s_queue_may_ok {p0 : S_Wait} {r : Bool} (h : s_queue_may p0 = some r) : Ans env k_queue_may [(.ag [(.d true (.int .i64 p0.Frame)), (.d true (.int .i64 p0.Number))])] (.d true (.bool r)) := by
 unfold s_queue_may at h
 unfold Ans
 rw [AtF fn_queue_may]
 simp only [n_queue_may]
 replace h := bsome h; obtain ⟨x0, H0, h⟩ := h
 try simp only [go_sem, *]
 refine WC.mono (Q := fun e σ' => e = .normal ∧ σ'.get 2 = (.d true (.bool x0)) ∧ σ'.up.length = 0) ?_ ?_
 ·replace h := H0
  clear H0
  replace h := itb h; rcases h with ⟨c0, h⟩ | ⟨c0, h⟩
  ·replace h := itb h; rcases h with ⟨c1, h⟩ | ⟨c1, h⟩
   ·replace h := itb h; rcases h with ⟨c2, h⟩ | ⟨c2, h⟩
    ·cases h
     simp only [go_sem, c_queue_may_p1, *]
    ·cases h
     simp only [go_sem, c_queue_may_p1, *]
   ·cases h
    simp only [go_sem, c_queue_may_p1, *]
  ·cases h
   simp only [go_sem, c_queue_may_p1, *]
 ·intro e τ hJ
  obtain ⟨rfl, f0, f1⟩ := hJ
  cases h
  simp only [go_sem, *]
  exact ⟨_, rfl⟩
def s_cmp_isNaN_of_int (p0 : Int) : Option (Bool) :=
 some (p0 != p0)
theorem s_cmp_isNaN_of_int_ok {p0 : Int} {r : Bool} (h : s_cmp_isNaN_of_int p0 = some r) : Ans env k_cmp_isNaN_of_int [(.d true (.int .i64 p0))] (.d true (.bool r)) := by
 unfold s_cmp_isNaN_of_int at h
 unfold Ans
 rw [AtF fn_cmp_isNaN_of_int]
 simp only [n_cmp_isNaN_of_int]
 cases h
 simp only [go_sem, *]
 exact ⟨_, rfl⟩
noncomputable def s_cmp_Compare_of_int (p0 : Int) (p1 : Int) : Option (Int) :=
 (s_cmp_isNaN_of_int p0).bind fun r0 =>
 (s_cmp_isNaN_of_int p1).bind fun r1 =>
 if r0 = true then
  if r1 = true then
   some 0
  else
   some (-1)
 else
  if r1 = true then
   some 1
  else
   if (decide (p0 < p1)) = true then
    some (-1)
   else
    if (decide (p0 > p1)) = true then
     some 1
    else
     some 0
theorem s_cmp_Compare_of_int_ok {p0 : Int} {p1 : Int} {r : Int} (h : s_cmp_Compare_of_int p0 p1 = some r) : Ans env k_cmp_Compare_of_int [(.d true (.int .i64 p0)), (.d true (.int .i64 p1))] (.d true (.int .i64 r)) := by
 unfold s_cmp_Compare_of_int at h
 unfold Ans
 rw [AtF fn_cmp_Compare_of_int]
 simp only [n_cmp_Compare_of_int]
 replace h := bsome h; obtain ⟨r0, H0, h⟩ := h
 have k0 := AtCall_all (s_cmp_isNaN_of_int_ok H0); try dsimp only at k0
 replace h := bsome h; obtain ⟨r1, H1, h⟩ := h
 have k1 := AtCall_all (s_cmp_isNaN_of_int_ok H1); try dsimp only at k1
 replace h := itb h; rcases h with ⟨c0, h⟩ | ⟨c0, h⟩
 ·replace h := itb h; rcases h with ⟨c1, h⟩ | ⟨c1, h⟩
  ·cases h
   simp only [go_sem, *]
   exact ⟨_, rfl⟩
  ·cases h
   simp only [go_sem, *]
   exact ⟨_, rfl⟩
 ·replace h := itb h; rcases h with ⟨c2, h⟩ | ⟨c2, h⟩
  ·cases h
   simp only [go_sem, *]
   exact ⟨_, rfl⟩
  ·replace h := itb h; rcases h with ⟨c3, h⟩ | ⟨c3, h⟩
   ·cases h
    simp only [go_sem, *]
    exact ⟨_, rfl⟩
   ·replace h := itb h; rcases h with ⟨c4, h⟩ | ⟨c4, h⟩
    ·cases h
     simp only [go_sem, *]
     exact ⟨_, rfl⟩
    ·cases h
     simp only [go_sem, *]
     exact ⟨_, rfl⟩
def b_cmp_Or_of_int_L0 (p0 : (List Int)) (s0 : Int) : Option ((Int) ⊕ ((Unit) ⊕ (Int))) :=
 if (decide (s0 < (p0.length : Int))) = true then
  (idx p0 s0).bind fun x0 =>
  if (x0 != 0) = true then
   some (Sum.inr (Sum.inr x0))
  else
   some (Sum.inl (IntKind.wrap .i64 (s0 + 1)))
 else
  some (Sum.inr (Sum.inl ()))
def I_cmp_Or_of_int_L0 (p0 : (List Int)) (s0 : Int) (σ : St) : Prop := σ.get 3 = (.d true (.int .i64 0)) ∧ σ.get 6 = (.d false (.lst 1 (p0.map eI))) ∧ σ.get 7 = (.d true (.int .i64 (p0.length : Int))) ∧ σ.get 8 = (.d true (.int .i64 s0)) ∧ σ.up.length = 0
def J_cmp_Or_of_int_L0 (p0 : (List Int)) (r : (Unit) ⊕ (Int)) (e : Ex) (σ' : St) : Prop := (Sum.elim (fun o0 => e = (.exit 0) ∧ σ'.get 3 = (.d true (.int .i64 0)) ∧ σ'.up.length = 0) (fun o1 => e = .ret ∧ σ'.get 2 = (.d true (.int .i64 o1)) ∧ σ'.up.length = 0)) r
theorem L_cmp_Or_of_int_L0 (p0 : (List Int)) {s : Int} {r : (Unit) ⊕ (Int)} (h : Lp (b_cmp_Or_of_int_L0 p0) s = some r) {σ : St} {Q : Ex → St → Prop} (hI : I_cmp_Or_of_int_L0 p0 s σ) (hQ : ∀ e σ', J_cmp_Or_of_int_L0 p0 r e σ' → Q e σ') : WC env (.loop c_cmp_Or_of_int_l1) σ Q :=
 WC_Lp (I_cmp_Or_of_int_L0 p0) (J_cmp_Or_of_int_L0 p0) (by
  clear h hI hQ
  clear s r σ Q
  intro s0 σ x hI h
  obtain ⟨f0, f1, f2, f3, f4⟩ := hI
  unfold b_cmp_Or_of_int_L0 at h
  replace h := itb h; rcases h with ⟨c0, h⟩ | ⟨c0, h⟩
  ·replace h := bsome h; obtain ⟨x0, H0, h⟩ := h
   have n0 := idx_n H0; have q0 := idx_q H0; have y0 := idx_x H0
   replace h := itb h; rcases h with ⟨c1, h⟩ | ⟨c1, h⟩
   ·cases h
    simp only [go_sem, LQ_inr, J_cmp_Or_of_int_L0, c_cmp_Or_of_int_l1, *]
   ·cases h
    simp only [go_sem, LQ_inl, I_cmp_Or_of_int_L0, c_cmp_Or_of_int_l1, *]
  ·cases h
   simp only [go_sem, LQ_inr, J_cmp_Or_of_int_L0, c_cmp_Or_of_int_l1, *]
) h hI hQ
noncomputable def s_cmp_Or_of_int (p0 : (List Int)) : Option (Int) :=
 (Lp (b_cmp_Or_of_int_L0 p0) 0).bind fun x0 =>
 match x0 with
 | .inl x0' =>
  some 0
 | .inr x0' =>
  some x0'
theorem s_cmp_Or_of_int_ok {p0 : (List Int)} {r : Int} (h : s_cmp_Or_of_int p0 = some r) : Ans env k_cmp_Or_of_int [(.d false (.lst 1 (p0.map eI)))] (.d true (.int .i64 r)) := by
 unfold s_cmp_Or_of_int at h
 unfold Ans
 rw [AtF fn_cmp_Or_of_int]
 simp only [n_cmp_Or_of_int]
 replace h := bsome h; obtain ⟨x0, H0, h⟩ := h
 try simp only [go_sem, *]
 refine L_cmp_Or_of_int_L0 p0 H0 ?_ ?_
 ·clear h
  simp only [go_sem, I_cmp_Or_of_int_L0, *]
 ·intro e τ hJ
  rcases x0 with x0' | x0'
  ·obtain ⟨rfl, f0, f1⟩ := hJ
   cases h
   simp only [go_sem, *]
   exact ⟨_, rfl⟩
  ·obtain ⟨rfl, f2, f3⟩ := hJ
   cases h
   simp only [go_sem, *]
   exact ⟨_, rfl⟩
noncomputable def b_queue_Check_L0 (p0 : (List S_Wait)) (s0 : Int) : Option ((Int) ⊕ ((Unit) ⊕ (Unit))) :=
 if (decide (s0 < (p0.length : Int))) = true then
  (idx p0 s0).bind fun x0 =>
  (s_queue_may x0).bind fun r0 =>
  if r0 = true then
   some (Sum.inl (IntKind.wrap .i64 (s0 + 1)))
  else
   some (Sum.inr (Sum.inr ()))
 else
  some (Sum.inr (Sum.inl ()))
def I_queue_Check_L0 (p0 : (List S_Wait)) (s0 : Int) (σ : St) : Prop := σ.get 0 = (.d false (.lst 2 (p0.map eS_Wait))) ∧ σ.get 8 = (.d false (.lst 2 (p0.map eS_Wait))) ∧ σ.get 9 = (.d true (.int .i64 (p0.length : Int))) ∧ σ.get 10 = (.d true (.int .i64 s0)) ∧ σ.up.length = 0
def J_queue_Check_L0 (p0 : (List S_Wait)) (r : (Unit) ⊕ (Unit)) (e : Ex) (σ' : St) : Prop := (Sum.elim (fun o0 => e = (.exit 0) ∧ σ'.get 0 = (.d false (.lst 2 (p0.map eS_Wait))) ∧ σ'.up.length = 0) (fun o1 => e = .ret ∧ σ'.get 2 = (.d true (.int .i64 8)) ∧ σ'.up.length = 0)) r
theorem L_queue_Check_L0 (p0 : (List S_Wait)) {s : Int} {r : (Unit) ⊕ (Unit)} (h : Lp (b_queue_Check_L0 p0) s = some r) {σ : St} {Q : Ex → St → Prop} (hI : I_queue_Check_L0 p0 s σ) (hQ : ∀ e σ', J_queue_Check_L0 p0 r e σ' → Q e σ') : WC env (.loop c_queue_Check_l1) σ Q :=
 WC_Lp (I_queue_Check_L0 p0) (J_queue_Check_L0 p0) (by
  clear h hI hQ
  clear s r σ Q
  intro s0 σ x hI h
  obtain ⟨f0, f1, f2, f3, f4⟩ := hI
  unfold b_queue_Check_L0 at h
  replace h := itb h; rcases h with ⟨c1, h⟩ | ⟨c1, h⟩
  ·replace h := bsome h; obtain ⟨x0, H0, h⟩ := h
   have n0 := idx_n H0; have q0 := idx_q H0; have y0 := idx_x H0
   replace h := bsome h; obtain ⟨r0, H1, h⟩ := h
   have k0 := AtCall_all (s_queue_may_ok H1); try dsimp only at k0
   replace h := itb h; rcases h with ⟨c2, h⟩ | ⟨c2, h⟩
   ·cases h
    simp only [go_sem, LQ_inl, I_queue_Check_L0, c_queue_Check_l1, *]
   ·cases h
    simp only [go_sem, LQ_inr, J_queue_Check_L0, c_queue_Check_l1, *]
  ·cases h
   simp only [go_sem, LQ_inr, J_queue_Check_L0, c_queue_Check_l1, *]
) h hI hQ
noncomputable def b_queue_Check_L1 (p0 : (List S_Wait)) (s1 : Int) : Option ((Int) ⊕ ((Unit) ⊕ (Unit))) :=
 if (decide (s1 > 0)) = true then
  (idx p0 s1).bind fun x2 =>
  (idx p0 (IntKind.wrap .i64 (s1 - 1))).bind fun x3 =>
  (s_cmp_Compare_of_int x2.Frame x3.Frame).bind fun r0 =>
  (s_cmp_Compare_of_int x2.Number x3.Number).bind fun r1 =>
  (s_cmp_Or_of_int ([r0, r1] : List Int)).bind fun r2 =>
  if (decide (r2 < 0)) = true then
   some (Sum.inr (Sum.inr ()))
  else
   some (Sum.inl (IntKind.wrap .i64 (s1 - 1)))
 else
  some (Sum.inr (Sum.inl ()))
def I_queue_Check_L1 (p0 : (List S_Wait)) (s1 : Int) (σ : St) : Prop := σ.get 0 = (.d false (.lst 2 (p0.map eS_Wait))) ∧ σ.get 1 = (.cl k_queue_order []) ∧ σ.get 5 = (.d true (.int .i64 s1)) ∧ σ.up.length = 1
def J_queue_Check_L1 (p0 : (List S_Wait)) (r : (Unit) ⊕ (Unit)) (e : Ex) (σ' : St) : Prop := (Sum.elim (fun o0 => e = (.exit 0) ∧ σ'.up.length = 1) (fun o1 => e = .ret ∧ σ'.get 4 = (.d true (.bool false)) ∧ σ'.up.length = 1)) r
theorem L_queue_Check_L1 (p0 : (List S_Wait)) {s : Int} {r : (Unit) ⊕ (Unit)} (h : Lp (b_queue_Check_L1 p0) s = some r) {σ : St} {Q : Ex → St → Prop} (hI : I_queue_Check_L1 p0 s σ) (hQ : ∀ e σ', J_queue_Check_L1 p0 r e σ' → Q e σ') : WC env (.loop c_slices_IsSortedFunc_of_api_Wait_l1) σ Q :=
 WC_Lp (I_queue_Check_L1 p0) (J_queue_Check_L1 p0) (by
  clear h hI hQ
  clear s r σ Q
  intro s1 σ x hI h
  obtain ⟨f2, f3, f4, f5⟩ := hI
  unfold b_queue_Check_L1 at h
  replace h := itb h; rcases h with ⟨c1, h⟩ | ⟨c1, h⟩
  ·replace h := bsome h; obtain ⟨x2, H2, h⟩ := h
   have n0 := idx_n H2; have q0 := idx_q H2; have y0 := idx_x H2
   replace h := bsome h; obtain ⟨x3, H3, h⟩ := h
   have n1 := idx_n H3; have q1 := idx_q H3; have y1 := idx_x H3
   replace h := bsome h; obtain ⟨r0, H4, h⟩ := h
   have k0 := AtCall_all (s_cmp_Compare_of_int_ok H4); try dsimp only at k0
   replace h := bsome h; obtain ⟨r1, H5, h⟩ := h
   have k1 := AtCall_all (s_cmp_Compare_of_int_ok H5); try dsimp only at k1
   replace h := bsome h; obtain ⟨r2, H6, h⟩ := h
   have k2 := AtCall_all (s_cmp_Or_of_int_ok H6); try dsimp only at k2
   try simp only [List.map_cons, List.map_nil, List.map_append, List.map_set, List.nil_append, List.map_replicate, eI, eU8, eB, eL, eS_Wait] at k2
   replace h := itb h; rcases h with ⟨c2, h⟩ | ⟨c2, h⟩
   ·cases h
    simp (maxDischargeDepth := 6) only [go_sem, LQ_inr, J_queue_Check_L1, c_slices_IsSortedFunc_of_api_Wait_l1, c_queue_Check_p1, clF_small (f := k_queue_order) rfl, clA_small (f := k_queue_order) rfl, fnV_small (E := env) (f := k_queue_order) fn_queue_order rfl rfl, *]
   ·cases h
    simp (maxDischargeDepth := 6) only [go_sem, LQ_inl, I_queue_Check_L1, c_slices_IsSortedFunc_of_api_Wait_l1, c_queue_Check_p1, clF_small (f := k_queue_order) rfl, clA_small (f := k_queue_order) rfl, fnV_small (E := env) (f := k_queue_order) fn_queue_order rfl rfl, *]
  ·cases h
   simp only [go_sem, LQ_inr, J_queue_Check_L1, c_slices_IsSortedFunc_of_api_Wait_l1, c_queue_Check_p1, *]
) h hI hQ
noncomputable def s_queue_Check (p0 : (List S_Wait)) : Option (Int) :=
 if (decide ((p0.length : Int) > 1000)) = true then
  some 4
 else
  (Lp (b_queue_Check_L0 p0) 0).bind fun x0 =>
  match x0 with
  | .inl x0' =>
   ((Lp (b_queue_Check_L1 p0) (IntKind.wrap .i64 ((p0.length : Int) - 1))).bind fun x2 =>
    match x2 with
    | .inl x2' =>
     some false
    | .inr x2' =>
     some true).bind fun x1 =>
   if x1 = true then
    some 8
   else
    some 0
  | .inr x0' =>
   some 8
theorem s_queue_Check_ok {p0 : (List S_Wait)} {r : Int} (h : s_queue_Check p0 = some r) : Ans env k_queue_Check [(.d false (.lst 2 (p0.map eS_Wait)))] (.d true (.int .i64 r)) := by
 unfold s_queue_Check at h
 unfold Ans
 rw [AtF fn_queue_Check]
 simp only [n_queue_Check]
 replace h := itb h; rcases h with ⟨c0, h⟩ | ⟨c0, h⟩
 ·cases h
  simp only [go_sem, *]
  exact ⟨_, rfl⟩
 ·replace h := bsome h; obtain ⟨x0, H0, h⟩ := h
  try simp only [go_sem, *]
  refine L_queue_Check_L0 p0 H0 ?_ ?_
  ·clear h
   simp only [go_sem, I_queue_Check_L0, *]
  ·intro e τ hJ
   rcases x0 with x0' | x0'
   ·obtain ⟨rfl, f0, f1⟩ := hJ
    replace h := bsome h; obtain ⟨x1, H1, h⟩ := h
    try simp only [go_sem, *]
    refine WC.mono (Q := fun e σ' => e = .normal ∧ σ'.get 20 = (.d true (.bool x1)) ∧ σ'.up.length = 0) ?_ ?_
    ·replace h := H1
     clear H1
     replace h := bsome h; obtain ⟨x2, H2, h⟩ := h
     try simp only [go_sem, c_queue_Check_p1, *]
     refine L_queue_Check_L1 p0 H2 ?_ ?_
     ·clear h
      simp only [go_sem, I_queue_Check_L1, c_queue_Check_p1, *]
     ·intro e τ hJ
      rcases x2 with x2' | x2'
      ·obtain ⟨rfl, f2⟩ := hJ
       cases h
       simp only [go_sem, c_queue_Check_p1, *]
      ·obtain ⟨rfl, f3, f4⟩ := hJ
       cases h
       simp only [go_sem, c_queue_Check_p1, *]
    ·intro e τ hJ
     obtain ⟨rfl, f5, f6⟩ := hJ
     replace h := itb h; rcases h with ⟨c1, h⟩ | ⟨c1, h⟩
     ·cases h
      simp only [go_sem, *]
      exact ⟨_, rfl⟩
     ·cases h
      simp only [go_sem, *]
      exact ⟨_, rfl⟩
   ·obtain ⟨rfl, f7, f8⟩ := hJ
    cases h
    simp only [go_sem, *]
    exact ⟨_, rfl⟩
noncomputable def b_queue_Push_L0 (p0 : (List S_Wait)) (p1 : S_Wait) (s0 : Int) : Option ((Int) ⊕ (Int)) :=
 if (decide (s0 < (p0.length : Int))) = true then
  (idx p0 s0).bind fun x0 =>
  (s_cmp_Compare_of_int p1.Frame x0.Frame).bind fun r2 =>
  (s_cmp_Compare_of_int p1.Number x0.Number).bind fun r3 =>
  (s_cmp_Or_of_int ([r2, r3] : List Int)).bind fun r4 =>
  if (decide (r4 < 0)) = true then
   some (Sum.inr s0)
  else
   some (Sum.inl (IntKind.wrap .i64 (s0 + 1)))
 else
  some (Sum.inr (p0.length : Int))
def I_queue_Push_L0 (p0 : (List S_Wait)) (p1 : S_Wait) (s0 : Int) (σ : St) : Prop := σ.get 0 = (.d false (.lst 2 (p0.map eS_Wait))) ∧ σ.get 3 = (.ptr 0 0 0) ∧ σ.get 7 = (.d true (.int .i64 (p0.length : Int))) ∧ σ.get 23 = (.d false (.lst 2 (p0.map eS_Wait))) ∧ σ.get 24 = (.d true (.int .i64 (p0.length : Int))) ∧ σ.get 25 = (.d true (.int .i64 s0)) ∧ σ.obj 0 0 = oB0 p1 ∧ σ.obj 0 2 = none ∧ σ.obj 0 40 = none ∧ σ.obj 0 44 = none ∧ σ.up.length = 0
def J_queue_Push_L0 (p0 : (List S_Wait)) (p1 : S_Wait) (r : Int) (e : Ex) (σ' : St) : Prop := e = (.exit 0) ∧ σ'.get 0 = (.d false (.lst 2 (p0.map eS_Wait))) ∧ σ'.get 3 = (.ptr 0 0 0) ∧ σ'.get 7 = (.d true (.int .i64 r)) ∧ σ'.obj 0 0 = oB0 p1 ∧ σ'.obj 0 2 = none ∧ σ'.obj 0 40 = none ∧ σ'.obj 0 44 = none ∧ σ'.up.length = 0
theorem L_queue_Push_L0 (p0 : (List S_Wait)) (p1 : S_Wait) {s : Int} {r : Int} (h : Lp (b_queue_Push_L0 p0 p1) s = some r) {σ : St} {Q : Ex → St → Prop} (hI : I_queue_Push_L0 p0 p1 s σ) (hQ : ∀ e σ', J_queue_Push_L0 p0 p1 r e σ' → Q e σ') : WC env (.loop c_queue_Push_l1) σ Q :=
 WC_Lp (I_queue_Push_L0 p0 p1) (J_queue_Push_L0 p0 p1) (by
  clear h hI hQ
  clear s r σ Q
  intro s0 σ x hI h
  obtain ⟨f0, f1, f2, f3, f4, f5, f6, f7, f8, f9, f10⟩ := hI
  unfold b_queue_Push_L0 at h
  replace h := itb h; rcases h with ⟨c3, h⟩ | ⟨c3, h⟩
  ·replace h := bsome h; obtain ⟨x0, H2, h⟩ := h
   have n0 := idx_n H2; have q0 := idx_q H2; have y0 := idx_x H2
   replace h := bsome h; obtain ⟨r2, H3, h⟩ := h
   have k2 := AtCall_all (s_cmp_Compare_of_int_ok H3); try dsimp only at k2
   replace h := bsome h; obtain ⟨r3, H4, h⟩ := h
   have k3 := AtCall_all (s_cmp_Compare_of_int_ok H4); try dsimp only at k3
   replace h := bsome h; obtain ⟨r4, H5, h⟩ := h
   have k4 := AtCall_all (s_cmp_Or_of_int_ok H5); try dsimp only at k4
   try simp only [List.map_cons, List.map_nil, List.map_append, List.map_set, List.nil_append, List.map_replicate, eI, eU8, eB, eL, eS_Wait] at k4
   replace h := itb h; rcases h with ⟨c4, h⟩ | ⟨c4, h⟩
   ·cases h
    simp only [go_sem, LQ_inr, J_queue_Push_L0, c_queue_Push_l1, *]
   ·cases h
    simp only [go_sem, LQ_inl, I_queue_Push_L0, c_queue_Push_l1, *]
  ·cases h
   simp only [go_sem, LQ_inr, J_queue_Push_L0, c_queue_Push_l1, *]
) h hI hQ
noncomputable def s_queue_Push (p0 : (List S_Wait)) (p1 : S_Wait) : Option ((List S_Wait) × Int) :=
 (s_queue_Check p0).bind fun r0 =>
 if (r0 != 0) = true then
  some (([] : List S_Wait), r0)
 else
  (s_queue_may p1).bind fun r1 =>
  if r1 = true then
   if ((p0.length : Int) == 1000) = true then
    some (([] : List S_Wait), 4)
   else
    (Lp (b_queue_Push_L0 p0 p1) 0).bind fun x0 =>
    if p0.length ≤ big then
     if (0 ≤ x0 ∧ x0 ≤ (p0.length : Int)) ∧ p0.length < big then
      some ((insA p0 x0 p1), 0)
     else none
    else none
  else
   some (([] : List S_Wait), 2)
theorem s_queue_Push_ok {p0 : (List S_Wait)} {p1 : S_Wait} {r : (List S_Wait) × Int} (h : s_queue_Push p0 p1 = some r) : Ans env k_queue_Push [(.d false (.lst 2 (p0.map eS_Wait))), (.ag [(.d true (.int .i64 p1.Frame)), (.d true (.int .i64 p1.Number))])] (.tp [(.d true (.lst 2 (r.1.map eS_Wait))), (.d true (.int .i64 r.2))]) := by
 unfold s_queue_Push at h
 unfold Ans
 rw [AtF fn_queue_Push]
 simp only [n_queue_Push]
 replace h := bsome h; obtain ⟨r0, H0, h⟩ := h
 have k0 := AtCall_all (s_queue_Check_ok H0); try dsimp only at k0
 replace h := itb h; rcases h with ⟨c0, h⟩ | ⟨c0, h⟩
 ·cases h
  simp only [go_sem, *]
  exact ⟨_, rfl⟩
 ·replace h := bsome h; obtain ⟨r1, H1, h⟩ := h
  have k1 := AtCall_all (s_queue_may_ok H1); try dsimp only at k1
  replace h := itb h; rcases h with ⟨c1, h⟩ | ⟨c1, h⟩
  ·replace h := itb h; rcases h with ⟨c2, h⟩ | ⟨c2, h⟩
   ·cases h
    simp only [go_sem, *]
    exact ⟨_, rfl⟩
   ·replace h := bsome h; obtain ⟨x0, H2, h⟩ := h
    try simp only [go_sem, *]
    refine L_queue_Push_L0 p0 p1 H2 ?_ ?_
    ·clear h
     simp only [go_sem, I_queue_Push_L0, *]
    ·intro e τ hJ
     obtain ⟨rfl, f0, f1, f2, f3, f4, f5, f6, f7⟩ := hJ
     replace h := need h; obtain ⟨H3, h⟩ := h
     replace h := need h; obtain ⟨H4, h⟩ := h
     cases h
     simp only [go_sem, WC_rgx, KRgx_eq, KX_eq, KOrd_nil, KOrd_cons, pick_nil, pick_cons, SEqT_nf, nf_set, nf_setObj, ins_swap, ins_same, ins_insO, insO_swap, insO_same, *]
     exact ⟨_, rfl⟩
  ·cases h
   simp only [go_sem, *]
   exact ⟨_, rfl⟩
def s_ref38_May (p0 : S_Wait) : Option (Bool) :=
 (if (decide (p0.Frame ≥ 0)) = true then
   if (decide (p0.Frame ≤ 60)) = true then
    if (decide (p0.Number ≥ 0)) = true then
     some (decide (p0.Number < 1000))
    else
     some false
   else
    some false
  else
   some false).bind fun x0 =>
 some x0
theorem s_ref38_May_ok {p0 : S_Wait} {r : Bool} (h : s_ref38_May p0 = some r) : Ans env k_ref38_May [(.ag [(.d true (.int .i64 p0.Frame)), (.d true (.int .i64 p0.Number))])] (.d true (.bool r)) := by
 unfold s_ref38_May at h
 unfold Ans
 rw [AtF fn_ref38_May]
 simp only [n_ref38_May]
 replace h := bsome h; obtain ⟨x0, H0, h⟩ := h
 try simp only [go_sem, *]
 refine WC.mono (Q := fun e σ' => e = .normal ∧ σ'.get 2 = (.d true (.bool x0)) ∧ σ'.up.length = 0) ?_ ?_
 ·replace h := H0
  clear H0
  replace h := itb h; rcases h with ⟨c0, h⟩ | ⟨c0, h⟩
  ·replace h := itb h; rcases h with ⟨c1, h⟩ | ⟨c1, h⟩
   ·replace h := itb h; rcases h with ⟨c2, h⟩ | ⟨c2, h⟩
    ·cases h
     simp only [go_sem, c_ref38_May_p1, *]
    ·cases h
     simp only [go_sem, c_ref38_May_p1, *]
   ·cases h
    simp only [go_sem, c_ref38_May_p1, *]
  ·cases h
   simp only [go_sem, c_ref38_May_p1, *]
 ·intro e τ hJ
  obtain ⟨rfl, f0, f1⟩ := hJ
  cases h
  simp only [go_sem, *]
  exact ⟨_, rfl⟩
def s_ref38_Less (p0 : S_Wait) (p1 : S_Wait) : Option (Bool) :=
 (if (decide (p0.Frame < p1.Frame)) = true then
   some true
  else
   if (p0.Frame == p1.Frame) = true then
    some (decide (p0.Number < p1.Number))
   else
    some false).bind fun x0 =>
 some x0
theorem s_ref38_Less_ok {p0 : S_Wait} {p1 : S_Wait} {r : Bool} (h : s_ref38_Less p0 p1 = some r) : Ans env k_ref38_Less [(.ag [(.d true (.int .i64 p0.Frame)), (.d true (.int .i64 p0.Number))]), (.ag [(.d true (.int .i64 p1.Frame)), (.d true (.int .i64 p1.Number))])] (.d true (.bool r)) := by
 unfold s_ref38_Less at h
 unfold Ans
 rw [AtF fn_ref38_Less]
 simp only [n_ref38_Less]
 replace h := bsome h; obtain ⟨x0, H0, h⟩ := h
 try simp only [go_sem, *]
 refine WC.mono (Q := fun e σ' => e = .normal ∧ σ'.get 4 = (.d true (.bool x0)) ∧ σ'.up.length = 0) ?_ ?_
 ·replace h := H0
  clear H0
  replace h := itb h; rcases h with ⟨c0, h⟩ | ⟨c0, h⟩
  ·cases h
   simp only [go_sem, c_ref38_Less_p1, *]
  ·replace h := itb h; rcases h with ⟨c1, h⟩ | ⟨c1, h⟩
   ·cases h
    simp only [go_sem, c_ref38_Less_p1, *]
   ·cases h
    simp only [go_sem, c_ref38_Less_p1, *]
 ·intro e τ hJ
  obtain ⟨rfl, f0, f1⟩ := hJ
  cases h
  simp only [go_sem, *]
  exact ⟨_, rfl⟩
noncomputable def b_ref38_Check_L0 (p0 : (List S_Wait)) (s0 : Int) : Option ((Int) ⊕ ((Unit) ⊕ (Unit))) :=
 if (decide (s0 < (p0.length : Int))) = true then
  ((idx p0 s0).bind fun x1 =>
   (s_ref38_May x1).bind fun r0 =>
   if r0 = true then
    if (decide (s0 > 0)) = true then
     (idx p0 (IntKind.wrap .i64 (s0 - 1))).bind fun x2 =>
     (s_ref38_Less x1 x2).bind fun r1 =>
     some r1
    else
     some false
   else
    some true).bind fun x0 =>
  if x0 = true then
   some (Sum.inr (Sum.inr ()))
  else
   some (Sum.inl (IntKind.wrap .i64 (s0 + 1)))
 else
  some (Sum.inr (Sum.inl ()))
def I_ref38_Check_L0 (p0 : (List S_Wait)) (s0 : Int) (σ : St) : Prop := σ.get 0 = (.d false (.lst 2 (p0.map eS_Wait))) ∧ σ.get 3 = (.d true (.int .i64 s0)) ∧ σ.up.length = 0
def J_ref38_Check_L0 (p0 : (List S_Wait)) (r : (Unit) ⊕ (Unit)) (e : Ex) (σ' : St) : Prop := (Sum.elim (fun o0 => e = (.exit 0) ∧ σ'.up.length = 0) (fun o1 => e = .ret ∧ σ'.get 2 = (.d true (.int .i64 8)) ∧ σ'.up.length = 0)) r
theorem L_ref38_Check_L0 (p0 : (List S_Wait)) {s : Int} {r : (Unit) ⊕ (Unit)} (h : Lp (b_ref38_Check_L0 p0) s = some r) {σ : St} {Q : Ex → St → Prop} (hI : I_ref38_Check_L0 p0 s σ) (hQ : ∀ e σ', J_ref38_Check_L0 p0 r e σ' → Q e σ') : WC env (.loop c_ref38_Check_l1) σ Q :=
 WC_Lp (I_ref38_Check_L0 p0) (J_ref38_Check_L0 p0) (by
  clear h hI hQ
  clear s r σ Q
  intro s0 σ x hI h
  obtain ⟨f0, f1, f2⟩ := hI
  unfold b_ref38_Check_L0 at h
  replace h := itb h; rcases h with ⟨c1, h⟩ | ⟨c1, h⟩
  ·replace h := bsome h; obtain ⟨x0, H0, h⟩ := h
   try simp only [go_sem, c_ref38_Check_l1, *]
   refine WC.mono (Q := fun e σ' => e = .normal ∧ σ'.get 0 = (.d false (.lst 2 (p0.map eS_Wait))) ∧ σ'.get 3 = (.d true (.int .i64 s0)) ∧ σ'.get 34 = (.d true (.bool x0)) ∧ σ'.up.length = 0) ?_ ?_
   ·replace h := H0
    clear H0
    replace h := bsome h; obtain ⟨x1, H1, h⟩ := h
    have n0 := idx_n H1; have q0 := idx_q H1; have y0 := idx_x H1
    replace h := bsome h; obtain ⟨r0, H2, h⟩ := h
    have k0 := AtCall_all (s_ref38_May_ok H2); try dsimp only at k0
    replace h := itb h; rcases h with ⟨c2, h⟩ | ⟨c2, h⟩
    ·replace h := itb h; rcases h with ⟨c3, h⟩ | ⟨c3, h⟩
     ·replace h := bsome h; obtain ⟨x2, H3, h⟩ := h
      have n1 := idx_n H3; have q1 := idx_q H3; have y1 := idx_x H3
      replace h := bsome h; obtain ⟨r1, H4, h⟩ := h
      have k1 := AtCall_all (s_ref38_Less_ok H4); try dsimp only at k1
      cases h
      simp only [go_sem, c_ref38_Check_l1, c_ref38_Check_p1, *]
     ·cases h
      simp only [go_sem, c_ref38_Check_l1, c_ref38_Check_p1, *]
    ·cases h
     simp only [go_sem, c_ref38_Check_l1, c_ref38_Check_p1, *]
   ·intro e τ hJ
    obtain ⟨rfl, f3, f4, f5, f6⟩ := hJ
    replace h := itb h; rcases h with ⟨c4, h⟩ | ⟨c4, h⟩
    ·cases h
     simp only [go_sem, LQ_inr, J_ref38_Check_L0, c_ref38_Check_l1, *]
    ·cases h
     simp only [go_sem, LQ_inl, I_ref38_Check_L0, c_ref38_Check_l1, *]
  ·cases h
   simp only [go_sem, LQ_inr, J_ref38_Check_L0, c_ref38_Check_l1, *]
) h hI hQ
noncomputable def s_ref38_Check (p0 : (List S_Wait)) : Option (Int) :=
 if (decide ((p0.length : Int) > 1000)) = true then
  some 4
 else
  (Lp (b_ref38_Check_L0 p0) 0).bind fun x0 =>
  match x0 with
  | .inl x0' =>
   some 0
  | .inr x0' =>
   some 8
theorem s_ref38_Check_ok {p0 : (List S_Wait)} {r : Int} (h : s_ref38_Check p0 = some r) : Ans env k_ref38_Check [(.d false (.lst 2 (p0.map eS_Wait)))] (.d true (.int .i64 r)) := by
 unfold s_ref38_Check at h
 unfold Ans
 rw [AtF fn_ref38_Check]
 simp only [n_ref38_Check]
 replace h := itb h; rcases h with ⟨c0, h⟩ | ⟨c0, h⟩
 ·cases h
  simp only [go_sem, *]
  exact ⟨_, rfl⟩
 ·replace h := bsome h; obtain ⟨x0, H0, h⟩ := h
  try simp only [go_sem, *]
  refine L_ref38_Check_L0 p0 H0 ?_ ?_
  ·clear h
   simp only [go_sem, I_ref38_Check_L0, *]
  ·intro e τ hJ
   rcases x0 with x0' | x0'
   ·obtain ⟨rfl, f0⟩ := hJ
    cases h
    simp only [go_sem, *]
    exact ⟨_, rfl⟩
   ·obtain ⟨rfl, f1, f2⟩ := hJ
    cases h
    simp only [go_sem, *]
    exact ⟨_, rfl⟩
noncomputable def b_ref38_With_L0 (p0 : (List S_Wait)) (p1 : S_Wait) (s0 : Int) : Option ((Int) ⊕ (Int)) :=
 (if (decide (s0 < (p0.length : Int))) = true then
   (idx p0 s0).bind fun x1 =>
   (s_ref38_Less p1 x1).bind fun r0 =>
   some (!r0)
  else
   some false).bind fun x0 =>
 if x0 = true then
  some (Sum.inl (IntKind.wrap .i64 (s0 + 1)))
 else
  some (Sum.inr s0)
def I_ref38_With_L0 (p0 : (List S_Wait)) (p1 : S_Wait) (s0 : Int) (σ : St) : Prop := σ.get 0 = (.d false (.lst 2 (p0.map eS_Wait))) ∧ σ.get 3 = (.ptr 0 0 0) ∧ σ.get 5 = (.d true (.int .i64 s0)) ∧ σ.obj 0 0 = oB0 p1 ∧ σ.obj 0 1 = none ∧ σ.obj 0 2 = none ∧ σ.obj 0 3 = none ∧ σ.obj 0 4 = none ∧ σ.obj 0 5 = none ∧ σ.up.length = 0
def J_ref38_With_L0 (p0 : (List S_Wait)) (p1 : S_Wait) (r : Int) (e : Ex) (σ' : St) : Prop := e = (.exit 0) ∧ σ'.get 0 = (.d false (.lst 2 (p0.map eS_Wait))) ∧ σ'.get 3 = (.ptr 0 0 0) ∧ σ'.get 5 = (.d true (.int .i64 r)) ∧ σ'.obj 0 0 = oB0 p1 ∧ σ'.obj 0 1 = none ∧ σ'.obj 0 2 = none ∧ σ'.obj 0 3 = none ∧ σ'.obj 0 4 = none ∧ σ'.obj 0 5 = none ∧ σ'.up.length = 0
theorem L_ref38_With_L0 (p0 : (List S_Wait)) (p1 : S_Wait) {s : Int} {r : Int} (h : Lp (b_ref38_With_L0 p0 p1) s = some r) {σ : St} {Q : Ex → St → Prop} (hI : I_ref38_With_L0 p0 p1 s σ) (hQ : ∀ e σ', J_ref38_With_L0 p0 p1 r e σ' → Q e σ') : WC env (.loop c_ref38_With_l1) σ Q :=
 WC_Lp (I_ref38_With_L0 p0 p1) (J_ref38_With_L0 p0 p1) (by
  clear h hI hQ
  clear s r σ Q
  intro s0 σ x hI h
  obtain ⟨f0, f1, f2, f3, f4, f5, f6, f7, f8, f9⟩ := hI
  unfold b_ref38_With_L0 at h
  replace h := bsome h; obtain ⟨x0, H0, h⟩ := h
  try simp only [go_sem, c_ref38_With_l1, *]
  refine WC.mono (Q := fun e σ' => e = .normal ∧ σ'.get 0 = (.d false (.lst 2 (p0.map eS_Wait))) ∧ σ'.get 3 = (.ptr 0 0 0) ∧ σ'.get 5 = (.d true (.int .i64 s0)) ∧ σ'.get 18 = (.d true (.bool x0)) ∧ σ'.obj 0 0 = oB0 p1 ∧ σ'.obj 0 1 = none ∧ σ'.obj 0 2 = none ∧ σ'.obj 0 3 = none ∧ σ'.obj 0 4 = none ∧ σ'.obj 0 5 = none ∧ σ'.up.length = 0) ?_ ?_
  ·replace h := H0
   clear H0
   replace h := itb h; rcases h with ⟨c0, h⟩ | ⟨c0, h⟩
   ·replace h := bsome h; obtain ⟨x1, H1, h⟩ := h
    have n0 := idx_n H1; have q0 := idx_q H1; have y0 := idx_x H1
    replace h := bsome h; obtain ⟨r0, H2, h⟩ := h
    have k0 := AtCall_all (s_ref38_Less_ok H2); try dsimp only at k0
    cases h
    simp only [go_sem, c_ref38_With_l1, c_ref38_With_p1, *]
   ·cases h
    simp only [go_sem, c_ref38_With_l1, c_ref38_With_p1, *]
  ·intro e τ hJ
   obtain ⟨rfl, f10, f11, f12, f13, f14, f15, f16, f17, f18, f19, f20⟩ := hJ
   replace h := itb h; rcases h with ⟨c1, h⟩ | ⟨c1, h⟩
   ·cases h
    simp only [go_sem, LQ_inl, I_ref38_With_L0, c_ref38_With_l1, *]
   ·cases h
    simp only [go_sem, LQ_inr, J_ref38_With_L0, c_ref38_With_l1, *]
) h hI hQ
noncomputable def s_ref38_With (p0 : (List S_Wait)) (p1 : S_Wait) : Option ((List S_Wait)) :=
 (Lp (b_ref38_With_L0 p0 p1) 0).bind fun x0 =>
 if inC p0.length 0 x0 then
  if ([] : List S_Wait).length + (slice 0 (Int.toNat x0) p0).length ≤ big then
   if ([] ++ (slice 0 (Int.toNat x0) p0)).length + 1 ≤ big then
    if inC p0.length x0 (p0.length : Int) then
     if (([] ++ (slice 0 (Int.toNat x0) p0)) ++ ([p1] : List S_Wait)).length + (slice (Int.toNat x0) (p0.length - (Int.toNat x0)) p0).length ≤ big then
      some ((([] ++ (slice 0 (Int.toNat x0) p0)) ++ ([p1] : List S_Wait)) ++ (slice (Int.toNat x0) (p0.length - (Int.toNat x0)) p0))
     else none
    else none
   else none
  else none
 else none
theorem s_ref38_With_ok {p0 : (List S_Wait)} {p1 : S_Wait} {r : (List S_Wait)} (h : s_ref38_With p0 p1 = some r) : Ans env k_ref38_With [(.d false (.lst 2 (p0.map eS_Wait))), (.ag [(.d true (.int .i64 p1.Frame)), (.d true (.int .i64 p1.Number))])] (.d true (.lst 2 (r.map eS_Wait))) := by
 unfold s_ref38_With at h
 unfold Ans
 rw [AtF fn_ref38_With]
 simp only [n_ref38_With]
 replace h := bsome h; obtain ⟨x0, H0, h⟩ := h
 try simp only [go_sem, *]
 refine L_ref38_With_L0 p0 p1 H0 ?_ ?_
 ·clear h
  simp only [go_sem, I_ref38_With_L0, *]
 ·intro e τ hJ
  obtain ⟨rfl, f0, f1, f2, f3, f4, f5, f6, f7, f8, f9⟩ := hJ
  replace h := need h; obtain ⟨H1, h⟩ := h
  have zH1 := (cut_hi H1)
  replace h := need h; obtain ⟨H2, h⟩ := h
  try simp only [List.length_cons, List.length_nil, cpl_length, List.length_append, List.length_set, List.length_replicate, Nat.zero_add, Nat.reduceAdd] at H2
  replace h := need h; obtain ⟨H3, h⟩ := h
  try simp only [List.length_cons, List.length_nil, cpl_length, List.length_append, List.length_set, List.length_replicate, Nat.zero_add, Nat.reduceAdd] at H3
  replace h := need h; obtain ⟨H4, h⟩ := h
  have zH4 := (cut_lo H4)
  replace h := need h; obtain ⟨H5, h⟩ := h
  try simp only [List.length_cons, List.length_nil, cpl_length, List.length_append, List.length_set, List.length_replicate, Nat.zero_add, Nat.reduceAdd] at H5
  cases h
  simp only [go_sem, *]
  exact ⟨_, rfl⟩
noncomputable def s_ref38_Push (p0 : (List S_Wait)) (p1 : S_Wait) : Option ((List S_Wait) × Int) :=
 (s_ref38_Check p0).bind fun r0 =>
 if (r0 != 0) = true then
  some (([] : List S_Wait), r0)
 else
  (s_ref38_May p1).bind fun r1 =>
  if r1 = true then
   if ((p0.length : Int) == 1000) = true then
    some (([] : List S_Wait), 4)
   else
    (s_ref38_With p0 p1).bind fun r2 =>
    some (r2, 0)
  else
   some (([] : List S_Wait), 2)
theorem s_ref38_Push_ok {p0 : (List S_Wait)} {p1 : S_Wait} {r : (List S_Wait) × Int} (h : s_ref38_Push p0 p1 = some r) : Ans env k_ref38_Push [(.d false (.lst 2 (p0.map eS_Wait))), (.ag [(.d true (.int .i64 p1.Frame)), (.d true (.int .i64 p1.Number))])] (.tp [(.d true (.lst 2 (r.1.map eS_Wait))), (.d true (.int .i64 r.2))]) := by
 unfold s_ref38_Push at h
 unfold Ans
 rw [AtF fn_ref38_Push]
 simp only [n_ref38_Push]
 replace h := bsome h; obtain ⟨r0, H0, h⟩ := h
 have k0 := AtCall_all (s_ref38_Check_ok H0); try dsimp only at k0
 replace h := itb h; rcases h with ⟨c0, h⟩ | ⟨c0, h⟩
 ·cases h
  simp only [go_sem, *]
  exact ⟨_, rfl⟩
 ·replace h := bsome h; obtain ⟨r1, H1, h⟩ := h
  have k1 := AtCall_all (s_ref38_May_ok H1); try dsimp only at k1
  replace h := itb h; rcases h with ⟨c1, h⟩ | ⟨c1, h⟩
  ·replace h := itb h; rcases h with ⟨c2, h⟩ | ⟨c2, h⟩
   ·cases h
    simp only [go_sem, *]
    exact ⟨_, rfl⟩
   ·replace h := bsome h; obtain ⟨r2, H2, h⟩ := h
    have k2 := AtCall_all (s_ref38_With_ok H2); try dsimp only at k2
    cases h
    simp only [go_sem, *]
    exact ⟨_, rfl⟩
  ·cases h
   simp only [go_sem, *]
   exact ⟨_, rfl⟩
noncomputable def s_queue_Pop (p0 : (List S_Wait)) : Option (S_Wait × (List S_Wait) × Int) :=
 (s_queue_Check p0).bind fun r0 =>
 if (r0 != 0) = true then
  some ((S_Wait.mk 0 0), ([] : List S_Wait), r0)
 else
  if ((p0.length : Int) == 0) = true then
   some ((S_Wait.mk 0 0), ([] : List S_Wait), 6)
  else
   (idx p0 0).bind fun x0 =>
   if inC p0.length 1 (p0.length : Int) then
    if (slice (Int.toNat 1) (p0.length - (Int.toNat 1)) p0).length ≤ big then
     some (x0, (slice (Int.toNat 1) (p0.length - (Int.toNat 1)) p0), 0)
    else none
   else none
theorem s_queue_Pop_ok {p0 : (List S_Wait)} {r : S_Wait × (List S_Wait) × Int} (h : s_queue_Pop p0 = some r) : Ans env k_queue_Pop [(.d false (.lst 2 (p0.map eS_Wait)))] (.tp [(.ag [(.d true (.int .i64 r.1.Frame)), (.d true (.int .i64 r.1.Number))]), (.d true (.lst 2 (r.2.1.map eS_Wait))), (.d true (.int .i64 r.2.2))]) := by
 unfold s_queue_Pop at h
 unfold Ans
 rw [AtF fn_queue_Pop]
 simp only [n_queue_Pop]
 replace h := bsome h; obtain ⟨r0, H0, h⟩ := h
 have k0 := AtCall_all (s_queue_Check_ok H0); try dsimp only at k0
 replace h := itb h; rcases h with ⟨c0, h⟩ | ⟨c0, h⟩
 ·cases h
  simp only [go_sem, *]
  exact ⟨_, rfl⟩
 ·replace h := itb h; rcases h with ⟨c1, h⟩ | ⟨c1, h⟩
  ·cases h
   simp only [go_sem, *]
   exact ⟨_, rfl⟩
  ·replace h := bsome h; obtain ⟨x0, H1, h⟩ := h
   have n0 := idx_n H1; have q0 := idx_q H1; have y0 := idx_x H1
   simp only [Int.toNat_zero] at n0 q0 y0
   replace h := need h; obtain ⟨H2, h⟩ := h
   have zH2 := (cut_lo H2)
   replace h := need h; obtain ⟨H3, h⟩ := h
   cases h
   simp only [go_sem, WC_rgx, KRgx_eq, KX_eq, KOrd_nil, KOrd_cons, pick_nil, pick_cons, SEqT_nf, nf_set, nf_setObj, ins_swap, ins_same, ins_insO, insO_swap, insO_same, *]
   exact ⟨_, rfl⟩
noncomputable def s_ref38_Pop (p0 : (List S_Wait)) : Option (S_Wait × (List S_Wait) × Int) :=
 (s_ref38_Check p0).bind fun r0 =>
 if (r0 != 0) = true then
  some ((S_Wait.mk 0 0), ([] : List S_Wait), r0)
 else
  if ((p0.length : Int) == 0) = true then
   some ((S_Wait.mk 0 0), ([] : List S_Wait), 6)
  else
   (idx p0 0).bind fun x0 =>
   if inC p0.length 1 (p0.length : Int) then
    if ([] : List S_Wait).length + (slice (Int.toNat 1) (p0.length - (Int.toNat 1)) p0).length ≤ big then
     some (x0, ([] ++ (slice (Int.toNat 1) (p0.length - (Int.toNat 1)) p0)), 0)
    else none
   else none
theorem s_ref38_Pop_ok {p0 : (List S_Wait)} {r : S_Wait × (List S_Wait) × Int} (h : s_ref38_Pop p0 = some r) : Ans env k_ref38_Pop [(.d false (.lst 2 (p0.map eS_Wait)))] (.tp [(.ag [(.d true (.int .i64 r.1.Frame)), (.d true (.int .i64 r.1.Number))]), (.d true (.lst 2 (r.2.1.map eS_Wait))), (.d true (.int .i64 r.2.2))]) := by
 unfold s_ref38_Pop at h
 unfold Ans
 rw [AtF fn_ref38_Pop]
 simp only [n_ref38_Pop]
 replace h := bsome h; obtain ⟨r0, H0, h⟩ := h
 have k0 := AtCall_all (s_ref38_Check_ok H0); try dsimp only at k0
 replace h := itb h; rcases h with ⟨c0, h⟩ | ⟨c0, h⟩
 ·cases h
  simp only [go_sem, *]
  exact ⟨_, rfl⟩
 ·replace h := itb h; rcases h with ⟨c1, h⟩ | ⟨c1, h⟩
  ·cases h
   simp only [go_sem, *]
   exact ⟨_, rfl⟩
  ·replace h := bsome h; obtain ⟨x0, H1, h⟩ := h
   have n0 := idx_n H1; have q0 := idx_q H1; have y0 := idx_x H1
   simp only [Int.toNat_zero] at n0 q0 y0
   replace h := need h; obtain ⟨H2, h⟩ := h
   have zH2 := (cut_lo H2)
   replace h := need h; obtain ⟨H3, h⟩ := h
   try simp only [List.length_cons, List.length_nil, cpl_length, List.length_append, List.length_set, List.length_replicate, Nat.zero_add, Nat.reduceAdd] at H3
   cases h
   simp only [go_sem, *]
   exact ⟨_, rfl⟩
def b_ref38_Same_L0 (p0 : (List S_Wait)) (p1 : (List S_Wait)) (s0 : Int) : Option ((Int) ⊕ ((Unit) ⊕ (Unit))) :=
 if (decide (s0 < (p0.length : Int))) = true then
  ((idx p0 s0).bind fun x1 =>
   (idx p1 s0).bind fun x2 =>
   if (x1.Frame == x2.Frame) = true then
    if (x1.Number == x2.Number) = true then
     some false
    else
     some true
   else
    some true).bind fun x0 =>
  if x0 = true then
   some (Sum.inr (Sum.inr ()))
  else
   some (Sum.inl (IntKind.wrap .i64 (s0 + 1)))
 else
  some (Sum.inr (Sum.inl ()))
def I_ref38_Same_L0 (p0 : (List S_Wait)) (p1 : (List S_Wait)) (s0 : Int) (σ : St) : Prop := σ.get 0 = (.d false (.lst 2 (p0.map eS_Wait))) ∧ σ.get 1 = (.d false (.lst 2 (p1.map eS_Wait))) ∧ σ.get 5 = (.d true (.int .i64 s0)) ∧ σ.up.length = 0
def J_ref38_Same_L0 (p0 : (List S_Wait)) (p1 : (List S_Wait)) (r : (Unit) ⊕ (Unit)) (e : Ex) (σ' : St) : Prop := (Sum.elim (fun o0 => e = (.exit 0) ∧ σ'.up.length = 0) (fun o1 => e = .ret ∧ σ'.get 4 = (.d true (.bool false)) ∧ σ'.up.length = 0)) r
theorem L_ref38_Same_L0 (p0 : (List S_Wait)) (p1 : (List S_Wait)) {s : Int} {r : (Unit) ⊕ (Unit)} (h : Lp (b_ref38_Same_L0 p0 p1) s = some r) {σ : St} {Q : Ex → St → Prop} (hI : I_ref38_Same_L0 p0 p1 s σ) (hQ : ∀ e σ', J_ref38_Same_L0 p0 p1 r e σ' → Q e σ') : WC env (.loop c_ref38_Same_l1) σ Q :=
 WC_Lp (I_ref38_Same_L0 p0 p1) (J_ref38_Same_L0 p0 p1) (by
  clear h hI hQ
  clear s r σ Q
  intro s0 σ x hI h
  obtain ⟨f0, f1, f2, f3⟩ := hI
  unfold b_ref38_Same_L0 at h
  replace h := itb h; rcases h with ⟨c1, h⟩ | ⟨c1, h⟩
  ·replace h := bsome h; obtain ⟨x0, H0, h⟩ := h
   try simp only [go_sem, c_ref38_Same_l1, *]
   refine WC.mono (Q := fun e σ' => e = .normal ∧ σ'.get 0 = (.d false (.lst 2 (p0.map eS_Wait))) ∧ σ'.get 1 = (.d false (.lst 2 (p1.map eS_Wait))) ∧ σ'.get 5 = (.d true (.int .i64 s0)) ∧ σ'.get 25 = (.d true (.bool x0)) ∧ σ'.up.length = 0) ?_ ?_
   ·replace h := H0
    clear H0
    replace h := bsome h; obtain ⟨x1, H1, h⟩ := h
    have n0 := idx_n H1; have q0 := idx_q H1; have y0 := idx_x H1
    replace h := bsome h; obtain ⟨x2, H2, h⟩ := h
    have n1 := idx_n H2; have q1 := idx_q H2; have y1 := idx_x H2
    replace h := itb h; rcases h with ⟨c2, h⟩ | ⟨c2, h⟩
    ·replace h := itb h; rcases h with ⟨c3, h⟩ | ⟨c3, h⟩
     ·cases h
      simp only [go_sem, c_ref38_Same_l1, c_ref38_Same_p1, *]
     ·cases h
      simp only [go_sem, c_ref38_Same_l1, c_ref38_Same_p1, *]
    ·cases h
     simp only [go_sem, c_ref38_Same_l1, c_ref38_Same_p1, *]
   ·intro e τ hJ
    obtain ⟨rfl, f4, f5, f6, f7, f8⟩ := hJ
    replace h := itb h; rcases h with ⟨c4, h⟩ | ⟨c4, h⟩
    ·cases h
     simp only [go_sem, LQ_inr, J_ref38_Same_L0, c_ref38_Same_l1, *]
    ·cases h
     simp only [go_sem, LQ_inl, I_ref38_Same_L0, c_ref38_Same_l1, *]
  ·cases h
   simp only [go_sem, LQ_inr, J_ref38_Same_L0, c_ref38_Same_l1, *]
) h hI hQ
noncomputable def s_ref38_Same (p0 : (List S_Wait)) (p1 : (List S_Wait)) : Option (Bool) :=
 if ((p0.length : Int) != (p1.length : Int)) = true then
  some false
 else
  (Lp (b_ref38_Same_L0 p0 p1) 0).bind fun x0 =>
  match x0 with
  | .inl x0' =>
   some true
  | .inr x0' =>
   some false
theorem s_ref38_Same_ok {p0 : (List S_Wait)} {p1 : (List S_Wait)} {r : Bool} (h : s_ref38_Same p0 p1 = some r) : Ans env k_ref38_Same [(.d false (.lst 2 (p0.map eS_Wait))), (.d false (.lst 2 (p1.map eS_Wait)))] (.d true (.bool r)) := by
 unfold s_ref38_Same at h
 unfold Ans
 rw [AtF fn_ref38_Same]
 simp only [n_ref38_Same]
 replace h := itb h; rcases h with ⟨c0, h⟩ | ⟨c0, h⟩
 ·cases h
  simp only [go_sem, *]
  exact ⟨_, rfl⟩
 ·replace h := bsome h; obtain ⟨x0, H0, h⟩ := h
  try simp only [go_sem, *]
  refine L_ref38_Same_L0 p0 p1 H0 ?_ ?_
  ·clear h
   simp only [go_sem, I_ref38_Same_L0, *]
  ·intro e τ hJ
   rcases x0 with x0' | x0'
   ·obtain ⟨rfl, f0⟩ := hJ
    cases h
    simp only [go_sem, *]
    exact ⟨_, rfl⟩
   ·obtain ⟨rfl, f1, f2⟩ := hJ
    cases h
    simp only [go_sem, *]
    exact ⟨_, rfl⟩
noncomputable def s_law38_QueueTells (p0 : (List S_Wait)) (p1 : S_Wait) : Option (Bool) :=
 (s_ref38_Great (p0.length : Int)).bind fun r0 =>
 if r0 = true then
  some true
 else
  if ([] : List S_Wait).length + p0.length ≤ big then
   (s_queue_Push ([] ++ p0) p1).bind fun r1 =>
   (s_ref38_Push p0 p1).bind fun r2 =>
   (s_queue_Pop ([] ++ p0)).bind fun r3 =>
   (s_ref38_Pop p0).bind fun r4 =>
   ((s_queue_Check ([] ++ p0)).bind fun r5 =>
    (s_ref38_Check p0).bind fun r6 =>
    if (r5 == r6) = true then
     (s_ref38_Same r1.1 r2.1).bind fun r7 =>
     if r7 = true then
      if (r1.2 == r2.2) = true then
       if (r3.1.Frame == r4.1.Frame) = true then
        if (r3.1.Number == r4.1.Number) = true then
         (s_ref38_Same r3.2.1 r4.2.1).bind fun r8 =>
         if r8 = true then
          if (r3.2.2 == r4.2.2) = true then
           (s_ref38_Same ([] ++ p0) p0).bind fun r9 =>
           some r9
          else
           some false
         else
          some false
        else
         some false
       else
        some false
      else
       some false
     else
      some false
    else
     some false).bind fun x0 =>
   some x0
  else none
theorem s_law38_QueueTells_ok {p0 : (List S_Wait)} {p1 : S_Wait} {r : Bool} (h : s_law38_QueueTells p0 p1 = some r) : AnsL env k_law38_QueueTells [(.d true (.lst 2 (p0.map eS_Wait))), (.ag [(.d true (.int .i64 p1.Frame)), (.d true (.int .i64 p1.Number))])] (.d true (.bool r)) := by
 unfold s_law38_QueueTells at h
 unfold AnsL
 rw [AtF fn_law38_QueueTells]
 simp only [n_law38_QueueTells]
 replace h := bsome h; obtain ⟨r0, H0, h⟩ := h
 have k0 := AtCall_all (s_ref38_Great_ok H0); try dsimp only at k0
 replace h := itb h; rcases h with ⟨c0, h⟩ | ⟨c0, h⟩
 ·cases h
  simp only [go_sem, KLaw, *]
 ·replace h := need h; obtain ⟨H1, h⟩ := h
  try simp only [List.length_cons, List.length_nil, cpl_length, List.length_append, List.length_set, List.length_replicate, Nat.zero_add, Nat.reduceAdd] at H1
  replace h := bsome h; obtain ⟨r1, H2, h⟩ := h
  have k1 := AtCall_all (s_queue_Push_ok H2); try dsimp only at k1
  try simp only [List.map_cons, List.map_nil, List.map_append, List.map_set, List.nil_append, List.map_replicate, eI, eU8, eB, eL, eS_Wait] at k1
  replace h := bsome h; obtain ⟨r2, H3, h⟩ := h
  have k2 := AtCall_all (s_ref38_Push_ok H3); try dsimp only at k2
  replace h := bsome h; obtain ⟨r3, H4, h⟩ := h
  have k3 := AtCall_all (s_queue_Pop_ok H4); try dsimp only at k3
  try simp only [List.map_cons, List.map_nil, List.map_append, List.map_set, List.nil_append, List.map_replicate, eI, eU8, eB, eL, eS_Wait] at k3
  replace h := bsome h; obtain ⟨r4, H5, h⟩ := h
  have k4 := AtCall_all (s_ref38_Pop_ok H5); try dsimp only at k4
  replace h := bsome h; obtain ⟨x0, H6, h⟩ := h
  try simp only [go_sem, *]
  refine WC.mono (Q := fun e σ' => e = .normal ∧ σ'.get 4 = (.d true (.bool x0)) ∧ σ'.obj 0 2 = none ∧ σ'.up.length = 0) ?_ ?_
  ·replace h := H6
   clear H6
   replace h := bsome h; obtain ⟨r5, H7, h⟩ := h
   have k5 := AtCall_all (s_queue_Check_ok H7); try dsimp only at k5
   try simp only [List.map_cons, List.map_nil, List.map_append, List.map_set, List.nil_append, List.map_replicate, eI, eU8, eB, eL, eS_Wait] at k5
   replace h := bsome h; obtain ⟨r6, H8, h⟩ := h
   have k6 := AtCall_all (s_ref38_Check_ok H8); try dsimp only at k6
   replace h := itb h; rcases h with ⟨c1, h⟩ | ⟨c1, h⟩
   ·replace h := bsome h; obtain ⟨r7, H9, h⟩ := h
    have k7 := AtCall_all (s_ref38_Same_ok H9); try dsimp only at k7
    replace h := itb h; rcases h with ⟨c2, h⟩ | ⟨c2, h⟩
    ·replace h := itb h; rcases h with ⟨c3, h⟩ | ⟨c3, h⟩
     ·replace h := itb h; rcases h with ⟨c4, h⟩ | ⟨c4, h⟩
      ·replace h := itb h; rcases h with ⟨c5, h⟩ | ⟨c5, h⟩
       ·replace h := bsome h; obtain ⟨r8, H10, h⟩ := h
        have k8 := AtCall_all (s_ref38_Same_ok H10); try dsimp only at k8
        replace h := itb h; rcases h with ⟨c6, h⟩ | ⟨c6, h⟩
        ·replace h := itb h; rcases h with ⟨c7, h⟩ | ⟨c7, h⟩
         ·replace h := bsome h; obtain ⟨r9, H11, h⟩ := h
          have k9 := AtCall_all (s_ref38_Same_ok H11); try dsimp only at k9
          try simp only [List.map_cons, List.map_nil, List.map_append, List.map_set, List.nil_append, List.map_replicate, eI, eU8, eB, eL, eS_Wait] at k9
          cases h
          simp only [go_sem, c_law38_QueueTells_p1, *]
         ·cases h
          simp only [go_sem, c_law38_QueueTells_p1, *]
        ·cases h
         simp only [go_sem, c_law38_QueueTells_p1, *]
       ·cases h
        simp only [go_sem, c_law38_QueueTells_p1, *]
      ·cases h
       simp only [go_sem, c_law38_QueueTells_p1, *]
     ·cases h
      simp only [go_sem, c_law38_QueueTells_p1, *]
    ·cases h
     simp only [go_sem, c_law38_QueueTells_p1, *]
   ·cases h
    simp only [go_sem, c_law38_QueueTells_p1, *]
  ·intro e τ hJ
   obtain ⟨rfl, f0, f1, f2⟩ := hJ
   cases h
   simp only [go_sem, KLaw, *]
end Go.Proofs.Ytkhgnkfdpabflaa.Vm
