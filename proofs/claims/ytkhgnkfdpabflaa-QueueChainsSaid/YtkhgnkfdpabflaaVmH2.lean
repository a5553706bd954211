/- Walks over the code of functions. Printed. -/
import Derived.Test.YtkhgnkfdpabflaaVmH1
namespace Go.Proofs.Ytkhgnkfdpabflaa.Vm
open Go
set_option linter.unusedSimpArgs false
set_option linter.unusedVariables false
set_option maxRecDepth 4000
set_option maxHeartbeats 4000000
attribute [local go_sem] WC_skip WC_exit WC_ret WC_seq WC_block WC_cond WC_rg KSeq_normal KSeq_ret KSeq_exit KBlock_normal KBlock_ret KBlock_exit KN_eq KRg_eq KSt_eq KSet_eq KLen_eq KPick_eq KG_eq KCond_eq boolP_d biteC_true biteC_false biteO_true biteO_false WO_nil WO_mv WO_nilr WO_pick WO_bin WO_beq WO_eqs WO_un WO_cvt WO_alloc WO_box WO_load WO_store WO_fad WO_fval WO_ix WO_ixb WO_ixa WO_bld WO_bsl WO_mks WO_slc WO_len WO_mx WO_mn WO_app WO_cpy WO_clr WO_xt WO_fn WO_chk WO_g
 WO_call WO_callv callK KHand KCallv KRes KBack_ret KRet_eq KAns env_fn St.hand St.lend St.lends St.lend1 St.vals St.frz fr1_obj fr1_get fr1_upl frO_rw frO_fz frO_none St.rowOf List.foldl_nil List.foldl_cons List.map_cons List.map_nil
 optP_some optP_none
 St.get_set St.obj_set St.get_setObj St.obj_setObj St.get_kill St.obj_kill0 St.obj_killS St.get_ini St.obj_ini0 gt_nil gt_zero gt_succ St.val_t St.val_c
 stl_get stl_obj0 stl_objS stl_upl stv_d stv_dx stv_nil stv_row0 stv_rowS stv_ptr stv_rel0 stv_pd stv_ag stv_tp stv_cl stvs_nil stvs_cons obs_box obs_rw obs_fz
 ret_get ret_obj ret_up ini_objS ini_upl ini_upl0 set_upl kill_upl setObj_upl0 setObj_uplS
 kill_d kill_dx kill_nil kill_row0 kill_rowS kill_ptr0 kill_ptrS kill_rel0 kill_relS kill_pd kill_ag kill_tp kill_cl kills_nil kills_cons obk_box obk_rw obk_fz
 pre step bin_int bin_shr bin_shl beq_bool arith_add arith_sub arith_mul arith_and arith_or arith_xor arith_eql arith_neq arith_lss arith_leq arith_gtr arith_geq arith_quo2 arith_rem2 arith_shr1 arith_shl1 maxOf_two minOf_two un lenOf cellsOf ofCells wid sub? slice_map slice_head slice_full' slice_z slice_c slice_s put St.new zcells St.load St.store Vm.fad St.ix St.slc St.els St.app St.wants St.skip I.dst resVal resVals Z.v Z.t? ofT T.cells V.shift V.shifts V.down V.downs downL chkV eqs eqFlat fill fillT flatFill T.noL T.flat
 dat dat2 dat1 dats1 dats2 Fn.pure FreeRows_nil FreeRows_cons setRows ren ren2 ren1 KTk take takes2 take2 takes1 take1 take0 rowsOb Vm.st Option.isNone_none Option.isNone_some List.mem_cons List.not_mem_nil not_or
 Option.map_some Option.map_none Option.bind_some List.length_cons List.length_nil List.length_append List.length_set cpl_length List.length_map List.length_replicate List.map_append List.map_set List.map_replicate List.getElem?_map List.getElem?_cons_zero List.getElem?_cons_succ List.drop_zero List.take_zero List.drop_succ_cons List.take_succ_cons List.take_nil List.drop_nil List.zip_cons_cons List.zip_nil_left List.zip_nil_right List.mapM_cons List.mapM_nil Option.pure_def Option.bind_eq_bind List.all_cons List.all_nil List.append_eq_nil_iff List.cons_ne_nil List.map_eq_nil_iff List.set_cons_zero List.set_cons_succ List.replicate_succ List.replicate_zero
 Nat.reduceEqDiff Nat.reduceLeDiff Nat.reduceAdd Nat.reduceSub Nat.reduceLT Nat.reduceMul Nat.reduceBEq Nat.ble_eq reduceIte reduceCtorEq Nat.add_zero Nat.sub_zero Nat.zero_add and_true true_and and_false false_and and_self or_true true_or false_or or_false if_true if_false Nat.one_ne_zero not_true not_false_eq_true not_false_iff Bool.false_eq_true forall_const true_implies false_implies implies_true BEq.rfl Bool.not_true Bool.not_false Bool.and_true Bool.true_and Bool.and_false Bool.false_and Bool.and_self Bool.true_bne Bool.false_bne not_true_eq_false List.nil_append List.append_nil List.cons_append dInt dBool Nat.le_refl Nat.le_add_right St.toT St.toTs ne_eq
 ff_set ff_setObj ff_setObjl ff_ini0 ff_iniS ff_ret ff_frz1 mg_get mg_obj0 mg_objS mg_up KBack_mg mrv_d mrv_nil mrv_ptr0 mrv_ptrS mrv_row0 mrv_rowS mrv_ag mrv_tp mrv_cl mrvs_nil mrvs_cons obm_box obm_rw obm_fz
 Sum.elim_inl Sum.elim_inr Option.some.injEq Ob.rw.injEq exists_eq2 eI eU8 eU64 eB eL eS_Latch eS_And eS_Circuit eS_Obligation eA4_Int eS_Trace oB0 oB1 oB2 oB3 oB4 oB5 oB6 oB7 c_law38_QueueChains c_ref04_Same c_ref06_Same c_ref06_SameAll c_ref13_Same fn_queue_Chain fn_queue_Right fn_queue_Trace fn_ref04_Same fn_ref06_Same fn_ref06_SameAll fn_ref13_Same fn_ref36_Great fn_ref38_Chain fn_ref38_Great fn_ref38_Right fn_ref38_Trace n_queue_Chain n_queue_Right n_queue_Trace n_ref04_Same n_ref06_Same n_ref06_SameAll n_ref13_Same n_ref36_Great n_ref38_Chain n_ref38_Great n_ref38_Right n_ref38_Trace
def b_ref13_Same_L0 (p0 : (List Int)) (p1 : (List Int)) (s0 : Int) : Option ((Int) ⊕ ((Unit) ⊕ (Unit))) :=
 if (decide (s0 < (p0.length : Int))) = true then
  (idx p0 s0).bind fun x0 =>
  (idx p1 s0).bind fun x1 =>
  if (x0 != x1) = true then
   some (Sum.inr (Sum.inr ()))
  else
   some (Sum.inl (IntKind.wrap .i64 (s0 + 1)))
 else
  some (Sum.inr (Sum.inl ()))
def I_ref13_Same_L0 (p0 : (List Int)) (p1 : (List Int)) (s0 : Int) (σ : St) : Prop := σ.get 0 = (.d false (.lst 1 (p0.map eI))) ∧ σ.get 1 = (.d false (.lst 1 (p1.map eI))) ∧ σ.get 5 = (.d true (.int .i64 s0)) ∧ σ.up.length = 0
def J_ref13_Same_L0 (p0 : (List Int)) (p1 : (List Int)) (r : (Unit) ⊕ (Unit)) (e : Ex) (σ' : St) : Prop := (Sum.elim (fun o0 => e = (.exit 0) ∧ σ'.up.length = 0) (fun o1 => e = .ret ∧ σ'.get 4 = (.d true (.bool false)) ∧ σ'.up.length = 0)) r
theorem L_ref13_Same_L0 (p0 : (List Int)) (p1 : (List Int)) {s : Int} {r : (Unit) ⊕ (Unit)} (h : Lp (b_ref13_Same_L0 p0 p1) s = some r) {σ : St} {Q : Ex → St → Prop} (hI : I_ref13_Same_L0 p0 p1 s σ) (hQ : ∀ e σ', J_ref13_Same_L0 p0 p1 r e σ' → Q e σ') : WC env (.loop c_ref13_Same_l1) σ Q :=
 WC_Lp (I_ref13_Same_L0 p0 p1) (J_ref13_Same_L0 p0 p1) (by
  clear h hI hQ
  clear s r σ Q
  intro s0 σ x hI h
  obtain ⟨f0, f1, f2, f3⟩ := hI
  unfold b_ref13_Same_L0 at h
  replace h := itb h; rcases h with ⟨c1, h⟩ | ⟨c1, h⟩
  ·replace h := bsome h; obtain ⟨x0, H0, h⟩ := h
   have n0 := idx_n H0; have q0 := idx_q H0; have y0 := idx_x H0
   replace h := bsome h; obtain ⟨x1, H1, h⟩ := h
   have n1 := idx_n H1; have q1 := idx_q H1; have y1 := idx_x H1
   replace h := itb h; rcases h with ⟨c2, h⟩ | ⟨c2, h⟩
   ·cases h
    simp only [go_sem, LQ_inr, J_ref13_Same_L0, c_ref13_Same_l1, *]
   ·cases h
    simp only [go_sem, LQ_inl, I_ref13_Same_L0, c_ref13_Same_l1, *]
  ·cases h
   simp only [go_sem, LQ_inr, J_ref13_Same_L0, c_ref13_Same_l1, *]
) h hI hQ
noncomputable def s_ref13_Same (p0 : (List Int)) (p1 : (List Int)) : Option (Bool) :=
 if ((p0.length : Int) != (p1.length : Int)) = true then
  some false
 else
  (Lp (b_ref13_Same_L0 p0 p1) 0).bind fun x0 =>
  match x0 with
  | .inl x0' =>
   some true
  | .inr x0' =>
   some false
theorem s_ref13_Same_ok {p0 : (List Int)} {p1 : (List Int)} {r : Bool} (h : s_ref13_Same p0 p1 = some r) : Ans env k_ref13_Same [(.d false (.lst 1 (p0.map eI))), (.d false (.lst 1 (p1.map eI)))] (.d true (.bool r)) := by
 unfold s_ref13_Same at h
 unfold Ans
 rw [AtF fn_ref13_Same]
 simp only [n_ref13_Same]
 replace h := itb h; rcases h with ⟨c0, h⟩ | ⟨c0, h⟩
 ·cases h
  simp only [go_sem, *]
  exact ⟨_, rfl⟩
 ·replace h := bsome h; obtain ⟨x0, H0, h⟩ := h
  try simp only [go_sem, *]
  refine L_ref13_Same_L0 p0 p1 H0 ?_ ?_
  ·clear h
   simp only [go_sem, I_ref13_Same_L0, *]
  ·intro e τ hJ
   rcases x0 with x0' | x0'
   ·obtain ⟨rfl, f0⟩ := hJ
    cases h
    simp only [go_sem, *]
    exact ⟨_, rfl⟩
   ·obtain ⟨rfl, f1, f2⟩ := hJ
    cases h
    simp only [go_sem, *]
    exact ⟨_, rfl⟩
def b_ref04_Same_L0 (p0 : (List Bool)) (p1 : (List Bool)) (s0 : Int) : Option ((Int) ⊕ ((Unit) ⊕ (Unit))) :=
 if (decide (s0 < (p0.length : Int))) = true then
  (idx p0 s0).bind fun x0 =>
  (idx p1 s0).bind fun x1 =>
  if ((x0 == x1) != true) = true then
   some (Sum.inr (Sum.inr ()))
  else
   some (Sum.inl (IntKind.wrap .i64 (s0 + 1)))
 else
  some (Sum.inr (Sum.inl ()))
def I_ref04_Same_L0 (p0 : (List Bool)) (p1 : (List Bool)) (s0 : Int) (σ : St) : Prop := σ.get 0 = (.d false (.lst 1 (p0.map eB))) ∧ σ.get 1 = (.d false (.lst 1 (p1.map eB))) ∧ σ.get 5 = (.d true (.int .i64 s0)) ∧ σ.up.length = 0
def J_ref04_Same_L0 (p0 : (List Bool)) (p1 : (List Bool)) (r : (Unit) ⊕ (Unit)) (e : Ex) (σ' : St) : Prop := (Sum.elim (fun o0 => e = (.exit 0) ∧ σ'.up.length = 0) (fun o1 => e = .ret ∧ σ'.get 4 = (.d true (.bool false)) ∧ σ'.up.length = 0)) r
theorem L_ref04_Same_L0 (p0 : (List Bool)) (p1 : (List Bool)) {s : Int} {r : (Unit) ⊕ (Unit)} (h : Lp (b_ref04_Same_L0 p0 p1) s = some r) {σ : St} {Q : Ex → St → Prop} (hI : I_ref04_Same_L0 p0 p1 s σ) (hQ : ∀ e σ', J_ref04_Same_L0 p0 p1 r e σ' → Q e σ') : WC env (.loop c_ref04_Same_l1) σ Q :=
 WC_Lp (I_ref04_Same_L0 p0 p1) (J_ref04_Same_L0 p0 p1) (by
  clear h hI hQ
  clear s r σ Q
  intro s0 σ x hI h
  obtain ⟨f0, f1, f2, f3⟩ := hI
  unfold b_ref04_Same_L0 at h
  replace h := itb h; rcases h with ⟨c1, h⟩ | ⟨c1, h⟩
  ·replace h := bsome h; obtain ⟨x0, H0, h⟩ := h
   have n0 := idx_n H0; have q0 := idx_q H0; have y0 := idx_x H0
   replace h := bsome h; obtain ⟨x1, H1, h⟩ := h
   have n1 := idx_n H1; have q1 := idx_q H1; have y1 := idx_x H1
   replace h := itb h; rcases h with ⟨c2, h⟩ | ⟨c2, h⟩
   ·cases h
    simp only [go_sem, LQ_inr, J_ref04_Same_L0, c_ref04_Same_l1, *]
   ·cases h
    simp only [go_sem, LQ_inl, I_ref04_Same_L0, c_ref04_Same_l1, *]
  ·cases h
   simp only [go_sem, LQ_inr, J_ref04_Same_L0, c_ref04_Same_l1, *]
) h hI hQ
noncomputable def s_ref04_Same (p0 : (List Bool)) (p1 : (List Bool)) : Option (Bool) :=
 if ((p0.length : Int) != (p1.length : Int)) = true then
  some false
 else
  (Lp (b_ref04_Same_L0 p0 p1) 0).bind fun x0 =>
  match x0 with
  | .inl x0' =>
   some true
  | .inr x0' =>
   some false
theorem s_ref04_Same_ok {p0 : (List Bool)} {p1 : (List Bool)} {r : Bool} (h : s_ref04_Same p0 p1 = some r) : Ans env k_ref04_Same [(.d false (.lst 1 (p0.map eB))), (.d false (.lst 1 (p1.map eB)))] (.d true (.bool r)) := by
 unfold s_ref04_Same at h
 unfold Ans
 rw [AtF fn_ref04_Same]
 simp only [n_ref04_Same]
 replace h := itb h; rcases h with ⟨c0, h⟩ | ⟨c0, h⟩
 ·cases h
  simp only [go_sem, *]
  exact ⟨_, rfl⟩
 ·replace h := bsome h; obtain ⟨x0, H0, h⟩ := h
  try simp only [go_sem, *]
  refine L_ref04_Same_L0 p0 p1 H0 ?_ ?_
  ·clear h
   simp only [go_sem, I_ref04_Same_L0, *]
  ·intro e τ hJ
   rcases x0 with x0' | x0'
   ·obtain ⟨rfl, f0⟩ := hJ
    cases h
    simp only [go_sem, *]
    exact ⟨_, rfl⟩
   ·obtain ⟨rfl, f1, f2⟩ := hJ
    cases h
    simp only [go_sem, *]
    exact ⟨_, rfl⟩
noncomputable def b_ref06_SameAll_L0 (p0 : (List (List Bool))) (p1 : (List (List Bool))) (s0 : Int) : Option ((Int) ⊕ ((Unit) ⊕ (Unit))) :=
 if (decide (s0 < (p0.length : Int))) = true then
  (idx p0 s0).bind fun x0 =>
  (idx p1 s0).bind fun x1 =>
  (s_ref04_Same x0 x1).bind fun r0 =>
  if r0 = true then
   some (Sum.inl (IntKind.wrap .i64 (s0 + 1)))
  else
   some (Sum.inr (Sum.inr ()))
 else
  some (Sum.inr (Sum.inl ()))
def I_ref06_SameAll_L0 (p0 : (List (List Bool))) (p1 : (List (List Bool))) (s0 : Int) (σ : St) : Prop := σ.get 0 = (.d false (.lst 1 (p0.map (eL 1 eB)))) ∧ σ.get 1 = (.d false (.lst 1 (p1.map (eL 1 eB)))) ∧ σ.get 5 = (.d true (.int .i64 s0)) ∧ σ.up.length = 0
def J_ref06_SameAll_L0 (p0 : (List (List Bool))) (p1 : (List (List Bool))) (r : (Unit) ⊕ (Unit)) (e : Ex) (σ' : St) : Prop := (Sum.elim (fun o0 => e = (.exit 0) ∧ σ'.up.length = 0) (fun o1 => e = .ret ∧ σ'.get 4 = (.d true (.bool false)) ∧ σ'.up.length = 0)) r
theorem L_ref06_SameAll_L0 (p0 : (List (List Bool))) (p1 : (List (List Bool))) {s : Int} {r : (Unit) ⊕ (Unit)} (h : Lp (b_ref06_SameAll_L0 p0 p1) s = some r) {σ : St} {Q : Ex → St → Prop} (hI : I_ref06_SameAll_L0 p0 p1 s σ) (hQ : ∀ e σ', J_ref06_SameAll_L0 p0 p1 r e σ' → Q e σ') : WC env (.loop c_ref06_SameAll_l1) σ Q :=
 WC_Lp (I_ref06_SameAll_L0 p0 p1) (J_ref06_SameAll_L0 p0 p1) (by
  clear h hI hQ
  clear s r σ Q
  intro s0 σ x hI h
  obtain ⟨f0, f1, f2, f3⟩ := hI
  unfold b_ref06_SameAll_L0 at h
  replace h := itb h; rcases h with ⟨c1, h⟩ | ⟨c1, h⟩
  ·replace h := bsome h; obtain ⟨x0, H0, h⟩ := h
   have n0 := idx_n H0; have q0 := idx_q H0; have y0 := idx_x H0
   replace h := bsome h; obtain ⟨x1, H1, h⟩ := h
   have n1 := idx_n H1; have q1 := idx_q H1; have y1 := idx_x H1
   replace h := bsome h; obtain ⟨r0, H2, h⟩ := h
   have k0 := AtCall_all (s_ref04_Same_ok H2); try dsimp only at k0
   replace h := itb h; rcases h with ⟨c2, h⟩ | ⟨c2, h⟩
   ·cases h
    simp only [go_sem, LQ_inl, I_ref06_SameAll_L0, c_ref06_SameAll_l1, *]
   ·cases h
    simp only [go_sem, LQ_inr, J_ref06_SameAll_L0, c_ref06_SameAll_l1, *]
  ·cases h
   simp only [go_sem, LQ_inr, J_ref06_SameAll_L0, c_ref06_SameAll_l1, *]
) h hI hQ
noncomputable def s_ref06_SameAll (p0 : (List (List Bool))) (p1 : (List (List Bool))) : Option (Bool) :=
 if ((p0.length : Int) != (p1.length : Int)) = true then
  some false
 else
  (Lp (b_ref06_SameAll_L0 p0 p1) 0).bind fun x0 =>
  match x0 with
  | .inl x0' =>
   some true
  | .inr x0' =>
   some false
theorem s_ref06_SameAll_ok {p0 : (List (List Bool))} {p1 : (List (List Bool))} {r : Bool} (h : s_ref06_SameAll p0 p1 = some r) : Ans env k_ref06_SameAll [(.d false (.lst 1 (p0.map (eL 1 eB)))), (.d false (.lst 1 (p1.map (eL 1 eB))))] (.d true (.bool r)) := by
 unfold s_ref06_SameAll at h
 unfold Ans
 rw [AtF fn_ref06_SameAll]
 simp only [n_ref06_SameAll]
 replace h := itb h; rcases h with ⟨c0, h⟩ | ⟨c0, h⟩
 ·cases h
  simp only [go_sem, *]
  exact ⟨_, rfl⟩
 ·replace h := bsome h; obtain ⟨x0, H0, h⟩ := h
  try simp only [go_sem, *]
  refine L_ref06_SameAll_L0 p0 p1 H0 ?_ ?_
  ·clear h
   simp only [go_sem, I_ref06_SameAll_L0, *]
  ·intro e τ hJ
   rcases x0 with x0' | x0'
   ·obtain ⟨rfl, f0⟩ := hJ
    cases h
    simp only [go_sem, *]
    exact ⟨_, rfl⟩
   ·obtain ⟨rfl, f1, f2⟩ := hJ
    cases h
    simp only [go_sem, *]
    exact ⟨_, rfl⟩
noncomputable def s_ref06_Same (p0 : S_Trace) (p1 : S_Trace) : Option (Bool) :=
 ((s_ref04_Same p0.First p1.First).bind fun r0 =>
  if r0 = true then
   (s_ref06_SameAll p0.Inputs p1.Inputs).bind fun r1 =>
   some r1
  else
   some false).bind fun x0 =>
 some x0
theorem s_ref06_Same_ok {p0 : S_Trace} {p1 : S_Trace} {r : Bool} (h : s_ref06_Same p0 p1 = some r) : Ans env k_ref06_Same [(.ag [(.d false (.lst 1 (p0.First.map eB))), (.d false (.lst 1 (p0.Inputs.map (eL 1 eB))))]), (.ag [(.d false (.lst 1 (p1.First.map eB))), (.d false (.lst 1 (p1.Inputs.map (eL 1 eB))))])] (.d true (.bool r)) := by
 unfold s_ref06_Same at h
 unfold Ans
 rw [AtF fn_ref06_Same]
 simp only [n_ref06_Same]
 replace h := bsome h; obtain ⟨x0, H0, h⟩ := h
 try simp only [go_sem, *]
 refine WC.mono (Q := fun e σ' => e = .normal ∧ σ'.get 4 = (.d true (.bool x0)) ∧ σ'.up.length = 0) ?_ ?_
 ·replace h := H0
  clear H0
  replace h := bsome h; obtain ⟨r0, H1, h⟩ := h
  have k0 := AtCall_all (s_ref04_Same_ok H1); try dsimp only at k0
  replace h := itb h; rcases h with ⟨c0, h⟩ | ⟨c0, h⟩
  ·replace h := bsome h; obtain ⟨r1, H2, h⟩ := h
   have k1 := AtCall_all (s_ref06_SameAll_ok H2); try dsimp only at k1
   cases h
   simp only [go_sem, c_ref06_Same_p1, *]
  ·cases h
   simp only [go_sem, c_ref06_Same_p1, *]
 ·intro e τ hJ
  obtain ⟨rfl, f0, f1⟩ := hJ
  cases h
  simp only [go_sem, *]
  exact ⟨_, rfl⟩
noncomputable def s_law38_QueueChains (p0 : S_Circuit) (p1 : (List S_Obligation)) (p2 : Int) (p3 : (List Bool)) (p4 : (List Bool)) : Option (Bool) :=
 ((s_ref36_Great p0).bind fun r0 =>
  if r0 = true then
   some true
  else
   (s_ref38_Great (p1.length : Int)).bind fun r1 =>
   some r1).bind fun x0 =>
 if x0 = true then
  some true
 else
  (s_queue_Chain p0 p1 p2).bind fun r2 =>
  (s_ref38_Chain p0 p1 p2).bind fun r3 =>
  (s_queue_Trace p0 p1 p2 p3 p4).bind fun r4 =>
  (s_ref38_Trace p0 p1 p2 p3 p4).bind fun r5 =>
  ((s_queue_Right p0 p1).bind fun r6 =>
   (s_ref38_Right p0 p1).bind fun r7 =>
   if (r6 == r7) = true then
    (s_ref13_Same r2.1 r3.1).bind fun r8 =>
    if r8 = true then
     if (r2.2 == r3.2) = true then
      (s_ref06_Same r4.1 r5.1).bind fun r9 =>
      if r9 = true then
       some (r4.2 == r5.2)
      else
       some false
     else
      some false
    else
     some false
   else
    some false).bind fun x1 =>
  some x1
theorem s_law38_QueueChains_ok {p0 : S_Circuit} {p1 : (List S_Obligation)} {p2 : Int} {p3 : (List Bool)} {p4 : (List Bool)} {r : Bool} (h : s_law38_QueueChains p0 p1 p2 p3 p4 = some r) : AnsL env k_law38_QueueChains [(.ag [(.d true (.int .i64 p0.Inputs)), (.d true (.lst 2 (p0.Latches.map eS_Latch))), (.d true (.lst 2 (p0.Ands.map eS_And))), (.d true (.lst 1 (p0.Bads.map eI))), (.d true (.lst 1 (p0.Constraints.map eI)))]), (.d true (.lst 3 (p1.map eS_Obligation))), (.d true (.int .i64 p2)), (.d true (.lst 1 (p3.map eB))), (.d true (.lst 1 (p4.map eB)))] (.d true (.bool r)) := by
 unfold s_law38_QueueChains at h
 unfold AnsL
 rw [AtF fn_law38_QueueChains]
 simp only [n_law38_QueueChains]
 replace h := bsome h; obtain ⟨x0, H0, h⟩ := h
 try simp only [go_sem, *]
 refine WC.mono (Q := fun e σ' => e = .normal ∧ σ'.get 1 = (.d true (.lst 3 (p1.map eS_Obligation))) ∧ σ'.get 2 = (.d true (.int .i64 p2)) ∧ σ'.get 3 = (.d true (.lst 1 (p3.map eB))) ∧ σ'.get 4 = (.d true (.lst 1 (p4.map eB))) ∧ σ'.get 5 = (.ptr 0 0 0) ∧ σ'.get 25 = (.d true (.bool x0)) ∧ σ'.obj 0 0 = oB1 p0 ∧ σ'.obj 0 1 = none ∧ σ'.obj 0 2 = none ∧ σ'.up.length = 0) ?_ ?_
 ·replace h := H0
  clear H0
  replace h := bsome h; obtain ⟨r0, H1, h⟩ := h
  have k0 := AtCall_all (s_ref36_Great_ok H1); try dsimp only at k0
  replace h := itb h; rcases h with ⟨c0, h⟩ | ⟨c0, h⟩
  ·cases h
   simp only [go_sem, c_law38_QueueChains_p1, *]
  ·replace h := bsome h; obtain ⟨r1, H2, h⟩ := h
   have k1 := AtCall_all (s_ref38_Great_ok H2); try dsimp only at k1
   cases h
   simp only [go_sem, c_law38_QueueChains_p1, *]
 ·intro e τ hJ
  obtain ⟨rfl, f0, f1, f2, f3, f4, f5, f6, f7, f8, f9⟩ := hJ
  replace h := itb h; rcases h with ⟨c1, h⟩ | ⟨c1, h⟩
  ·cases h
   simp only [go_sem, KLaw, *]
  ·replace h := bsome h; obtain ⟨r2, H3, h⟩ := h
   have k2 := AtCall_all (s_queue_Chain_ok H3); try dsimp only at k2
   replace h := bsome h; obtain ⟨r3, H4, h⟩ := h
   have k3 := AtCall_all (s_ref38_Chain_ok H4); try dsimp only at k3
   replace h := bsome h; obtain ⟨r4, H5, h⟩ := h
   have k4 := AtCall_all (s_queue_Trace_ok H5); try dsimp only at k4
   replace h := bsome h; obtain ⟨r5, H6, h⟩ := h
   have k5 := AtCall_all (s_ref38_Trace_ok H6); try dsimp only at k5
   replace h := bsome h; obtain ⟨x1, H7, h⟩ := h
   try simp only [go_sem, *]
   refine WC.mono (Q := fun e σ' => e = .normal ∧ σ'.get 10 = (.d true (.bool x1)) ∧ σ'.up.length = 0) ?_ ?_
   ·replace h := H7
    clear H7
    replace h := bsome h; obtain ⟨r6, H8, h⟩ := h
    have k6 := AtCall_all (s_queue_Right_ok H8); try dsimp only at k6
    replace h := bsome h; obtain ⟨r7, H9, h⟩ := h
    have k7 := AtCall_all (s_ref38_Right_ok H9); try dsimp only at k7
    replace h := itb h; rcases h with ⟨c2, h⟩ | ⟨c2, h⟩
    ·replace h := bsome h; obtain ⟨r8, H10, h⟩ := h
     have k8 := AtCall_all (s_ref13_Same_ok H10); try dsimp only at k8
     replace h := itb h; rcases h with ⟨c3, h⟩ | ⟨c3, h⟩
     ·replace h := itb h; rcases h with ⟨c4, h⟩ | ⟨c4, h⟩
      ·replace h := bsome h; obtain ⟨r9, H11, h⟩ := h
       have k9 := AtCall_all (s_ref06_Same_ok H11); try dsimp only at k9
       replace h := itb h; rcases h with ⟨c5, h⟩ | ⟨c5, h⟩
       ·cases h
        simp only [go_sem, c_law38_QueueChains_p2, *]
       ·cases h
        simp only [go_sem, c_law38_QueueChains_p2, *]
      ·cases h
       simp only [go_sem, c_law38_QueueChains_p2, *]
     ·cases h
      simp only [go_sem, c_law38_QueueChains_p2, *]
    ·cases h
     simp only [go_sem, c_law38_QueueChains_p2, *]
   ·intro e τ hJ
    obtain ⟨rfl, f10, f11⟩ := hJ
    cases h
    simp only [go_sem, KLaw, *]
end Go.Proofs.Ytkhgnkfdpabflaa.Vm
