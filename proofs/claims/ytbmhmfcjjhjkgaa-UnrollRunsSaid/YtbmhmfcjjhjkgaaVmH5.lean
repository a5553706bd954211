/- Walks over the code of functions. Printed. -/
import Derived.Test.YtbmhmfcjjhjkgaaVmH4
namespace Go.Proofs.Ytbmhmfcjjhjkgaa.Vm
open Go
set_option linter.unusedSimpArgs false
set_option linter.unusedVariables false
set_option maxRecDepth 4000
set_option maxHeartbeats 4000000
attribute [local go_sem] WC_skip WC_exit WC_ret WC_seq WC_block WC_cond WC_rg KSeq_normal KSeq_ret KSeq_exit KBlock_normal KBlock_ret KBlock_exit KN_eq KRg_eq KSt_eq KSet_eq KLen_eq KPick_eq KG_eq KCond_eq boolP_d biteC_true biteC_false biteO_true biteO_false WO_nil WO_mv WO_nilr WO_pick WO_bin WO_beq WO_eqs WO_un WO_cvt WO_alloc WO_box WO_load WO_store WO_fad WO_fval WO_ix WO_ixb WO_ixa WO_bld WO_bsl WO_mks WO_slc WO_len WO_mx WO_mn WO_app WO_cpy WO_clr WO_xt WO_fn WO_chk WO_g
 WO_call WO_callv callK KHand KCallv KRes KBack_ret KRet_eq KAns env_fn St.hand St.lend St.lends St.lend1 St.vals St.frz fr1_obj fr1_get fr1_upl frO_rw frO_fz frO_none St.rowOf List.foldl_nil List.foldl_cons List.map_cons List.map_nil
 optP_some optP_none
 St.get_set St.obj_set St.get_setObj St.obj_setObj St.get_kill St.obj_kill0 St.obj_killS St.get_ini St.obj_ini0 gt_nil gt_zero gt_succ St.val_t St.val_c
 stl_get stl_obj0 stl_objS stl_upl stv_d stv_dx stv_nil stv_row0 stv_rowS stv_ptr stv_rel0 stv_pd stv_ag stv_tp stv_cl stvs_nil stvs_cons obs_box obs_rw obs_fz
 ret_get ret_obj ret_up ini_objS ini_upl ini_upl0 set_upl kill_upl setObj_upl0 setObj_uplS
 kill_d kill_dx kill_nil kill_row0 kill_rowS kill_ptr0 kill_ptrS kill_rel0 kill_relS kill_pd kill_ag kill_tp kill_cl kills_nil kills_cons obk_box obk_rw obk_fz
 pre step bin_int bin_shr bin_shl beq_bool arith_add arith_sub arith_mul arith_and arith_or arith_xor arith_eql arith_neq arith_lss arith_leq arith_gtr arith_geq arith_quo2 arith_rem2 arith_shr1 arith_shl1 maxOf_two minOf_two un lenOf cellsOf ofCells wid sub? slice_map slice_head slice_full' slice_z slice_c slice_s put St.new zcells St.load St.store Vm.fad St.ix St.slc St.els St.app St.wants St.skip I.dst resVal resVals Z.v Z.t? ofT T.cells V.shift V.shifts V.down V.downs downL chkV eqs eqFlat fill fillT flatFill T.noL T.flat
 dat dat2 dat1 dats1 dats2 Fn.pure
 Option.map_some Option.map_none Option.bind_some List.length_cons List.length_nil List.length_append List.length_set cpl_length List.length_map List.length_replicate List.map_append List.map_set List.map_replicate List.getElem?_map List.getElem?_cons_zero List.getElem?_cons_succ List.drop_zero List.take_zero List.drop_succ_cons List.take_succ_cons List.take_nil List.drop_nil List.zip_cons_cons List.zip_nil_left List.zip_nil_right List.mapM_cons List.mapM_nil Option.pure_def Option.bind_eq_bind List.all_cons List.all_nil List.append_eq_nil_iff List.cons_ne_nil List.map_eq_nil_iff List.set_cons_zero List.set_cons_succ List.replicate_succ List.replicate_zero
 Nat.reduceEqDiff Nat.reduceLeDiff Nat.reduceAdd Nat.reduceSub Nat.reduceLT Nat.reduceMul Nat.reduceBEq Nat.ble_eq reduceIte reduceCtorEq Nat.add_zero Nat.sub_zero Nat.zero_add and_true true_and and_false false_and and_self or_true true_or false_or or_false if_true if_false Nat.one_ne_zero not_true not_false_eq_true not_false_iff Bool.false_eq_true forall_const true_implies false_implies implies_true BEq.rfl Bool.not_true Bool.not_false Bool.and_true Bool.true_and Bool.and_false Bool.false_and Bool.and_self not_true_eq_false List.nil_append List.append_nil List.cons_append dInt dBool Nat.le_refl Nat.le_add_right St.toT St.toTs ne_eq
 Sum.elim_inl Sum.elim_inr Option.some.injEq Ob.rw.injEq exists_eq2 eI eU8 eU64 eB eL eS_Latch eS_And eS_Circuit eS_Trace eS_Cnf eA4_Int oB0 oB1 oB2 oB3 oB4 oB5 oB6 oB7 oB8 oB9 oB10 oB11 oB12 oB13 oB14 oB15 oB16 oB17 oB18 oB19 c_law23_UnrollRuns c_ref04_Same c_ref06_Same c_ref06_SameAll c_unroll_Trace fn_gates_Vars fn_law23_alive fn_law23_great fn_law23_named fn_ref02_Check fn_ref04_Same fn_ref06_Check fn_ref06_Same fn_ref06_SameAll fn_ref22_Check fn_solve_Model fn_traces_States fn_tseitin_Check fn_unroll_Of fn_unroll_Trace fn_unroll_value n_gates_Vars n_law23_alive n_law23_great n_law23_named n_ref02_Check n_ref04_Same n_ref06_Check n_ref06_Same n_ref06_SameAll n_ref22_Check n_solve_Model n_traces_States n_tseitin_Check n_unroll_Of n_unroll_Trace n_unroll_value
def b_unroll_Trace_L1 (p0 : S_Circuit) (p1 : S_Cnf) (p2 : (List Bool)) (r0 : Int × Int) (s0 : Int) (x0 : (List Int)) (s1 : Int) : Option ((Int) ⊕ ((Unit) ⊕ (Unit))) :=
 if (decide (s1 < (IntKind.wrap .i64 ((IntKind.wrap .i64 (1 + p0.Inputs)) + (p0.Latches.length : Int))))) = true then
  ((idx x0 s1).bind fun x2 =>
   if (decide (x2 < 0)) = true then
    if (decide (s1 < (IntKind.wrap .i64 (1 + p0.Inputs)))) = true then
     some true
    else
     some (s0 == 0)
   else
    some false).bind fun x1 =>
  if x1 = true then
   some (Sum.inr (Sum.inr ()))
  else
   some (Sum.inl (IntKind.wrap .i64 (s1 + 1)))
 else
  some (Sum.inr (Sum.inl ()))
def I_unroll_Trace_L1 (p0 : S_Circuit) (p1 : S_Cnf) (p2 : (List Bool)) (r0 : Int × Int) (s0 : Int) (x0 : (List Int)) (s1 : Int) (σ : St) : Prop := σ.get 2 = (.d false (.lst 1 (p2.map eB))) ∧ σ.get 3 = (.ptr 0 0 0) ∧ σ.get 4 = (.ptr 0 1 0) ∧ σ.get 6 = (.ptr 0 2 0) ∧ σ.get 8 = (.d true (.int .i64 r0.1)) ∧ σ.get 11 = (.d true (.int .i64 (IntKind.wrap .i64 (1 + p0.Inputs)))) ∧ σ.get 12 = (.d true (.int .i64 s0)) ∧ σ.get 13 = (.d true (.lst 1 (x0.map eI))) ∧ σ.get 14 = (.d true (.int .i64 s1)) ∧ σ.get 45 = (.d false (.lst 1 (p1.Lits.map (eL 1 eI)))) ∧ σ.get 46 = (.d true (.int .i64 (p1.Lits.length : Int))) ∧ σ.get 47 = (.d true (.int .i64 s0)) ∧ σ.obj 0 0 = oB0 p0 ∧ σ.obj 0 1 = oB10 p1 ∧ σ.obj 0 2 = oB12 (([] : List Bool).length) (([] : List (List Bool)).length) ∧ σ.obj 0 3 = some (.rw 1 (([] : List Bool).map eB) false) ∧ σ.obj 0 4 = some (.rw 1 (([] : List (List Bool)).map (eL 1 eB)) false) ∧ σ.obj 0 5 = none ∧ σ.obj 0 6 = none ∧ σ.obj 0 7 = none ∧ σ.obj 0 9 = none ∧ σ.obj 0 12 = none ∧ σ.obj 0 14 = none ∧ σ.up.length = 0
def J_unroll_Trace_L1 (p0 : S_Circuit) (p1 : S_Cnf) (p2 : (List Bool)) (r0 : Int × Int) (s0 : Int) (x0 : (List Int)) (r : (Unit) ⊕ (Unit)) (e : Ex) (σ' : St) : Prop := (Sum.elim (fun o0 => e = (.exit 2) ∧ σ'.get 2 = (.d false (.lst 1 (p2.map eB))) ∧ σ'.get 3 = (.ptr 0 0 0) ∧ σ'.get 4 = (.ptr 0 1 0) ∧ σ'.get 6 = (.ptr 0 2 0) ∧ σ'.get 8 = (.d true (.int .i64 r0.1)) ∧ σ'.get 11 = (.d true (.int .i64 (IntKind.wrap .i64 (1 + p0.Inputs)))) ∧ σ'.get 45 = (.d false (.lst 1 (p1.Lits.map (eL 1 eI)))) ∧ σ'.get 46 = (.d true (.int .i64 (p1.Lits.length : Int))) ∧ σ'.get 47 = (.d true (.int .i64 s0)) ∧ σ'.obj 0 0 = oB0 p0 ∧ σ'.obj 0 1 = oB10 p1 ∧ σ'.obj 0 2 = oB12 (([] : List Bool).length) (([] : List (List Bool)).length) ∧ σ'.obj 0 3 = some (.rw 1 (([] : List Bool).map eB) false) ∧ σ'.obj 0 4 = some (.rw 1 (([] : List (List Bool)).map (eL 1 eB)) false) ∧ σ'.obj 0 5 = none ∧ σ'.obj 0 6 = none ∧ σ'.obj 0 7 = none ∧ σ'.obj 0 9 = none ∧ σ'.obj 0 12 = none ∧ σ'.obj 0 14 = none ∧ σ'.up.length = 0) (fun o1 => e = .ret ∧ σ'.get 6 = (.ptr 0 2 0) ∧ σ'.get 7 = (.d true (.int .i64 8)) ∧ σ'.obj 0 2 = oB13 ∧ σ'.obj 0 5 = none ∧ σ'.obj 0 6 = none ∧ σ'.obj 0 7 = none ∧ σ'.obj 0 9 = none ∧ σ'.obj 0 12 = none ∧ σ'.obj 0 14 = none ∧ σ'.up.length = 0)) r
theorem L_unroll_Trace_L1 (p0 : S_Circuit) (p1 : S_Cnf) (p2 : (List Bool)) (r0 : Int × Int) (s0 : Int) (x0 : (List Int)) {s : Int} {r : (Unit) ⊕ (Unit)} (h : Lp (b_unroll_Trace_L1 p0 p1 p2 r0 s0 x0) s = some r) {σ : St} {Q : Ex → St → Prop} (hI : I_unroll_Trace_L1 p0 p1 p2 r0 s0 x0 s σ) (hQ : ∀ e σ', J_unroll_Trace_L1 p0 p1 p2 r0 s0 x0 r e σ' → Q e σ') : WC env (.loop c_unroll_Trace_l1) σ Q :=
 WC_Lp (I_unroll_Trace_L1 p0 p1 p2 r0 s0 x0) (J_unroll_Trace_L1 p0 p1 p2 r0 s0 x0) (by
  clear h hI hQ
  clear s r σ Q
  intro s1 σ x hI h
  obtain ⟨f21, f22, f23, f24, f25, f26, f27, f28, f29, f30, f31, f32, f33, f34, f35, f36, f37, f38, f39, f40, f41, f42, f43, f44⟩ := hI
  unfold b_unroll_Trace_L1 at h
  replace h := itb h; rcases h with ⟨c5, h⟩ | ⟨c5, h⟩
  ·replace h := bsome h; obtain ⟨x1, H3, h⟩ := h
   try simp only [go_sem, c_unroll_Trace_l1, c_unroll_Trace_l2, *]
   refine WC.mono (Q := fun e σ' => e = .normal ∧ σ'.get 2 = (.d false (.lst 1 (p2.map eB))) ∧ σ'.get 3 = (.ptr 0 0 0) ∧ σ'.get 4 = (.ptr 0 1 0) ∧ σ'.get 6 = (.ptr 0 2 0) ∧ σ'.get 8 = (.d true (.int .i64 r0.1)) ∧ σ'.get 11 = (.d true (.int .i64 (IntKind.wrap .i64 (1 + p0.Inputs)))) ∧ σ'.get 12 = (.d true (.int .i64 s0)) ∧ σ'.get 13 = (.d true (.lst 1 (x0.map eI))) ∧ σ'.get 14 = (.d true (.int .i64 s1)) ∧ σ'.get 45 = (.d false (.lst 1 (p1.Lits.map (eL 1 eI)))) ∧ σ'.get 46 = (.d true (.int .i64 (p1.Lits.length : Int))) ∧ σ'.get 47 = (.d true (.int .i64 s0)) ∧ σ'.get 80 = (.d true (.bool x1)) ∧ σ'.obj 0 0 = oB0 p0 ∧ σ'.obj 0 1 = oB10 p1 ∧ σ'.obj 0 2 = oB12 (([] : List Bool).length) (([] : List (List Bool)).length) ∧ σ'.obj 0 3 = some (.rw 1 (([] : List Bool).map eB) false) ∧ σ'.obj 0 4 = some (.rw 1 (([] : List (List Bool)).map (eL 1 eB)) false) ∧ σ'.obj 0 5 = none ∧ σ'.obj 0 6 = none ∧ σ'.obj 0 7 = none ∧ σ'.obj 0 9 = none ∧ σ'.obj 0 12 = none ∧ σ'.obj 0 14 = none ∧ σ'.up.length = 0) ?_ ?_
   ·replace h := H3
    clear H3
    replace h := bsome h; obtain ⟨x2, H4, h⟩ := h
    have n1 := idx_n H4; have q1 := idx_q H4; have y1 := idx_x H4
    replace h := itb h; rcases h with ⟨c6, h⟩ | ⟨c6, h⟩
    ·replace h := itb h; rcases h with ⟨c7, h⟩ | ⟨c7, h⟩
     ·cases h
      simp only [go_sem, c_unroll_Trace_l1, c_unroll_Trace_l2, c_unroll_Trace_p1, *]
     ·cases h
      simp only [go_sem, c_unroll_Trace_l1, c_unroll_Trace_l2, c_unroll_Trace_p1, *]
    ·cases h
     simp only [go_sem, c_unroll_Trace_l1, c_unroll_Trace_l2, c_unroll_Trace_p1, *]
   ·intro e τ hJ
    obtain ⟨rfl, f45, f46, f47, f48, f49, f50, f51, f52, f53, f54, f55, f56, f57, f58, f59, f60, f61, f62, f63, f64, f65, f66, f67, f68, f69⟩ := hJ
    replace h := itb h; rcases h with ⟨c8, h⟩ | ⟨c8, h⟩
    ·cases h
     simp only [go_sem, LQ_inr, J_unroll_Trace_L1, c_unroll_Trace_l1, c_unroll_Trace_l2, *]
    ·cases h
     simp only [go_sem, LQ_inl, I_unroll_Trace_L1, c_unroll_Trace_l1, c_unroll_Trace_l2, *]
  ·cases h
   simp only [go_sem, LQ_inr, J_unroll_Trace_L1, c_unroll_Trace_l1, c_unroll_Trace_l2, *]
) h hI hQ
noncomputable def b_unroll_Trace_L0 (p0 : S_Circuit) (p1 : S_Cnf) (p2 : (List Bool)) (r0 : Int × Int) (s0 : Int) : Option ((Int) ⊕ ((Unit) ⊕ (Unit))) :=
 if (decide (s0 < (p1.Lits.length : Int))) = true then
  (idx p1.Lits s0).bind fun x0 =>
  if ((x0.length : Int) != (IntKind.wrap .i64 (r0.1 + 1))) = true then
   some (Sum.inr (Sum.inr ()))
  else
   (Lp (b_unroll_Trace_L1 p0 p1 p2 r0 s0 x0) 1).bind fun x1 =>
   match x1 with
   | .inl x1' =>
    some (Sum.inl (IntKind.wrap .i64 (s0 + 1)))
   | .inr x1' =>
    some (Sum.inr (Sum.inr ()))
 else
  some (Sum.inr (Sum.inl ()))
def I_unroll_Trace_L0 (p0 : S_Circuit) (p1 : S_Cnf) (p2 : (List Bool)) (r0 : Int × Int) (s0 : Int) (σ : St) : Prop := σ.get 2 = (.d false (.lst 1 (p2.map eB))) ∧ σ.get 3 = (.ptr 0 0 0) ∧ σ.get 4 = (.ptr 0 1 0) ∧ σ.get 6 = (.ptr 0 2 0) ∧ σ.get 8 = (.d true (.int .i64 r0.1)) ∧ σ.get 11 = (.d true (.int .i64 (IntKind.wrap .i64 (1 + p0.Inputs)))) ∧ σ.get 45 = (.d false (.lst 1 (p1.Lits.map (eL 1 eI)))) ∧ σ.get 46 = (.d true (.int .i64 (p1.Lits.length : Int))) ∧ σ.get 47 = (.d true (.int .i64 s0)) ∧ σ.obj 0 0 = oB0 p0 ∧ σ.obj 0 1 = oB10 p1 ∧ σ.obj 0 2 = oB12 (([] : List Bool).length) (([] : List (List Bool)).length) ∧ σ.obj 0 3 = some (.rw 1 (([] : List Bool).map eB) false) ∧ σ.obj 0 4 = some (.rw 1 (([] : List (List Bool)).map (eL 1 eB)) false) ∧ σ.obj 0 5 = none ∧ σ.obj 0 6 = none ∧ σ.obj 0 7 = none ∧ σ.obj 0 9 = none ∧ σ.obj 0 12 = none ∧ σ.obj 0 14 = none ∧ σ.up.length = 0
def J_unroll_Trace_L0 (p0 : S_Circuit) (p1 : S_Cnf) (p2 : (List Bool)) (r0 : Int × Int) (r : (Unit) ⊕ (Unit)) (e : Ex) (σ' : St) : Prop := (Sum.elim (fun o0 => e = (.exit 0) ∧ σ'.get 2 = (.d false (.lst 1 (p2.map eB))) ∧ σ'.get 3 = (.ptr 0 0 0) ∧ σ'.get 4 = (.ptr 0 1 0) ∧ σ'.get 6 = (.ptr 0 2 0) ∧ σ'.get 11 = (.d true (.int .i64 (IntKind.wrap .i64 (1 + p0.Inputs)))) ∧ σ'.obj 0 0 = oB0 p0 ∧ σ'.obj 0 1 = oB10 p1 ∧ σ'.obj 0 2 = oB12 (([] : List Bool).length) (([] : List (List Bool)).length) ∧ σ'.obj 0 3 = some (.rw 1 (([] : List Bool).map eB) false) ∧ σ'.obj 0 4 = some (.rw 1 (([] : List (List Bool)).map (eL 1 eB)) false) ∧ σ'.obj 0 5 = none ∧ σ'.obj 0 6 = none ∧ σ'.obj 0 7 = none ∧ σ'.obj 0 9 = none ∧ σ'.obj 0 12 = none ∧ σ'.obj 0 14 = none ∧ σ'.up.length = 0) (fun o1 => e = .ret ∧ σ'.get 6 = (.ptr 0 2 0) ∧ σ'.get 7 = (.d true (.int .i64 8)) ∧ σ'.obj 0 2 = oB13 ∧ σ'.obj 0 5 = none ∧ σ'.obj 0 6 = none ∧ σ'.obj 0 7 = none ∧ σ'.obj 0 9 = none ∧ σ'.obj 0 12 = none ∧ σ'.obj 0 14 = none ∧ σ'.up.length = 0)) r
theorem L_unroll_Trace_L0 (p0 : S_Circuit) (p1 : S_Cnf) (p2 : (List Bool)) (r0 : Int × Int) {s : Int} {r : (Unit) ⊕ (Unit)} (h : Lp (b_unroll_Trace_L0 p0 p1 p2 r0) s = some r) {σ : St} {Q : Ex → St → Prop} (hI : I_unroll_Trace_L0 p0 p1 p2 r0 s σ) (hQ : ∀ e σ', J_unroll_Trace_L0 p0 p1 p2 r0 r e σ' → Q e σ') : WC env (.loop c_unroll_Trace_l2) σ Q :=
 WC_Lp (I_unroll_Trace_L0 p0 p1 p2 r0) (J_unroll_Trace_L0 p0 p1 p2 r0) (by
  clear h hI hQ
  clear s r σ Q
  intro s0 σ x hI h
  obtain ⟨f0, f1, f2, f3, f4, f5, f6, f7, f8, f9, f10, f11, f12, f13, f14, f15, f16, f17, f18, f19, f20⟩ := hI
  unfold b_unroll_Trace_L0 at h
  replace h := itb h; rcases h with ⟨c3, h⟩ | ⟨c3, h⟩
  ·replace h := bsome h; obtain ⟨x0, H2, h⟩ := h
   have n0 := idx_n H2; have q0 := idx_q H2; have y0 := idx_x H2
   replace h := itb h; rcases h with ⟨c4, h⟩ | ⟨c4, h⟩
   ·cases h
    simp only [go_sem, LQ_inr, J_unroll_Trace_L0, c_unroll_Trace_l2, *]
   ·replace h := bsome h; obtain ⟨x1, H3, h⟩ := h
    try simp only [go_sem, c_unroll_Trace_l2, *]
    refine L_unroll_Trace_L1 p0 p1 p2 r0 s0 x0 H3 ?_ ?_
    ·clear h
     simp only [go_sem, I_unroll_Trace_L1, c_unroll_Trace_l2, *]
    ·intro e τ hJ
     rcases x1 with x1' | x1'
     ·obtain ⟨rfl, f21, f22, f23, f24, f25, f26, f27, f28, f29, f30, f31, f32, f33, f34, f35, f36, f37, f38, f39, f40, f41⟩ := hJ
      cases h
      simp only [go_sem, LQ_inl, I_unroll_Trace_L0, c_unroll_Trace_l2, *]
     ·obtain ⟨rfl, f42, f43, f44, f45, f46, f47, f48, f49, f50, f51⟩ := hJ
      cases h
      simp only [go_sem, LQ_inr, J_unroll_Trace_L0, c_unroll_Trace_l2, *]
  ·cases h
   simp only [go_sem, LQ_inr, J_unroll_Trace_L0, c_unroll_Trace_l2, *]
) h hI hQ
noncomputable def b_unroll_Trace_L2 (p0 : S_Circuit) (p1 : S_Cnf) (p2 : (List Bool)) (s2 : (List Bool) × Int) : Option (((List Bool) × Int) ⊕ ((List Bool))) :=
 if (decide (s2.2 < (p0.Latches.length : Int))) = true then
  (idx p1.Lits 0).bind fun x1 =>
  (idx x1 (IntKind.wrap .i64 ((IntKind.wrap .i64 (1 + p0.Inputs)) + s2.2))).bind fun x2 =>
  (s_unroll_value x2 p2).bind fun r2 =>
  if s2.1.length + 1 ≤ big then
   some (Sum.inl ((s2.1 ++ ([r2] : List Bool)), (IntKind.wrap .i64 (s2.2 + 1))))
  else none
 else
  some (Sum.inr s2.1)
def I_unroll_Trace_L2 (p0 : S_Circuit) (p1 : S_Cnf) (p2 : (List Bool)) (s2 : (List Bool) × Int) (σ : St) : Prop := σ.get 2 = (.d false (.lst 1 (p2.map eB))) ∧ σ.get 4 = (.ptr 0 1 0) ∧ σ.get 6 = (.ptr 0 2 0) ∧ σ.get 11 = (.d true (.int .i64 (IntKind.wrap .i64 (1 + p0.Inputs)))) ∧ σ.get 15 = (.ptr 0 5 0) ∧ σ.get 91 = (.d true (.int .i64 (p0.Latches.length : Int))) ∧ σ.get 92 = (.d true (.int .i64 s2.2)) ∧ σ.obj 0 1 = oB10 p1 ∧ σ.obj 0 2 = oB12 (([] : List Bool).length) (([] : List (List Bool)).length) ∧ σ.obj 0 3 = some (.rw 1 (([] : List Bool).map eB) false) ∧ σ.obj 0 4 = some (.rw 1 (([] : List (List Bool)).map (eL 1 eB)) false) ∧ σ.obj 0 5 = oB14 s2.1.length (([] : List (List Bool)).length) ∧ (∃ gr_0_6, σ.obj 0 6 = some (.rw 1 (s2.1.map eB) gr_0_6)) ∧ σ.obj 0 7 = some (.rw 1 (([] : List (List Bool)).map (eL 1 eB)) false) ∧ σ.obj 0 9 = none ∧ σ.obj 0 12 = none ∧ σ.obj 0 14 = none ∧ σ.up.length = 0
def J_unroll_Trace_L2 (p0 : S_Circuit) (p1 : S_Cnf) (p2 : (List Bool)) (r : (List Bool)) (e : Ex) (σ' : St) : Prop := e = (.exit 4) ∧ σ'.get 2 = (.d false (.lst 1 (p2.map eB))) ∧ σ'.get 4 = (.ptr 0 1 0) ∧ σ'.get 6 = (.ptr 0 2 0) ∧ σ'.get 11 = (.d true (.int .i64 (IntKind.wrap .i64 (1 + p0.Inputs)))) ∧ σ'.get 15 = (.ptr 0 5 0) ∧ σ'.obj 0 1 = oB10 p1 ∧ σ'.obj 0 2 = oB12 (([] : List Bool).length) (([] : List (List Bool)).length) ∧ σ'.obj 0 3 = some (.rw 1 (([] : List Bool).map eB) false) ∧ σ'.obj 0 4 = some (.rw 1 (([] : List (List Bool)).map (eL 1 eB)) false) ∧ σ'.obj 0 5 = oB14 r.length (([] : List (List Bool)).length) ∧ (∃ gr_0_6, σ'.obj 0 6 = some (.rw 1 (r.map eB) gr_0_6)) ∧ σ'.obj 0 7 = some (.rw 1 (([] : List (List Bool)).map (eL 1 eB)) false) ∧ σ'.obj 0 9 = none ∧ σ'.obj 0 12 = none ∧ σ'.obj 0 14 = none ∧ σ'.up.length = 0
theorem L_unroll_Trace_L2 (p0 : S_Circuit) (p1 : S_Cnf) (p2 : (List Bool)) {s : (List Bool) × Int} {r : (List Bool)} (h : Lp (b_unroll_Trace_L2 p0 p1 p2) s = some r) {σ : St} {Q : Ex → St → Prop} (hI : I_unroll_Trace_L2 p0 p1 p2 s σ) (hQ : ∀ e σ', J_unroll_Trace_L2 p0 p1 p2 r e σ' → Q e σ') : WC env (.loop c_unroll_Trace_l3) σ Q :=
 WC_Lp (I_unroll_Trace_L2 p0 p1 p2) (J_unroll_Trace_L2 p0 p1 p2) (by
  clear h hI hQ
  clear s r σ Q
  intro s2 σ x hI h
  obtain ⟨f17, f18, f19, f20, f21, f22, f23, f24, f25, f26, f27, f28, ⟨gr_0_6, f29⟩, f30, f31, f32, f33, f34⟩ := hI
  unfold b_unroll_Trace_L2 at h
  replace h := itb h; rcases h with ⟨c4, h⟩ | ⟨c4, h⟩
  ·replace h := bsome h; obtain ⟨x1, H3, h⟩ := h
   have n0 := idx_n H3; have q0 := idx_q H3; have y0 := idx_x H3
   simp only [Int.toNat_zero] at n0 q0 y0
   replace h := bsome h; obtain ⟨x2, H4, h⟩ := h
   have n1 := idx_n H4; have q1 := idx_q H4; have y1 := idx_x H4
   replace h := bsome h; obtain ⟨r2, H5, h⟩ := h
   have k2 := AtCall_all (s_unroll_value_ok H5); try dsimp only at k2
   replace h := need h; obtain ⟨H6, h⟩ := h
   cases h
   simp only [go_sem, LQ_inl, I_unroll_Trace_L2, c_unroll_Trace_l3, *]
  ·cases h
   simp only [go_sem, LQ_inr, J_unroll_Trace_L2, c_unroll_Trace_l3, *]
) h hI hQ
noncomputable def b_unroll_Trace_L4 (p0 : S_Circuit) (p1 : S_Cnf) (p2 : (List Bool)) (x1 : (List Bool)) (s3 : (List (List Bool)) × Int) (x2 : (List Int)) (s4 : (List Bool) × Int) : Option (((List Bool) × Int) ⊕ ((List Bool))) :=
 if (decide (s4.2 < (IntKind.wrap .i64 (1 + p0.Inputs)))) = true then
  (idx x2 s4.2).bind fun x3 =>
  (s_unroll_value x3 p2).bind fun r2 =>
  if s4.1.length + 1 ≤ big then
   some (Sum.inl ((s4.1 ++ ([r2] : List Bool)), (IntKind.wrap .i64 (s4.2 + 1))))
  else none
 else
  some (Sum.inr s4.1)
def I_unroll_Trace_L4 (p0 : S_Circuit) (p1 : S_Cnf) (p2 : (List Bool)) (x1 : (List Bool)) (s3 : (List (List Bool)) × Int) (x2 : (List Int)) (s4 : (List Bool) × Int) (σ : St) : Prop := σ.get 2 = (.d false (.lst 1 (p2.map eB))) ∧ σ.get 6 = (.ptr 0 2 0) ∧ σ.get 11 = (.d true (.int .i64 (IntKind.wrap .i64 (1 + p0.Inputs)))) ∧ σ.get 15 = (.ptr 0 5 0) ∧ σ.get 18 = (.d true (.lst 1 (x2.map eI))) ∧ σ.get 19 = (.row 0 10 0 s4.1.length 1) ∧ σ.get 20 = (.d true (.int .i64 s4.2)) ∧ σ.get 113 = (.d false (.lst 1 (p1.Lits.map (eL 1 eI)))) ∧ σ.get 114 = (.d true (.int .i64 (p1.Lits.length : Int))) ∧ σ.get 115 = (.d true (.int .i64 s3.2)) ∧ σ.obj 0 2 = oB12 (([] : List Bool).length) (([] : List (List Bool)).length) ∧ σ.obj 0 3 = some (.rw 1 (([] : List Bool).map eB) false) ∧ σ.obj 0 4 = some (.rw 1 (([] : List (List Bool)).map (eL 1 eB)) false) ∧ σ.obj 0 5 = oB14 x1.length s3.1.length ∧ (∃ gr_0_6, σ.obj 0 6 = some (.rw 1 (x1.map eB) gr_0_6)) ∧ (∃ gr_0_7, σ.obj 0 7 = some (.rw 1 (s3.1.map (eL 1 eB)) gr_0_7)) ∧ (∃ gr_0_10, σ.obj 0 10 = some (.rw 1 (s4.1.map eB) gr_0_10)) ∧ σ.obj 0 9 = none ∧ σ.obj 0 12 = none ∧ σ.obj 0 14 = none ∧ σ.up.length = 0
def J_unroll_Trace_L4 (p0 : S_Circuit) (p1 : S_Cnf) (p2 : (List Bool)) (x1 : (List Bool)) (s3 : (List (List Bool)) × Int) (x2 : (List Int)) (r : (List Bool)) (e : Ex) (σ' : St) : Prop := e = (.exit 8) ∧ σ'.get 2 = (.d false (.lst 1 (p2.map eB))) ∧ σ'.get 6 = (.ptr 0 2 0) ∧ σ'.get 11 = (.d true (.int .i64 (IntKind.wrap .i64 (1 + p0.Inputs)))) ∧ σ'.get 15 = (.ptr 0 5 0) ∧ σ'.get 19 = (.row 0 10 0 r.length 1) ∧ σ'.get 113 = (.d false (.lst 1 (p1.Lits.map (eL 1 eI)))) ∧ σ'.get 114 = (.d true (.int .i64 (p1.Lits.length : Int))) ∧ σ'.get 115 = (.d true (.int .i64 s3.2)) ∧ σ'.obj 0 2 = oB12 (([] : List Bool).length) (([] : List (List Bool)).length) ∧ σ'.obj 0 3 = some (.rw 1 (([] : List Bool).map eB) false) ∧ σ'.obj 0 4 = some (.rw 1 (([] : List (List Bool)).map (eL 1 eB)) false) ∧ σ'.obj 0 5 = oB14 x1.length s3.1.length ∧ (∃ gr_0_6, σ'.obj 0 6 = some (.rw 1 (x1.map eB) gr_0_6)) ∧ (∃ gr_0_7, σ'.obj 0 7 = some (.rw 1 (s3.1.map (eL 1 eB)) gr_0_7)) ∧ (∃ gr_0_10, σ'.obj 0 10 = some (.rw 1 (r.map eB) gr_0_10)) ∧ σ'.obj 0 9 = none ∧ σ'.obj 0 12 = none ∧ σ'.obj 0 14 = none ∧ σ'.up.length = 0
theorem L_unroll_Trace_L4 (p0 : S_Circuit) (p1 : S_Cnf) (p2 : (List Bool)) (x1 : (List Bool)) (s3 : (List (List Bool)) × Int) (x2 : (List Int)) {s : (List Bool) × Int} {r : (List Bool)} (h : Lp (b_unroll_Trace_L4 p0 p1 p2 x1 s3 x2) s = some r) {σ : St} {Q : Ex → St → Prop} (hI : I_unroll_Trace_L4 p0 p1 p2 x1 s3 x2 s σ) (hQ : ∀ e σ', J_unroll_Trace_L4 p0 p1 p2 x1 s3 x2 r e σ' → Q e σ') : WC env (.loop c_unroll_Trace_l4) σ Q :=
 WC_Lp (I_unroll_Trace_L4 p0 p1 p2 x1 s3 x2) (J_unroll_Trace_L4 p0 p1 p2 x1 s3 x2) (by
  clear h hI hQ
  clear s r σ Q
  intro s4 σ x hI h
  obtain ⟨f50, f51, f52, f53, f54, f55, f56, f57, f58, f59, f60, f61, f62, f63, ⟨gr_0_6, f64⟩, ⟨gr_0_7, f65⟩, ⟨gr_0_10, f66⟩, f67, f68, f69, f70⟩ := hI
  unfold b_unroll_Trace_L4 at h
  replace h := itb h; rcases h with ⟨c5, h⟩ | ⟨c5, h⟩
  ·replace h := bsome h; obtain ⟨x3, H5, h⟩ := h
   have n1 := idx_n H5; have q1 := idx_q H5; have y1 := idx_x H5
   replace h := bsome h; obtain ⟨r2, H6, h⟩ := h
   have k2 := AtCall_all (s_unroll_value_ok H6); try dsimp only at k2
   replace h := need h; obtain ⟨H7, h⟩ := h
   cases h
   simp only [go_sem, LQ_inl, I_unroll_Trace_L4, c_unroll_Trace_l4, c_unroll_Trace_l5, *]
  ·cases h
   simp only [go_sem, LQ_inr, J_unroll_Trace_L4, c_unroll_Trace_l4, c_unroll_Trace_l5, *]
) h hI hQ
noncomputable def b_unroll_Trace_L3 (p0 : S_Circuit) (p1 : S_Cnf) (p2 : (List Bool)) (x1 : (List Bool)) (s3 : (List (List Bool)) × Int) : Option (((List (List Bool)) × Int) ⊕ ((List (List Bool)))) :=
 if (decide (s3.2 < (p1.Lits.length : Int))) = true then
  (idx p1.Lits s3.2).bind fun x2 =>
  (Lp (b_unroll_Trace_L4 p0 p1 p2 x1 s3 x2) (([] : List Bool), 1)).bind fun x3 =>
  if s3.1.length + 1 ≤ big then
   some (Sum.inl ((s3.1 ++ ([x3] : List (List Bool))), (IntKind.wrap .i64 (s3.2 + 1))))
  else none
 else
  some (Sum.inr s3.1)
def I_unroll_Trace_L3 (p0 : S_Circuit) (p1 : S_Cnf) (p2 : (List Bool)) (x1 : (List Bool)) (s3 : (List (List Bool)) × Int) (σ : St) : Prop := σ.get 2 = (.d false (.lst 1 (p2.map eB))) ∧ σ.get 6 = (.ptr 0 2 0) ∧ σ.get 11 = (.d true (.int .i64 (IntKind.wrap .i64 (1 + p0.Inputs)))) ∧ σ.get 15 = (.ptr 0 5 0) ∧ σ.get 113 = (.d false (.lst 1 (p1.Lits.map (eL 1 eI)))) ∧ σ.get 114 = (.d true (.int .i64 (p1.Lits.length : Int))) ∧ σ.get 115 = (.d true (.int .i64 s3.2)) ∧ σ.obj 0 2 = oB12 (([] : List Bool).length) (([] : List (List Bool)).length) ∧ σ.obj 0 3 = some (.rw 1 (([] : List Bool).map eB) false) ∧ σ.obj 0 4 = some (.rw 1 (([] : List (List Bool)).map (eL 1 eB)) false) ∧ σ.obj 0 5 = oB14 x1.length s3.1.length ∧ (∃ gr_0_6, σ.obj 0 6 = some (.rw 1 (x1.map eB) gr_0_6)) ∧ (∃ gr_0_7, σ.obj 0 7 = some (.rw 1 (s3.1.map (eL 1 eB)) gr_0_7)) ∧ σ.obj 0 9 = none ∧ σ.obj 0 12 = none ∧ σ.obj 0 14 = none ∧ σ.up.length = 0
def J_unroll_Trace_L3 (p0 : S_Circuit) (p1 : S_Cnf) (p2 : (List Bool)) (x1 : (List Bool)) (r : (List (List Bool))) (e : Ex) (σ' : St) : Prop := e = (.exit 6) ∧ σ'.get 6 = (.ptr 0 2 0) ∧ σ'.get 15 = (.ptr 0 5 0) ∧ σ'.obj 0 2 = oB12 (([] : List Bool).length) (([] : List (List Bool)).length) ∧ σ'.obj 0 3 = some (.rw 1 (([] : List Bool).map eB) false) ∧ σ'.obj 0 4 = some (.rw 1 (([] : List (List Bool)).map (eL 1 eB)) false) ∧ σ'.obj 0 5 = oB14 x1.length r.length ∧ (∃ gr_0_6, σ'.obj 0 6 = some (.rw 1 (x1.map eB) gr_0_6)) ∧ (∃ gr_0_7, σ'.obj 0 7 = some (.rw 1 (r.map (eL 1 eB)) gr_0_7)) ∧ σ'.obj 0 9 = none ∧ σ'.obj 0 12 = none ∧ σ'.obj 0 14 = none ∧ σ'.up.length = 0
theorem L_unroll_Trace_L3 (p0 : S_Circuit) (p1 : S_Cnf) (p2 : (List Bool)) (x1 : (List Bool)) {s : (List (List Bool)) × Int} {r : (List (List Bool))} (h : Lp (b_unroll_Trace_L3 p0 p1 p2 x1) s = some r) {σ : St} {Q : Ex → St → Prop} (hI : I_unroll_Trace_L3 p0 p1 p2 x1 s σ) (hQ : ∀ e σ', J_unroll_Trace_L3 p0 p1 p2 x1 r e σ' → Q e σ') : WC env (.loop c_unroll_Trace_l5) σ Q :=
 WC_Lp (I_unroll_Trace_L3 p0 p1 p2 x1) (J_unroll_Trace_L3 p0 p1 p2 x1) (by
  clear h hI hQ
  clear s r σ Q
  intro s3 σ x hI h
  obtain ⟨f33, f34, f35, f36, f37, f38, f39, f40, f41, f42, f43, ⟨gr_0_6, f44⟩, ⟨gr_0_7, f45⟩, f46, f47, f48, f49⟩ := hI
  unfold b_unroll_Trace_L3 at h
  replace h := itb h; rcases h with ⟨c4, h⟩ | ⟨c4, h⟩
  ·replace h := bsome h; obtain ⟨x2, H4, h⟩ := h
   have n0 := idx_n H4; have q0 := idx_q H4; have y0 := idx_x H4
   replace h := bsome h; obtain ⟨x3, H5, h⟩ := h
   try simp only [go_sem, c_unroll_Trace_l5, *]
   refine L_unroll_Trace_L4 p0 p1 p2 x1 s3 x2 H5 ?_ ?_
   ·clear h
    simp only [go_sem, I_unroll_Trace_L4, c_unroll_Trace_l5, *]
   ·intro e τ hJ
    obtain ⟨rfl, f50, f51, f52, f53, f54, f55, f56, f57, f58, f59, f60, f61, ⟨gr_0_6, f62⟩, ⟨gr_0_7, f63⟩, ⟨gr_0_10, f64⟩, f65, f66, f67, f68⟩ := hJ
    replace h := need h; obtain ⟨H6, h⟩ := h
    cases h
    simp only [go_sem, LQ_inl, I_unroll_Trace_L3, c_unroll_Trace_l5, *]
  ·cases h
   simp only [go_sem, LQ_inr, J_unroll_Trace_L3, c_unroll_Trace_l5, *]
) h hI hQ
noncomputable def s_unroll_Trace (p0 : S_Circuit) (p1 : S_Cnf) (p2 : (List Bool)) : Option (S_Trace × Int) :=
 (s_gates_Vars p0).bind fun r0 =>
 if (r0.2 != 0) = true then
  some ((S_Trace.mk ([] : List Bool) ([] : List (List Bool))), r0.2)
 else
  (s_tseitin_Check p1).bind fun r1 =>
  if (r1 != 0) = true then
   some ((S_Trace.mk ([] : List Bool) ([] : List (List Bool))), r1)
  else
   if ((p1.Lits.length : Int) == 0) = true then
    some ((S_Trace.mk ([] : List Bool) ([] : List (List Bool))), 8)
   else
    (Lp (b_unroll_Trace_L0 p0 p1 p2 r0) 0).bind fun x0 =>
    match x0 with
    | .inl x0' =>
     if ((p2.length : Int) != p1.Vars) = true then
      some ((S_Trace.mk ([] : List Bool) ([] : List (List Bool))), 2)
     else
      (Lp (b_unroll_Trace_L2 p0 p1 p2) (([] : List Bool), 0)).bind fun x1 =>
      (Lp (b_unroll_Trace_L3 p0 p1 p2 x1) (([] : List (List Bool)), 0)).bind fun x2 =>
      some ((S_Trace.mk x1 x2), 0)
    | .inr x0' =>
     some ((S_Trace.mk ([] : List Bool) ([] : List (List Bool))), 8)
theorem s_unroll_Trace_ok {p0 : S_Circuit} {p1 : S_Cnf} {p2 : (List Bool)} {r : S_Trace × Int} (h : s_unroll_Trace p0 p1 p2 = some r) : Ans env k_unroll_Trace [(.ag [(.d true (.int .i64 p0.Inputs)), (.d false (.lst 2 (p0.Latches.map eS_Latch))), (.d false (.lst 2 (p0.Ands.map eS_And))), (.d false (.lst 1 (p0.Bads.map eI))), (.d false (.lst 1 (p0.Constraints.map eI)))]), (.ag [(.d true (.int .i64 p1.Vars)), (.d false (.lst 1 (p1.Lits.map (eL 1 eI)))), (.d false (.lst 1 (p1.Clauses.map (eL 1 eI))))]), (.d false (.lst 1 (p2.map eB)))] (.tp [(.ag [(.d true (.lst 1 (r.1.First.map eB))), (.d true (.lst 1 (r.1.Inputs.map (eL 1 eB))))]), (.d true (.int .i64 r.2))]) := by
 unfold s_unroll_Trace at h
 unfold Ans
 rw [AtF fn_unroll_Trace]
 simp only [n_unroll_Trace]
 replace h := bsome h; obtain ⟨r0, H0, h⟩ := h
 have k0 := AtCall_all (s_gates_Vars_ok H0); try dsimp only at k0
 replace h := itb h; rcases h with ⟨c0, h⟩ | ⟨c0, h⟩
 ·cases h
  simp only [go_sem, *]
  exact ⟨_, rfl⟩
 ·replace h := bsome h; obtain ⟨r1, H1, h⟩ := h
  have k1 := AtCall_all (s_tseitin_Check_ok H1); try dsimp only at k1
  replace h := itb h; rcases h with ⟨c1, h⟩ | ⟨c1, h⟩
  ·cases h
   simp only [go_sem, *]
   exact ⟨_, rfl⟩
  ·replace h := itb h; rcases h with ⟨c2, h⟩ | ⟨c2, h⟩
   ·cases h
    simp only [go_sem, *]
    exact ⟨_, rfl⟩
   ·replace h := bsome h; obtain ⟨x0, H2, h⟩ := h
    try simp only [go_sem, *]
    refine L_unroll_Trace_L0 p0 p1 p2 r0 H2 ?_ ?_
    ·clear h
     simp only [go_sem, I_unroll_Trace_L0, *]
    ·intro e τ hJ
     rcases x0 with x0' | x0'
     ·obtain ⟨rfl, f0, f1, f2, f3, f4, f5, f6, f7, f8, f9, f10, f11, f12, f13, f14, f15, f16⟩ := hJ
      replace h := itb h; rcases h with ⟨c3, h⟩ | ⟨c3, h⟩
      ·cases h
       simp only [go_sem, *]
       exact ⟨_, rfl⟩
      ·replace h := bsome h; obtain ⟨x1, H3, h⟩ := h
       try simp only [go_sem, *]
       refine L_unroll_Trace_L2 p0 p1 p2 H3 ?_ ?_
       ·clear h
        simp only [go_sem, I_unroll_Trace_L2, *]
       ·intro e τ hJ
        obtain ⟨rfl, f17, f18, f19, f20, f21, f22, f23, f24, f25, f26, ⟨gr_0_6, f27⟩, f28, f29, f30, f31, f32⟩ := hJ
        replace h := bsome h; obtain ⟨x2, H4, h⟩ := h
        try simp only [go_sem, *]
        refine L_unroll_Trace_L3 p0 p1 p2 x1 H4 ?_ ?_
        ·clear h
         simp only [go_sem, I_unroll_Trace_L3, *]
        ·intro e τ hJ
         obtain ⟨rfl, f33, f34, f35, f36, f37, f38, ⟨gr_0_6, f39⟩, ⟨gr_0_7, f40⟩, f41, f42, f43, f44⟩ := hJ
         cases h
         simp only [go_sem, *]
         exact ⟨_, rfl⟩
     ·obtain ⟨rfl, f45, f46, f47, f48, f49, f50, f51, f52, f53, f54⟩ := hJ
      cases h
      simp only [go_sem, *]
      exact ⟨_, rfl⟩
def b_ref04_Same_L0 (p0 : (List Bool)) (p1 : (List Bool)) (s0 : Int) : Option ((Int) ⊕ ((Unit) ⊕ (Unit))) :=
 if (decide (s0 < (p0.length : Int))) = true then
  (idx p0 s0).bind fun x0 =>
  (idx p1 s0).bind fun x1 =>
  if ((x0 == x1) != true) = true then
   some (Sum.inr (Sum.inr ()))
  else
   some (Sum.inl (IntKind.wrap .i64 (s0 + 1)))
 else
  some (Sum.inr (Sum.inl ()))
def I_ref04_Same_L0 (p0 : (List Bool)) (p1 : (List Bool)) (s0 : Int) (σ : St) : Prop := σ.get 0 = (.d false (.lst 1 (p0.map eB))) ∧ σ.get 1 = (.d false (.lst 1 (p1.map eB))) ∧ σ.get 5 = (.d true (.int .i64 s0)) ∧ σ.up.length = 0
def J_ref04_Same_L0 (p0 : (List Bool)) (p1 : (List Bool)) (r : (Unit) ⊕ (Unit)) (e : Ex) (σ' : St) : Prop := (Sum.elim (fun o0 => e = (.exit 0) ∧ σ'.up.length = 0) (fun o1 => e = .ret ∧ σ'.get 4 = (.d true (.bool false)) ∧ σ'.up.length = 0)) r
theorem L_ref04_Same_L0 (p0 : (List Bool)) (p1 : (List Bool)) {s : Int} {r : (Unit) ⊕ (Unit)} (h : Lp (b_ref04_Same_L0 p0 p1) s = some r) {σ : St} {Q : Ex → St → Prop} (hI : I_ref04_Same_L0 p0 p1 s σ) (hQ : ∀ e σ', J_ref04_Same_L0 p0 p1 r e σ' → Q e σ') : WC env (.loop c_ref04_Same_l1) σ Q :=
 WC_Lp (I_ref04_Same_L0 p0 p1) (J_ref04_Same_L0 p0 p1) (by
  clear h hI hQ
  clear s r σ Q
  intro s0 σ x hI h
  obtain ⟨f0, f1, f2, f3⟩ := hI
  unfold b_ref04_Same_L0 at h
  replace h := itb h; rcases h with ⟨c1, h⟩ | ⟨c1, h⟩
  ·replace h := bsome h; obtain ⟨x0, H0, h⟩ := h
   have n0 := idx_n H0; have q0 := idx_q H0; have y0 := idx_x H0
   replace h := bsome h; obtain ⟨x1, H1, h⟩ := h
   have n1 := idx_n H1; have q1 := idx_q H1; have y1 := idx_x H1
   replace h := itb h; rcases h with ⟨c2, h⟩ | ⟨c2, h⟩
   ·cases h
    simp only [go_sem, LQ_inr, J_ref04_Same_L0, c_ref04_Same_l1, *]
   ·cases h
    simp only [go_sem, LQ_inl, I_ref04_Same_L0, c_ref04_Same_l1, *]
  ·cases h
   simp only [go_sem, LQ_inr, J_ref04_Same_L0, c_ref04_Same_l1, *]
) h hI hQ
noncomputable def s_ref04_Same (p0 : (List Bool)) (p1 : (List Bool)) : Option (Bool) :=
 if ((p0.length : Int) != (p1.length : Int)) = true then
  some false
 else
  (Lp (b_ref04_Same_L0 p0 p1) 0).bind fun x0 =>
  match x0 with
  | .inl x0' =>
   some true
  | .inr x0' =>
   some false
theorem s_ref04_Same_ok {p0 : (List Bool)} {p1 : (List Bool)} {r : Bool} (h : s_ref04_Same p0 p1 = some r) : Ans env k_ref04_Same [(.d false (.lst 1 (p0.map eB))), (.d false (.lst 1 (p1.map eB)))] (.d true (.bool r)) := by
 unfold s_ref04_Same at h
 unfold Ans
 rw [AtF fn_ref04_Same]
 simp only [n_ref04_Same]
 replace h := itb h; rcases h with ⟨c0, h⟩ | ⟨c0, h⟩
 ·cases h
  simp only [go_sem, *]
  exact ⟨_, rfl⟩
 ·replace h := bsome h; obtain ⟨x0, H0, h⟩ := h
  try simp only [go_sem, *]
  refine L_ref04_Same_L0 p0 p1 H0 ?_ ?_
  ·clear h
   simp only [go_sem, I_ref04_Same_L0, *]
  ·intro e τ hJ
   rcases x0 with x0' | x0'
   ·obtain ⟨rfl, f0⟩ := hJ
    cases h
    simp only [go_sem, *]
    exact ⟨_, rfl⟩
   ·obtain ⟨rfl, f1, f2⟩ := hJ
    cases h
    simp only [go_sem, *]
    exact ⟨_, rfl⟩
noncomputable def b_ref06_SameAll_L0 (p0 : (List (List Bool))) (p1 : (List (List Bool))) (s0 : Int) : Option ((Int) ⊕ ((Unit) ⊕ (Unit))) :=
 if (decide (s0 < (p0.length : Int))) = true then
  (idx p0 s0).bind fun x0 =>
  (idx p1 s0).bind fun x1 =>
  (s_ref04_Same x0 x1).bind fun r0 =>
  if r0 = true then
   some (Sum.inl (IntKind.wrap .i64 (s0 + 1)))
  else
   some (Sum.inr (Sum.inr ()))
 else
  some (Sum.inr (Sum.inl ()))
def I_ref06_SameAll_L0 (p0 : (List (List Bool))) (p1 : (List (List Bool))) (s0 : Int) (σ : St) : Prop := σ.get 0 = (.d false (.lst 1 (p0.map (eL 1 eB)))) ∧ σ.get 1 = (.d false (.lst 1 (p1.map (eL 1 eB)))) ∧ σ.get 5 = (.d true (.int .i64 s0)) ∧ σ.up.length = 0
def J_ref06_SameAll_L0 (p0 : (List (List Bool))) (p1 : (List (List Bool))) (r : (Unit) ⊕ (Unit)) (e : Ex) (σ' : St) : Prop := (Sum.elim (fun o0 => e = (.exit 0) ∧ σ'.up.length = 0) (fun o1 => e = .ret ∧ σ'.get 4 = (.d true (.bool false)) ∧ σ'.up.length = 0)) r
theorem L_ref06_SameAll_L0 (p0 : (List (List Bool))) (p1 : (List (List Bool))) {s : Int} {r : (Unit) ⊕ (Unit)} (h : Lp (b_ref06_SameAll_L0 p0 p1) s = some r) {σ : St} {Q : Ex → St → Prop} (hI : I_ref06_SameAll_L0 p0 p1 s σ) (hQ : ∀ e σ', J_ref06_SameAll_L0 p0 p1 r e σ' → Q e σ') : WC env (.loop c_ref06_SameAll_l1) σ Q :=
 WC_Lp (I_ref06_SameAll_L0 p0 p1) (J_ref06_SameAll_L0 p0 p1) (by
  clear h hI hQ
  clear s r σ Q
  intro s0 σ x hI h
  obtain ⟨f0, f1, f2, f3⟩ := hI
  unfold b_ref06_SameAll_L0 at h
  replace h := itb h; rcases h with ⟨c1, h⟩ | ⟨c1, h⟩
  ·replace h := bsome h; obtain ⟨x0, H0, h⟩ := h
   have n0 := idx_n H0; have q0 := idx_q H0; have y0 := idx_x H0
   replace h := bsome h; obtain ⟨x1, H1, h⟩ := h
   have n1 := idx_n H1; have q1 := idx_q H1; have y1 := idx_x H1
   replace h := bsome h; obtain ⟨r0, H2, h⟩ := h
   have k0 := AtCall_all (s_ref04_Same_ok H2); try dsimp only at k0
   replace h := itb h; rcases h with ⟨c2, h⟩ | ⟨c2, h⟩
   ·cases h
    simp only [go_sem, LQ_inl, I_ref06_SameAll_L0, c_ref06_SameAll_l1, *]
   ·cases h
    simp only [go_sem, LQ_inr, J_ref06_SameAll_L0, c_ref06_SameAll_l1, *]
  ·cases h
   simp only [go_sem, LQ_inr, J_ref06_SameAll_L0, c_ref06_SameAll_l1, *]
) h hI hQ
noncomputable def s_ref06_SameAll (p0 : (List (List Bool))) (p1 : (List (List Bool))) : Option (Bool) :=
 if ((p0.length : Int) != (p1.length : Int)) = true then
  some false
 else
  (Lp (b_ref06_SameAll_L0 p0 p1) 0).bind fun x0 =>
  match x0 with
  | .inl x0' =>
   some true
  | .inr x0' =>
   some false
theorem s_ref06_SameAll_ok {p0 : (List (List Bool))} {p1 : (List (List Bool))} {r : Bool} (h : s_ref06_SameAll p0 p1 = some r) : Ans env k_ref06_SameAll [(.d false (.lst 1 (p0.map (eL 1 eB)))), (.d false (.lst 1 (p1.map (eL 1 eB))))] (.d true (.bool r)) := by
 unfold s_ref06_SameAll at h
 unfold Ans
 rw [AtF fn_ref06_SameAll]
 simp only [n_ref06_SameAll]
 replace h := itb h; rcases h with ⟨c0, h⟩ | ⟨c0, h⟩
 ·cases h
  simp only [go_sem, *]
  exact ⟨_, rfl⟩
 ·replace h := bsome h; obtain ⟨x0, H0, h⟩ := h
  try simp only [go_sem, *]
  refine L_ref06_SameAll_L0 p0 p1 H0 ?_ ?_
  ·clear h
   simp only [go_sem, I_ref06_SameAll_L0, *]
  ·intro e τ hJ
   rcases x0 with x0' | x0'
   ·obtain ⟨rfl, f0⟩ := hJ
    cases h
    simp only [go_sem, *]
    exact ⟨_, rfl⟩
   ·obtain ⟨rfl, f1, f2⟩ := hJ
    cases h
    simp only [go_sem, *]
    exact ⟨_, rfl⟩
noncomputable def s_ref06_Same (p0 : S_Trace) (p1 : S_Trace) : Option (Bool) :=
 ((s_ref04_Same p0.First p1.First).bind fun r0 =>
  if r0 = true then
   (s_ref06_SameAll p0.Inputs p1.Inputs).bind fun r1 =>
   some r1
  else
   some false).bind fun x0 =>
 some x0
theorem s_ref06_Same_ok {p0 : S_Trace} {p1 : S_Trace} {r : Bool} (h : s_ref06_Same p0 p1 = some r) : Ans env k_ref06_Same [(.ag [(.d false (.lst 1 (p0.First.map eB))), (.d false (.lst 1 (p0.Inputs.map (eL 1 eB))))]), (.ag [(.d false (.lst 1 (p1.First.map eB))), (.d false (.lst 1 (p1.Inputs.map (eL 1 eB))))])] (.d true (.bool r)) := by
 unfold s_ref06_Same at h
 unfold Ans
 rw [AtF fn_ref06_Same]
 simp only [n_ref06_Same]
 replace h := bsome h; obtain ⟨x0, H0, h⟩ := h
 try simp only [go_sem, *]
 refine WC.mono (Q := fun e σ' => e = .normal ∧ σ'.get 4 = (.d true (.bool x0)) ∧ σ'.up.length = 0) ?_ ?_
 ·replace h := H0
  clear H0
  replace h := bsome h; obtain ⟨r0, H1, h⟩ := h
  have k0 := AtCall_all (s_ref04_Same_ok H1); try dsimp only at k0
  replace h := itb h; rcases h with ⟨c0, h⟩ | ⟨c0, h⟩
  ·replace h := bsome h; obtain ⟨r1, H2, h⟩ := h
   have k1 := AtCall_all (s_ref06_SameAll_ok H2); try dsimp only at k1
   cases h
   simp only [go_sem, c_ref06_Same_p1, *]
  ·cases h
   simp only [go_sem, c_ref06_Same_p1, *]
 ·intro e τ hJ
  obtain ⟨rfl, f0, f1⟩ := hJ
  cases h
  simp only [go_sem, *]
  exact ⟨_, rfl⟩
noncomputable def s_law23_UnrollRuns (p0 : S_Circuit) (p1 : S_Trace) : Option (Bool) :=
 (s_law23_alive ).bind fun r0 =>
 ((s_law23_great p0).bind fun r1 =>
  if r1 = true then
   some true
  else
   (s_ref02_Check p0).bind fun r2 =>
   if (r2 != 0) = true then
    some true
   else
    if (decide ((p1.Inputs.length : Int) > 8)) = true then
     some true
    else
     (s_ref06_Check p0 p1).bind fun r3 =>
     if (r3 != 0) = true then
      some true
     else
      some (!r0)).bind fun x0 =>
 if x0 = true then
  some r0
 else
  (s_unroll_Of p0 (p1.Inputs.length : Int)).bind fun r4 =>
  (s_traces_States p0 p1).bind fun r5 =>
  (if (r4.2 != 0) = true then
    some true
   else
    if (r5.2 != 0) = true then
     some true
    else
     (s_ref22_Check r4.1).bind fun r6 =>
     if (r6 != 0) = true then
      some true
     else
      if ((r4.1.Lits.length : Int) != (p1.Inputs.length : Int)) = true then
       some true
      else
       some ((r5.1.length : Int) != (p1.Inputs.length : Int))).bind fun x1 =>
  if x1 = true then
   some false
  else
   (s_law23_named p0 r4.1 r5.1 p1.Inputs).bind fun r7 =>
   if r7.2 = true then
    (s_solve_Model r4.1.Vars r4.1.Clauses r7.1).bind fun r8 =>
    (s_unroll_Trace p0 r4.1 r7.1).bind fun r9 =>
    (if r0 = true then
      if (r8.2 == 0) = true then
       if r8.1 = true then
        if (r9.2 == 0) = true then
         (s_ref06_Same r9.1 p1).bind fun r10 =>
         some r10
        else
         some false
       else
        some false
      else
       some false
     else
      some false).bind fun x2 =>
    some x2
   else
    some false
theorem s_law23_UnrollRuns_ok {p0 : S_Circuit} {p1 : S_Trace} {r : Bool} (h : s_law23_UnrollRuns p0 p1 = some r) : AnsL env k_law23_UnrollRuns [(.ag [(.d true (.int .i64 p0.Inputs)), (.d true (.lst 2 (p0.Latches.map eS_Latch))), (.d true (.lst 2 (p0.Ands.map eS_And))), (.d true (.lst 1 (p0.Bads.map eI))), (.d true (.lst 1 (p0.Constraints.map eI)))]), (.ag [(.d true (.lst 1 (p1.First.map eB))), (.d true (.lst 1 (p1.Inputs.map (eL 1 eB))))])] (.d true (.bool r)) := by
 unfold s_law23_UnrollRuns at h
 unfold AnsL
 rw [AtF fn_law23_UnrollRuns]
 simp only [n_law23_UnrollRuns]
 replace h := bsome h; obtain ⟨r0, H0, h⟩ := h
 have k0 := AtCall_all (s_law23_alive_ok H0); try dsimp only at k0
 replace h := bsome h; obtain ⟨x0, H1, h⟩ := h
 try simp only [go_sem, *]
 refine WC.mono (Q := fun e σ' => e = .normal ∧ σ'.get 2 = (.ptr 0 0 0) ∧ σ'.get 3 = (.ptr 0 1 0) ∧ σ'.get 5 = (.d true (.bool r0)) ∧ σ'.get 39 = (.d true (.bool x0)) ∧ σ'.obj 0 0 = oB8 p0 ∧ σ'.obj 0 1 = oB9 p1 ∧ σ'.obj 0 2 = none ∧ σ'.obj 0 3 = none ∧ σ'.up.length = 0) ?_ ?_
 ·replace h := H1
  clear H1
  replace h := bsome h; obtain ⟨r1, H2, h⟩ := h
  have k1 := AtCall_all (s_law23_great_ok H2); try dsimp only at k1
  replace h := itb h; rcases h with ⟨c0, h⟩ | ⟨c0, h⟩
  ·cases h
   simp only [go_sem, c_law23_UnrollRuns_p1, *]
  ·replace h := bsome h; obtain ⟨r2, H3, h⟩ := h
   have k2 := AtCall_all (s_ref02_Check_ok H3); try dsimp only at k2
   replace h := itb h; rcases h with ⟨c1, h⟩ | ⟨c1, h⟩
   ·cases h
    simp only [go_sem, c_law23_UnrollRuns_p1, *]
   ·replace h := itb h; rcases h with ⟨c2, h⟩ | ⟨c2, h⟩
    ·cases h
     simp only [go_sem, c_law23_UnrollRuns_p1, *]
    ·replace h := bsome h; obtain ⟨r3, H4, h⟩ := h
     have k3 := AtCall_all (s_ref06_Check_ok H4); try dsimp only at k3
     replace h := itb h; rcases h with ⟨c3, h⟩ | ⟨c3, h⟩
     ·cases h
      simp only [go_sem, c_law23_UnrollRuns_p1, *]
     ·cases h
      simp only [go_sem, c_law23_UnrollRuns_p1, *]
 ·intro e τ hJ
  obtain ⟨rfl, f0, f1, f2, f3, f4, f5, f6, f7, f8⟩ := hJ
  replace h := itb h; rcases h with ⟨c4, h⟩ | ⟨c4, h⟩
  ·cases h
   simp only [go_sem, KLaw, *]
  ·replace h := bsome h; obtain ⟨r4, H5, h⟩ := h
   have k4 := AtCall_all (s_unroll_Of_ok H5); try dsimp only at k4
   replace h := bsome h; obtain ⟨r5, H6, h⟩ := h
   have k5 := AtCall_all (s_traces_States_ok H6); try dsimp only at k5
   replace h := bsome h; obtain ⟨x1, H7, h⟩ := h
   try simp only [go_sem, *]
   refine WC.mono (Q := fun e σ' => e = .normal ∧ σ'.get 2 = (.ptr 0 0 0) ∧ σ'.get 3 = (.ptr 0 1 0) ∧ σ'.get 5 = (.d true (.bool r0)) ∧ σ'.get 6 = (.ptr 0 2 0) ∧ σ'.get 8 = (.d true (.lst 1 (r5.1.map (eL 1 eB)))) ∧ σ'.get 82 = (.d true (.bool x1)) ∧ σ'.obj 0 0 = oB8 p0 ∧ σ'.obj 0 1 = oB9 p1 ∧ σ'.obj 0 2 = oB11 r4.1 ∧ σ'.obj 0 3 = none ∧ σ'.up.length = 0) ?_ ?_
   ·replace h := H7
    clear H7
    replace h := itb h; rcases h with ⟨c5, h⟩ | ⟨c5, h⟩
    ·cases h
     simp only [go_sem, c_law23_UnrollRuns_p2, *]
    ·replace h := itb h; rcases h with ⟨c6, h⟩ | ⟨c6, h⟩
     ·cases h
      simp only [go_sem, c_law23_UnrollRuns_p2, *]
     ·replace h := bsome h; obtain ⟨r6, H8, h⟩ := h
      have k6 := AtCall_all (s_ref22_Check_ok H8); try dsimp only at k6
      replace h := itb h; rcases h with ⟨c7, h⟩ | ⟨c7, h⟩
      ·cases h
       simp only [go_sem, c_law23_UnrollRuns_p2, *]
      ·replace h := itb h; rcases h with ⟨c8, h⟩ | ⟨c8, h⟩
       ·cases h
        simp only [go_sem, c_law23_UnrollRuns_p2, *]
       ·cases h
        simp only [go_sem, c_law23_UnrollRuns_p2, *]
   ·intro e τ hJ
    obtain ⟨rfl, f9, f10, f11, f12, f13, f14, f15, f16, f17, f18, f19⟩ := hJ
    replace h := itb h; rcases h with ⟨c9, h⟩ | ⟨c9, h⟩
    ·cases h
     simp only [go_sem, KLaw, *]
    ·replace h := bsome h; obtain ⟨r7, H9, h⟩ := h
     have k7 := AtCall_all (s_law23_named_ok H9); try dsimp only at k7
     replace h := itb h; rcases h with ⟨c10, h⟩ | ⟨c10, h⟩
     ·replace h := bsome h; obtain ⟨r8, H10, h⟩ := h
      have k8 := AtCall_all (s_solve_Model_ok H10); try dsimp only at k8
      replace h := bsome h; obtain ⟨r9, H11, h⟩ := h
      have k9 := AtCall_all (s_unroll_Trace_ok H11); try dsimp only at k9
      replace h := bsome h; obtain ⟨x2, H12, h⟩ := h
      try simp only [go_sem, *]
      refine WC.mono (Q := fun e σ' => e = .normal ∧ σ'.get 4 = (.d true (.bool x2)) ∧ σ'.up.length = 0) ?_ ?_
      ·replace h := H12
       clear H12
       replace h := itb h; rcases h with ⟨c11, h⟩ | ⟨c11, h⟩
       ·replace h := itb h; rcases h with ⟨c12, h⟩ | ⟨c12, h⟩
        ·replace h := itb h; rcases h with ⟨c13, h⟩ | ⟨c13, h⟩
         ·replace h := itb h; rcases h with ⟨c14, h⟩ | ⟨c14, h⟩
          ·replace h := bsome h; obtain ⟨r10, H13, h⟩ := h
           have k10 := AtCall_all (s_ref06_Same_ok H13); try dsimp only at k10
           cases h
           simp only [go_sem, c_law23_UnrollRuns_p3, *]
          ·cases h
           simp only [go_sem, c_law23_UnrollRuns_p3, *]
         ·cases h
          simp only [go_sem, c_law23_UnrollRuns_p3, *]
        ·cases h
         simp only [go_sem, c_law23_UnrollRuns_p3, *]
       ·cases h
        simp only [go_sem, c_law23_UnrollRuns_p3, *]
      ·intro e τ hJ
       obtain ⟨rfl, f20, f21⟩ := hJ
       cases h
       simp only [go_sem, KLaw, *]
     ·cases h
      simp only [go_sem, KLaw, *]
def s_ref13_Not (p0 : Int) : Option (Int) :=
 if ((Int.tmod p0 2) == 0) = true then
  some (IntKind.wrap .i64 (p0 + 1))
 else
  some (IntKind.wrap .i64 (p0 - 1))
noncomputable def s_ref22_Not (p0 : Int) : Option (Int) :=
 (s_ref13_Not p0).bind fun r0 =>
 some r0
noncomputable def s_ref22_Lit (p0 : (List Int)) (p1 : Int) : Option (Int) :=
 if ((Int.tmod p1 2) == 1) = true then
  (idx p0 (IntKind.wrap .i64 (Int.tdiv p1 2))).bind fun x0 =>
  (s_ref22_Not x0).bind fun r0 =>
  some r0
 else
  (idx p0 (IntKind.wrap .i64 (Int.tdiv p1 2))).bind fun x1 =>
  some x1
end Go.Proofs.Ytbmhmfcjjhjkgaa.Vm
