/- Walks over the code of functions. Printed. -/
import Derived.Test.YtbmhmfcjjhjkgaaVmH1
namespace Go.Proofs.Ytbmhmfcjjhjkgaa.Vm
open Go
set_option linter.unusedSimpArgs false
set_option linter.unusedVariables false
set_option maxRecDepth 4000
set_option maxHeartbeats 4000000
attribute [local go_sem] WC_skip WC_exit WC_ret WC_seq WC_block WC_cond WC_rg KSeq_normal KSeq_ret KSeq_exit KBlock_normal KBlock_ret KBlock_exit KN_eq KRg_eq KSt_eq KSet_eq KLen_eq KPick_eq KG_eq KCond_eq boolP_d biteC_true biteC_false biteO_true biteO_false WO_nil WO_mv WO_nilr WO_pick WO_bin WO_beq WO_eqs WO_un WO_cvt WO_alloc WO_box WO_load WO_store WO_fad WO_fval WO_ix WO_ixb WO_ixa WO_bld WO_bsl WO_mks WO_slc WO_len WO_mx WO_mn WO_app WO_cpy WO_clr WO_xt WO_fn WO_chk WO_g
 WO_call WO_callv callK KHand KCallv KRes KBack_ret KRet_eq KAns env_fn St.hand St.lend St.lends St.lend1 St.vals St.frz fr1_obj fr1_get fr1_upl frO_rw frO_fz frO_none St.rowOf List.foldl_nil List.foldl_cons List.map_cons List.map_nil
 optP_some optP_none
 St.get_set St.obj_set St.get_setObj St.obj_setObj St.get_kill St.obj_kill0 St.obj_killS St.get_ini St.obj_ini0 gt_nil gt_zero gt_succ St.val_t St.val_c
 stl_get stl_obj0 stl_objS stl_upl stv_d stv_dx stv_nil stv_row0 stv_rowS stv_ptr stv_rel0 stv_pd stv_ag stv_tp stv_cl stvs_nil stvs_cons obs_box obs_rw obs_fz
 ret_get ret_obj ret_up ini_objS ini_upl ini_upl0 set_upl kill_upl setObj_upl0 setObj_uplS
 kill_d kill_dx kill_nil kill_row0 kill_rowS kill_ptr0 kill_ptrS kill_rel0 kill_relS kill_pd kill_ag kill_tp kill_cl kills_nil kills_cons obk_box obk_rw obk_fz
 pre step bin_int bin_shr bin_shl beq_bool arith_add arith_sub arith_mul arith_and arith_or arith_xor arith_eql arith_neq arith_lss arith_leq arith_gtr arith_geq arith_quo2 arith_rem2 arith_shr1 arith_shl1 maxOf_two minOf_two un lenOf cellsOf ofCells wid sub? slice_map slice_head slice_full' slice_z slice_c slice_s put St.new zcells St.load St.store Vm.fad St.ix St.slc St.els St.app St.wants St.skip I.dst resVal resVals Z.v Z.t? ofT T.cells V.shift V.shifts V.down V.downs downL chkV eqs eqFlat fill fillT flatFill T.noL T.flat
 dat dat2 dat1 dats1 dats2 Fn.pure FreeRows_nil FreeRows_cons setRows ren ren2 ren1 KTk take takes2 take2 takes1 take1 take0 rowsOb Vm.st Option.isNone_none Option.isNone_some List.mem_cons List.not_mem_nil not_or
 Option.map_some Option.map_none Option.bind_some List.length_cons List.length_nil List.length_append List.length_set cpl_length List.length_map List.length_replicate List.map_append List.map_set List.map_replicate List.getElem?_map List.getElem?_cons_zero List.getElem?_cons_succ List.drop_zero List.take_zero List.drop_succ_cons List.take_succ_cons List.take_nil List.drop_nil List.zip_cons_cons List.zip_nil_left List.zip_nil_right List.mapM_cons List.mapM_nil Option.pure_def Option.bind_eq_bind List.all_cons List.all_nil List.append_eq_nil_iff List.cons_ne_nil List.map_eq_nil_iff List.set_cons_zero List.set_cons_succ List.replicate_succ List.replicate_zero
 Nat.reduceEqDiff Nat.reduceLeDiff Nat.reduceAdd Nat.reduceSub Nat.reduceLT Nat.reduceMul Nat.reduceBEq Nat.ble_eq reduceIte reduceCtorEq Nat.add_zero Nat.sub_zero Nat.zero_add and_true true_and and_false false_and and_self or_true true_or false_or or_false if_true if_false Nat.one_ne_zero not_true not_false_eq_true not_false_iff Bool.false_eq_true forall_const true_implies false_implies implies_true BEq.rfl Bool.not_true Bool.not_false Bool.and_true Bool.true_and Bool.and_false Bool.false_and Bool.and_self Bool.true_bne Bool.false_bne not_true_eq_false List.nil_append List.append_nil List.cons_append dInt dBool Nat.le_refl Nat.le_add_right St.toT St.toTs ne_eq
 Sum.elim_inl Sum.elim_inr Option.some.injEq Ob.rw.injEq exists_eq2 eI eU8 eU64 eB eL eS_Latch eS_And eS_Circuit eS_Cnf eA4_Int oB0 oB1 oB2 oB3 oB4 oB5 oB6 oB7 oB8 oB9 oB10 oB11 oB12 oB13 at_unroll_frames_fresh c_unroll_frames_add c_unroll_frames_frame c_unroll_frames_fresh c_unroll_made fn_clause_Make fn_unroll_frames_fresh fn_unroll_lit n_clause_Make n_unroll_frames_fresh n_unroll_lit
def b_unroll_frames_frame_u0_L0 (a0 : S_Circuit) (a1 : List Int) (a2 : S_Circuit) (a3 : Int) (a4 : List (List Int)) (a5 : List (List Int)) (a7 : List (List Int)) (a8 : List (List Int)) (s0 : Int × (List Int) × Int) : Option ((Int × (List Int) × Int) ⊕ (Int × (List Int))) :=
 if (decide (s0.2.2 < a0.Inputs)) = true then
  if s0.2.1.length + 1 ≤ big then
   some (Sum.inl ((IntKind.wrap .i64 (s0.1 + 1)), (s0.2.1 ++ ([(IntKind.wrap .i64 (2 * (IntKind.wrap .i64 (s0.1 + 1))))] : List Int)), (IntKind.wrap .i64 (s0.2.2 + 1))))
  else none
 else
  some (Sum.inr (s0.1, s0.2.1))
def I_unroll_frames_frame_u0_L0 (a0 : S_Circuit) (a1 : List Int) (a2 : S_Circuit) (a3 : Int) (a4 : List (List Int)) (a5 : List (List Int)) (a7 : List (List Int)) (a8 : List (List Int)) (s0 : Int × (List Int) × Int) (σ : St) : Prop := σ.get 0 = (.ptr 1 4 0) ∧ σ.get 2 = (.d false (.lst 1 (a1.map eI))) ∧ σ.get 4 = (.ptr 0 0 0) ∧ σ.get 7 = (.row 0 1 0 s0.2.1.length 1) ∧ σ.get 17 = (.d true (.int .i64 a0.Inputs)) ∧ σ.get 18 = (.d true (.int .i64 s0.2.2)) ∧ σ.obj 1 0 = oB0 a2 ∧ σ.obj 1 1 = oB5 a3 a4.length a5.length ∧ (∃ gr_0_2, σ.obj 1 2 = some (.rw 1 (a4.map (eL 1 eI)) gr_0_2)) ∧ (∃ gr_0_3, σ.obj 1 3 = some (.rw 1 (a5.map (eL 1 eI)) gr_0_3)) ∧ σ.obj 1 4 = oB6 s0.1 a7.length a8.length ∧ (∃ gr_0_5, σ.obj 1 5 = some (.rw 1 (a7.map (eL 1 eI)) gr_0_5)) ∧ (∃ gr_0_6, σ.obj 1 6 = some (.rw 1 (a8.map (eL 1 eI)) gr_0_6)) ∧ σ.obj 0 0 = oB0 a0 ∧ (∃ gr_1_1, σ.obj 0 1 = some (.rw 1 (s0.2.1.map eI) gr_1_1)) ∧ σ.obj 1 10 = none ∧ σ.obj 0 3 = none ∧ σ.obj 0 5 = none ∧ σ.obj 0 8 = none ∧ σ.obj 0 12 = none ∧ σ.obj 0 13 = none ∧ σ.up.length = 1
def J_unroll_frames_frame_u0_L0 (a0 : S_Circuit) (a1 : List Int) (a2 : S_Circuit) (a3 : Int) (a4 : List (List Int)) (a5 : List (List Int)) (a7 : List (List Int)) (a8 : List (List Int)) (r : Int × (List Int)) (e : Ex) (σ' : St) : Prop := e = (.exit 0) ∧ σ'.get 0 = (.ptr 1 4 0) ∧ σ'.get 2 = (.d false (.lst 1 (a1.map eI))) ∧ σ'.get 4 = (.ptr 0 0 0) ∧ σ'.get 7 = (.row 0 1 0 r.2.length 1) ∧ σ'.obj 1 0 = oB0 a2 ∧ σ'.obj 1 1 = oB5 a3 a4.length a5.length ∧ (∃ gr_0_2, σ'.obj 1 2 = some (.rw 1 (a4.map (eL 1 eI)) gr_0_2)) ∧ (∃ gr_0_3, σ'.obj 1 3 = some (.rw 1 (a5.map (eL 1 eI)) gr_0_3)) ∧ σ'.obj 1 4 = oB6 r.1 a7.length a8.length ∧ (∃ gr_0_5, σ'.obj 1 5 = some (.rw 1 (a7.map (eL 1 eI)) gr_0_5)) ∧ (∃ gr_0_6, σ'.obj 1 6 = some (.rw 1 (a8.map (eL 1 eI)) gr_0_6)) ∧ σ'.obj 0 0 = oB0 a0 ∧ (∃ gr_1_1, σ'.obj 0 1 = some (.rw 1 (r.2.map eI) gr_1_1)) ∧ σ'.obj 1 10 = none ∧ σ'.obj 0 3 = none ∧ σ'.obj 0 5 = none ∧ σ'.obj 0 8 = none ∧ σ'.obj 0 12 = none ∧ σ'.obj 0 13 = none ∧ σ'.up.length = 1
theorem L_unroll_frames_frame_u0_L0 (a0 : S_Circuit) (a1 : List Int) (a2 : S_Circuit) (a3 : Int) (a4 : List (List Int)) (a5 : List (List Int)) (a7 : List (List Int)) (a8 : List (List Int)) {s : Int × (List Int) × Int} {r : Int × (List Int)} (h : Lp (b_unroll_frames_frame_u0_L0 a0 a1 a2 a3 a4 a5 a7 a8) s = some r) {σ : St} {Q : Ex → St → Prop} (hI : I_unroll_frames_frame_u0_L0 a0 a1 a2 a3 a4 a5 a7 a8 s σ) (hQ : ∀ e σ', J_unroll_frames_frame_u0_L0 a0 a1 a2 a3 a4 a5 a7 a8 r e σ' → Q e σ') : WC env (.loop c_unroll_frames_frame_l1) σ Q :=
 WC_Lp (I_unroll_frames_frame_u0_L0 a0 a1 a2 a3 a4 a5 a7 a8) (J_unroll_frames_frame_u0_L0 a0 a1 a2 a3 a4 a5 a7 a8) (by
  clear h hI hQ
  clear s r σ Q
  intro s0 σ x hI h
  obtain ⟨f16, f17, f18, f19, f20, f21, f22, f23, ⟨gr_0_2, f24⟩, ⟨gr_0_3, f25⟩, f26, ⟨gr_0_5, f27⟩, ⟨gr_0_6, f28⟩, f29, ⟨gr_1_1, f30⟩, f31, f32, f33, f34, f35, f36, f37⟩ := hI
  unfold b_unroll_frames_frame_u0_L0 at h
  replace h := itb h; rcases h with ⟨c0, h⟩ | ⟨c0, h⟩
  ·replace h := need h; obtain ⟨H0, h⟩ := h
   cases h
   simp only [go_sem, LQ_inl, I_unroll_frames_frame_u0_L0, c_unroll_frames_frame_l1, *]
  ·cases h
   simp only [go_sem, LQ_inr, J_unroll_frames_frame_u0_L0, c_unroll_frames_frame_l1, *]
) h hI hQ
def b_unroll_frames_frame_u0_L1 (a0 : S_Circuit) (a1 : List Int) (a2 : S_Circuit) (a3 : Int) (a4 : List (List Int)) (a5 : List (List Int)) (a7 : List (List Int)) (a8 : List (List Int)) (s1 : Int × (List Int) × Int) : Option ((Int × (List Int) × Int) ⊕ (Int × (List Int))) :=
 if (decide (s1.2.2 < (a1.length : Int))) = true then
  (idx a1 s1.2.2).bind fun x1 =>
  (if (decide (x1 < 0)) = true then
    some ((IntKind.wrap .i64 (s1.1 + 1)), (IntKind.wrap .i64 (2 * (IntKind.wrap .i64 (s1.1 + 1)))))
   else
    some (s1.1, x1)).bind fun x2 =>
  if s1.2.1.length + 1 ≤ big then
   some (Sum.inl (x2.1, (s1.2.1 ++ ([x2.2] : List Int)), (IntKind.wrap .i64 (s1.2.2 + 1))))
  else none
 else
  some (Sum.inr (s1.1, s1.2.1))
def I_unroll_frames_frame_u0_L1 (a0 : S_Circuit) (a1 : List Int) (a2 : S_Circuit) (a3 : Int) (a4 : List (List Int)) (a5 : List (List Int)) (a7 : List (List Int)) (a8 : List (List Int)) (s1 : Int × (List Int) × Int) (σ : St) : Prop := σ.get 0 = (.ptr 1 4 0) ∧ σ.get 4 = (.ptr 0 0 0) ∧ σ.get 7 = (.row 0 1 0 s1.2.1.length 1) ∧ σ.get 26 = (.d false (.lst 1 (a1.map eI))) ∧ σ.get 27 = (.d true (.int .i64 (a1.length : Int))) ∧ σ.get 28 = (.d true (.int .i64 s1.2.2)) ∧ σ.obj 1 0 = oB0 a2 ∧ σ.obj 1 1 = oB5 a3 a4.length a5.length ∧ (∃ gr_0_2, σ.obj 1 2 = some (.rw 1 (a4.map (eL 1 eI)) gr_0_2)) ∧ (∃ gr_0_3, σ.obj 1 3 = some (.rw 1 (a5.map (eL 1 eI)) gr_0_3)) ∧ σ.obj 1 4 = oB6 s1.1 a7.length a8.length ∧ (∃ gr_0_5, σ.obj 1 5 = some (.rw 1 (a7.map (eL 1 eI)) gr_0_5)) ∧ (∃ gr_0_6, σ.obj 1 6 = some (.rw 1 (a8.map (eL 1 eI)) gr_0_6)) ∧ σ.obj 0 0 = oB0 a0 ∧ (∃ gr_1_1, σ.obj 0 1 = some (.rw 1 (s1.2.1.map eI) gr_1_1)) ∧ σ.obj 1 10 = none ∧ σ.obj 0 3 = none ∧ σ.obj 0 5 = none ∧ σ.obj 0 8 = none ∧ σ.obj 0 12 = none ∧ σ.obj 0 13 = none ∧ σ.up.length = 1
def J_unroll_frames_frame_u0_L1 (a0 : S_Circuit) (a1 : List Int) (a2 : S_Circuit) (a3 : Int) (a4 : List (List Int)) (a5 : List (List Int)) (a7 : List (List Int)) (a8 : List (List Int)) (r : Int × (List Int)) (e : Ex) (σ' : St) : Prop := e = (.exit 2) ∧ σ'.get 0 = (.ptr 1 4 0) ∧ σ'.get 4 = (.ptr 0 0 0) ∧ σ'.get 7 = (.row 0 1 0 r.2.length 1) ∧ σ'.obj 1 0 = oB0 a2 ∧ σ'.obj 1 1 = oB5 a3 a4.length a5.length ∧ (∃ gr_0_2, σ'.obj 1 2 = some (.rw 1 (a4.map (eL 1 eI)) gr_0_2)) ∧ (∃ gr_0_3, σ'.obj 1 3 = some (.rw 1 (a5.map (eL 1 eI)) gr_0_3)) ∧ σ'.obj 1 4 = oB6 r.1 a7.length a8.length ∧ (∃ gr_0_5, σ'.obj 1 5 = some (.rw 1 (a7.map (eL 1 eI)) gr_0_5)) ∧ (∃ gr_0_6, σ'.obj 1 6 = some (.rw 1 (a8.map (eL 1 eI)) gr_0_6)) ∧ σ'.obj 0 0 = oB0 a0 ∧ (∃ gr_1_1, σ'.obj 0 1 = some (.rw 1 (r.2.map eI) gr_1_1)) ∧ σ'.obj 1 10 = none ∧ σ'.obj 0 3 = none ∧ σ'.obj 0 5 = none ∧ σ'.obj 0 8 = none ∧ σ'.obj 0 12 = none ∧ σ'.obj 0 13 = none ∧ σ'.up.length = 1
theorem L_unroll_frames_frame_u0_L1 (a0 : S_Circuit) (a1 : List Int) (a2 : S_Circuit) (a3 : Int) (a4 : List (List Int)) (a5 : List (List Int)) (a7 : List (List Int)) (a8 : List (List Int)) {s : Int × (List Int) × Int} {r : Int × (List Int)} (h : Lp (b_unroll_frames_frame_u0_L1 a0 a1 a2 a3 a4 a5 a7 a8) s = some r) {σ : St} {Q : Ex → St → Prop} (hI : I_unroll_frames_frame_u0_L1 a0 a1 a2 a3 a4 a5 a7 a8 s σ) (hQ : ∀ e σ', J_unroll_frames_frame_u0_L1 a0 a1 a2 a3 a4 a5 a7 a8 r e σ' → Q e σ') : WC env (.loop c_unroll_frames_frame_l2) σ Q :=
 WC_Lp (I_unroll_frames_frame_u0_L1 a0 a1 a2 a3 a4 a5 a7 a8) (J_unroll_frames_frame_u0_L1 a0 a1 a2 a3 a4 a5 a7 a8) (by
  clear h hI hQ
  clear s r σ Q
  intro s1 σ x hI h
  obtain ⟨f36, f37, f38, f39, f40, f41, f42, f43, ⟨gr_0_2, f44⟩, ⟨gr_0_3, f45⟩, f46, ⟨gr_0_5, f47⟩, ⟨gr_0_6, f48⟩, f49, ⟨gr_1_1, f50⟩, f51, f52, f53, f54, f55, f56, f57⟩ := hI
  unfold b_unroll_frames_frame_u0_L1 at h
  replace h := itb h; rcases h with ⟨c0, h⟩ | ⟨c0, h⟩
  ·replace h := bsome h; obtain ⟨x1, H1, h⟩ := h
   have n0 := idx_n H1; have q0 := idx_q H1; have y0 := idx_x H1
   replace h := bsome h; obtain ⟨x2, H2, h⟩ := h
   try simp only [go_sem, c_unroll_frames_frame_l2, *]
   refine WC.mono (Q := fun e σ' => e = .normal ∧ σ'.get 0 = (.ptr 1 4 0) ∧ σ'.get 4 = (.ptr 0 0 0) ∧ σ'.get 7 = (.row 0 1 0 s1.2.1.length 1) ∧ σ'.get 9 = (.d true (.int .i64 x2.2)) ∧ σ'.get 26 = (.d false (.lst 1 (a1.map eI))) ∧ σ'.get 27 = (.d true (.int .i64 (a1.length : Int))) ∧ σ'.get 28 = (.d true (.int .i64 s1.2.2)) ∧ σ'.obj 1 0 = oB0 a2 ∧ σ'.obj 1 1 = oB5 a3 a4.length a5.length ∧ (∃ gr_0_2, σ'.obj 1 2 = some (.rw 1 (a4.map (eL 1 eI)) gr_0_2)) ∧ (∃ gr_0_3, σ'.obj 1 3 = some (.rw 1 (a5.map (eL 1 eI)) gr_0_3)) ∧ σ'.obj 1 4 = oB6 x2.1 a7.length a8.length ∧ (∃ gr_0_5, σ'.obj 1 5 = some (.rw 1 (a7.map (eL 1 eI)) gr_0_5)) ∧ (∃ gr_0_6, σ'.obj 1 6 = some (.rw 1 (a8.map (eL 1 eI)) gr_0_6)) ∧ σ'.obj 0 0 = oB0 a0 ∧ (∃ gr_1_1, σ'.obj 0 1 = some (.rw 1 (s1.2.1.map eI) gr_1_1)) ∧ σ'.obj 1 10 = none ∧ σ'.obj 0 3 = none ∧ σ'.obj 0 5 = none ∧ σ'.obj 0 8 = none ∧ σ'.obj 0 12 = none ∧ σ'.obj 0 13 = none ∧ σ'.up.length = 1) ?_ ?_
   ·replace h := H2
    clear H2
    replace h := itb h; rcases h with ⟨c1, h⟩ | ⟨c1, h⟩
    ·cases h
     simp only [go_sem, c_unroll_frames_frame_l2, c_unroll_frames_frame_p1, *]
    ·cases h
     simp only [go_sem, c_unroll_frames_frame_l2, c_unroll_frames_frame_p1, *]
   ·intro e τ hJ
    obtain ⟨rfl, f58, f59, f60, f61, f62, f63, f64, f65, f66, ⟨gr_0_2, f67⟩, ⟨gr_0_3, f68⟩, f69, ⟨gr_0_5, f70⟩, ⟨gr_0_6, f71⟩, f72, ⟨gr_1_1, f73⟩, f74, f75, f76, f77, f78, f79, f80⟩ := hJ
    replace h := need h; obtain ⟨H3, h⟩ := h
    cases h
    simp only [go_sem, LQ_inl, I_unroll_frames_frame_u0_L1, c_unroll_frames_frame_l2, *]
  ·cases h
   simp only [go_sem, LQ_inr, J_unroll_frames_frame_u0_L1, c_unroll_frames_frame_l2, *]
) h hI hQ
def b_unroll_frames_add_u0_L0 (a0 : S_Circuit) (a1 : Int) (a2 : List (List Int)) (a3 : List (List Int)) (a4 : Int) (a5 : List (List Int)) (a6 : List (List Int)) (a7 : List Int) (a8 : List Int) (s0 : (List Int) × Int) : Option (((List Int) × Int) ⊕ (((List Int)) ⊕ (Unit))) :=
 if (decide (s0.2 < (a8.length : Int))) = true then
  ((idx a8 s0.2).bind fun x1 =>
   if (x1 == 1) = true then
    some (Sum.inr ())
   else
    if (decide (x1 > 1)) = true then
     if s0.1.length + 1 ≤ big then
      some (Sum.inl (s0.1 ++ ([x1] : List Int)))
     else none
    else
     some (Sum.inl s0.1)).bind fun x0 =>
  match x0 with
  | .inl x0' =>
   some (Sum.inl (x0', (IntKind.wrap .i64 (s0.2 + 1))))
  | .inr x0' =>
   some (Sum.inr (Sum.inr ()))
 else
  some (Sum.inr (Sum.inl s0.1))
def I_unroll_frames_add_u0_L0 (a0 : S_Circuit) (a1 : Int) (a2 : List (List Int)) (a3 : List (List Int)) (a4 : Int) (a5 : List (List Int)) (a6 : List (List Int)) (a7 : List Int) (a8 : List Int) (s0 : (List Int) × Int) (σ : St) : Prop := σ.get 0 = (.ptr 2 4 0) ∧ σ.get 4 = (.row 0 0 0 s0.1.length 1) ∧ σ.get 10 = (.row 1 9 0 a8.length 1) ∧ σ.get 11 = (.d true (.int .i64 (a8.length : Int))) ∧ σ.get 12 = (.d true (.int .i64 s0.2)) ∧ σ.obj 2 0 = oB0 a0 ∧ σ.obj 2 1 = oB5 a1 a2.length a3.length ∧ (∃ gr_0_2, σ.obj 2 2 = some (.rw 1 (a2.map (eL 1 eI)) gr_0_2)) ∧ (∃ gr_0_3, σ.obj 2 3 = some (.rw 1 (a3.map (eL 1 eI)) gr_0_3)) ∧ σ.obj 2 4 = oB6 a4 a5.length a6.length ∧ (∃ gr_0_5, σ.obj 2 5 = some (.rw 1 (a5.map (eL 1 eI)) gr_0_5)) ∧ (∃ gr_0_6, σ.obj 2 6 = some (.rw 1 (a6.map (eL 1 eI)) gr_0_6)) ∧ (∃ gr_1_1, σ.obj 1 1 = some (.rw 1 (a7.map eI) gr_1_1)) ∧ (∃ gr_1_9, σ.obj 1 9 = some (.rw 1 (a8.map eI) gr_1_9)) ∧ (∃ gr_2_0, σ.obj 0 0 = some (.rw 1 (s0.1.map eI) gr_2_0)) ∧ σ.obj 2 10 = none ∧ σ.obj 1 3 = none ∧ σ.obj 1 5 = none ∧ σ.obj 1 8 = none ∧ σ.obj 1 12 = none ∧ σ.obj 1 13 = none ∧ σ.obj 0 2 = none ∧ σ.obj 0 3 = none ∧ σ.obj 0 4 = none ∧ σ.up.length = 2
def J_unroll_frames_add_u0_L0 (a0 : S_Circuit) (a1 : Int) (a2 : List (List Int)) (a3 : List (List Int)) (a4 : Int) (a5 : List (List Int)) (a6 : List (List Int)) (a7 : List Int) (a8 : List Int) (r : ((List Int)) ⊕ (Unit)) (e : Ex) (σ' : St) : Prop := (Sum.elim (fun o0 => e = (.exit 0) ∧ σ'.get 0 = (.ptr 2 4 0) ∧ σ'.get 4 = (.row 0 0 0 o0.length 1) ∧ σ'.obj 2 0 = oB0 a0 ∧ σ'.obj 2 1 = oB5 a1 a2.length a3.length ∧ (∃ gr_0_2, σ'.obj 2 2 = some (.rw 1 (a2.map (eL 1 eI)) gr_0_2)) ∧ (∃ gr_0_3, σ'.obj 2 3 = some (.rw 1 (a3.map (eL 1 eI)) gr_0_3)) ∧ σ'.obj 2 4 = oB6 a4 a5.length a6.length ∧ (∃ gr_0_5, σ'.obj 2 5 = some (.rw 1 (a5.map (eL 1 eI)) gr_0_5)) ∧ (∃ gr_0_6, σ'.obj 2 6 = some (.rw 1 (a6.map (eL 1 eI)) gr_0_6)) ∧ (∃ gr_1_1, σ'.obj 1 1 = some (.rw 1 (a7.map eI) gr_1_1)) ∧ (∃ gr_1_9, σ'.obj 1 9 = some (.rw 1 (a8.map eI) gr_1_9)) ∧ (∃ gr_2_0, σ'.obj 0 0 = some (.rw 1 (o0.map eI) gr_2_0)) ∧ σ'.obj 2 10 = none ∧ σ'.obj 1 3 = none ∧ σ'.obj 1 5 = none ∧ σ'.obj 1 8 = none ∧ σ'.obj 1 12 = none ∧ σ'.obj 1 13 = none ∧ σ'.obj 0 2 = none ∧ σ'.obj 0 3 = none ∧ σ'.obj 0 4 = none ∧ σ'.up.length = 2) (fun o1 => e = .ret ∧ σ'.obj 2 0 = oB0 a0 ∧ σ'.obj 2 1 = oB5 a1 a2.length a3.length ∧ (∃ gr_0_2, σ'.obj 2 2 = some (.rw 1 (a2.map (eL 1 eI)) gr_0_2)) ∧ (∃ gr_0_3, σ'.obj 2 3 = some (.rw 1 (a3.map (eL 1 eI)) gr_0_3)) ∧ σ'.obj 2 4 = oB6 a4 a5.length a6.length ∧ (∃ gr_0_5, σ'.obj 2 5 = some (.rw 1 (a5.map (eL 1 eI)) gr_0_5)) ∧ (∃ gr_0_6, σ'.obj 2 6 = some (.rw 1 (a6.map (eL 1 eI)) gr_0_6)) ∧ (∃ gr_1_1, σ'.obj 1 1 = some (.rw 1 (a7.map eI) gr_1_1)) ∧ (∃ gr_1_9, σ'.obj 1 9 = some (.rw 1 (a8.map eI) gr_1_9)) ∧ σ'.obj 2 10 = none ∧ σ'.obj 1 3 = none ∧ σ'.obj 1 5 = none ∧ σ'.obj 1 8 = none ∧ σ'.obj 1 12 = none ∧ σ'.obj 1 13 = none ∧ σ'.obj 0 2 = none ∧ σ'.obj 0 3 = none ∧ σ'.obj 0 4 = none ∧ σ'.up.length = 2)) r
theorem L_unroll_frames_add_u0_L0 (a0 : S_Circuit) (a1 : Int) (a2 : List (List Int)) (a3 : List (List Int)) (a4 : Int) (a5 : List (List Int)) (a6 : List (List Int)) (a7 : List Int) (a8 : List Int) {s : (List Int) × Int} {r : ((List Int)) ⊕ (Unit)} (h : Lp (b_unroll_frames_add_u0_L0 a0 a1 a2 a3 a4 a5 a6 a7 a8) s = some r) {σ : St} {Q : Ex → St → Prop} (hI : I_unroll_frames_add_u0_L0 a0 a1 a2 a3 a4 a5 a6 a7 a8 s σ) (hQ : ∀ e σ', J_unroll_frames_add_u0_L0 a0 a1 a2 a3 a4 a5 a6 a7 a8 r e σ' → Q e σ') : WC env (.loop c_unroll_frames_add_l1) σ Q :=
 WC_Lp (I_unroll_frames_add_u0_L0 a0 a1 a2 a3 a4 a5 a6 a7 a8) (J_unroll_frames_add_u0_L0 a0 a1 a2 a3 a4 a5 a6 a7 a8) (by
  clear h hI hQ
  clear s r σ Q
  intro s0 σ x hI h
  obtain ⟨f20, f21, f22, f23, f24, f25, f26, ⟨gr_0_2, f27⟩, ⟨gr_0_3, f28⟩, f29, ⟨gr_0_5, f30⟩, ⟨gr_0_6, f31⟩, ⟨gr_1_1, f32⟩, ⟨gr_1_9, f33⟩, ⟨gr_2_0, f34⟩, f35, f36, f37, f38, f39, f40, f41, f42, f43, f44⟩ := hI
  unfold b_unroll_frames_add_u0_L0 at h
  replace h := itb h; rcases h with ⟨c0, h⟩ | ⟨c0, h⟩
  ·replace h := bsome h; obtain ⟨x0, H0, h⟩ := h
   try simp only [go_sem, c_unroll_frames_add_l1, *]
   refine WC.mono (Q := fun e σ' => (Sum.elim (fun o0 => e = .normal ∧ σ'.get 0 = (.ptr 2 4 0) ∧ σ'.get 4 = (.row 0 0 0 o0.length 1) ∧ σ'.get 10 = (.row 1 9 0 a8.length 1) ∧ σ'.get 11 = (.d true (.int .i64 (a8.length : Int))) ∧ σ'.get 12 = (.d true (.int .i64 s0.2)) ∧ σ'.obj 2 0 = oB0 a0 ∧ σ'.obj 2 1 = oB5 a1 a2.length a3.length ∧ (∃ gr_0_2, σ'.obj 2 2 = some (.rw 1 (a2.map (eL 1 eI)) gr_0_2)) ∧ (∃ gr_0_3, σ'.obj 2 3 = some (.rw 1 (a3.map (eL 1 eI)) gr_0_3)) ∧ σ'.obj 2 4 = oB6 a4 a5.length a6.length ∧ (∃ gr_0_5, σ'.obj 2 5 = some (.rw 1 (a5.map (eL 1 eI)) gr_0_5)) ∧ (∃ gr_0_6, σ'.obj 2 6 = some (.rw 1 (a6.map (eL 1 eI)) gr_0_6)) ∧ (∃ gr_1_1, σ'.obj 1 1 = some (.rw 1 (a7.map eI) gr_1_1)) ∧ (∃ gr_1_9, σ'.obj 1 9 = some (.rw 1 (a8.map eI) gr_1_9)) ∧ (∃ gr_2_0, σ'.obj 0 0 = some (.rw 1 (o0.map eI) gr_2_0)) ∧ σ'.obj 2 10 = none ∧ σ'.obj 1 3 = none ∧ σ'.obj 1 5 = none ∧ σ'.obj 1 8 = none ∧ σ'.obj 1 12 = none ∧ σ'.obj 1 13 = none ∧ σ'.obj 0 2 = none ∧ σ'.obj 0 3 = none ∧ σ'.obj 0 4 = none ∧ σ'.up.length = 2) (fun o1 => e = .ret ∧ σ'.obj 2 0 = oB0 a0 ∧ σ'.obj 2 1 = oB5 a1 a2.length a3.length ∧ (∃ gr_0_2, σ'.obj 2 2 = some (.rw 1 (a2.map (eL 1 eI)) gr_0_2)) ∧ (∃ gr_0_3, σ'.obj 2 3 = some (.rw 1 (a3.map (eL 1 eI)) gr_0_3)) ∧ σ'.obj 2 4 = oB6 a4 a5.length a6.length ∧ (∃ gr_0_5, σ'.obj 2 5 = some (.rw 1 (a5.map (eL 1 eI)) gr_0_5)) ∧ (∃ gr_0_6, σ'.obj 2 6 = some (.rw 1 (a6.map (eL 1 eI)) gr_0_6)) ∧ (∃ gr_1_1, σ'.obj 1 1 = some (.rw 1 (a7.map eI) gr_1_1)) ∧ (∃ gr_1_9, σ'.obj 1 9 = some (.rw 1 (a8.map eI) gr_1_9)) ∧ σ'.obj 2 10 = none ∧ σ'.obj 1 3 = none ∧ σ'.obj 1 5 = none ∧ σ'.obj 1 8 = none ∧ σ'.obj 1 12 = none ∧ σ'.obj 1 13 = none ∧ σ'.obj 0 2 = none ∧ σ'.obj 0 3 = none ∧ σ'.obj 0 4 = none ∧ σ'.up.length = 2)) x0) ?_ ?_
   ·replace h := H0
    clear H0
    replace h := bsome h; obtain ⟨x1, H1, h⟩ := h
    have n0 := idx_n H1; have q0 := idx_q H1; have y0 := idx_x H1
    replace h := itb h; rcases h with ⟨c1, h⟩ | ⟨c1, h⟩
    ·cases h
     simp only [go_sem, c_unroll_frames_add_l1, c_unroll_frames_add_p1, *]
    ·replace h := itb h; rcases h with ⟨c2, h⟩ | ⟨c2, h⟩
     ·replace h := need h; obtain ⟨H2, h⟩ := h
      cases h
      simp only [go_sem, c_unroll_frames_add_l1, c_unroll_frames_add_p1, *]
     ·cases h
      simp only [go_sem, c_unroll_frames_add_l1, c_unroll_frames_add_p1, *]
   ·intro e τ hJ
    rcases x0 with x0' | x0'
    ·obtain ⟨rfl, f45, f46, f47, f48, f49, f50, f51, ⟨gr_0_2, f52⟩, ⟨gr_0_3, f53⟩, f54, ⟨gr_0_5, f55⟩, ⟨gr_0_6, f56⟩, ⟨gr_1_1, f57⟩, ⟨gr_1_9, f58⟩, ⟨gr_2_0, f59⟩, f60, f61, f62, f63, f64, f65, f66, f67, f68, f69⟩ := hJ
     cases h
     simp only [go_sem, LQ_inl, I_unroll_frames_add_u0_L0, c_unroll_frames_add_l1, *]
    ·obtain ⟨rfl, f70, f71, ⟨gr_0_2, f72⟩, ⟨gr_0_3, f73⟩, f74, ⟨gr_0_5, f75⟩, ⟨gr_0_6, f76⟩, ⟨gr_1_1, f77⟩, ⟨gr_1_9, f78⟩, f79, f80, f81, f82, f83, f84, f85, f86, f87, f88⟩ := hJ
     cases h
     simp only [go_sem, LQ_inr, J_unroll_frames_add_u0_L0, c_unroll_frames_add_l1, *]
  ·cases h
   simp only [go_sem, LQ_inr, J_unroll_frames_add_u0_L0, c_unroll_frames_add_l1, *]
) h hI hQ
noncomputable def w_unroll_frames_add_u0 (a0 : S_Circuit) (a1 : Int) (a2 : List (List Int)) (a3 : List (List Int)) (a4 : Int) (a5 : List (List Int)) (a6 : List (List Int)) (a7 : List Int) (a8 : List Int) : Option ((List (List Int))) :=
 (Lp (b_unroll_frames_add_u0_L0 a0 a1 a2 a3 a4 a5 a6 a7 a8) (([] : List Int), 0)).bind fun x0 =>
 match x0 with
 | .inl x0' =>
  (s_clause_Make a4 x0').bind fun r0 =>
  (if (r0.2.2 == 0) = true then
    some (!r0.2.1)
   else
    some false).bind fun x1 =>
  if x1 = true then
   if a6.length + 1 ≤ big then
    some (a6 ++ ([r0.1] : List (List Int)))
   else none
  else
   some a6
 | .inr x0' =>
  some a6
theorem E_unroll_frames_add_u0 (a0 : S_Circuit) (a1 : Int) (a2 : List (List Int)) (a3 : List (List Int)) (a4 : Int) (a5 : List (List Int)) (a6 : List (List Int)) (a7 : List Int) (a8 : List Int) {r : (List (List Int))} (h : w_unroll_frames_add_u0 a0 a1 a2 a3 a4 a5 a6 a7 a8 = some r) {up : List Lv} {K : V → St → Prop} (hI : ∀ xs, (St.ini xs up).obj 2 0 = oB0 a0 ∧ (St.ini xs up).obj 2 1 = oB5 a1 a2.length a3.length ∧ (∃ gr_0_2, (St.ini xs up).obj 2 2 = some (.rw 1 (a2.map (eL 1 eI)) gr_0_2)) ∧ (∃ gr_0_3, (St.ini xs up).obj 2 3 = some (.rw 1 (a3.map (eL 1 eI)) gr_0_3)) ∧ (St.ini xs up).obj 2 4 = oB6 a4 a5.length a6.length ∧ (∃ gr_0_5, (St.ini xs up).obj 2 5 = some (.rw 1 (a5.map (eL 1 eI)) gr_0_5)) ∧ (∃ gr_0_6, (St.ini xs up).obj 2 6 = some (.rw 1 (a6.map (eL 1 eI)) gr_0_6)) ∧ (∃ gr_1_1, (St.ini xs up).obj 1 1 = some (.rw 1 (a7.map eI) gr_1_1)) ∧ (∃ gr_1_9, (St.ini xs up).obj 1 9 = some (.rw 1 (a8.map eI) gr_1_9)) ∧ (St.ini xs up).obj 2 10 = none ∧ (St.ini xs up).obj 1 3 = none ∧ (St.ini xs up).obj 1 5 = none ∧ (St.ini xs up).obj 1 8 = none ∧ (St.ini xs up).obj 1 12 = none ∧ (St.ini xs up).obj 1 13 = none ∧ (St.ini xs up).obj 0 0 = none ∧ (St.ini xs up).obj 0 2 = none ∧ (St.ini xs up).obj 0 3 = none ∧ (St.ini xs up).obj 0 4 = none ∧ (St.ini xs up).up.length = 2)
  (hK : ∀ v σ', v = (.tp []) ∧ σ'.obj 2 0 = oB0 a0 ∧ σ'.obj 2 1 = oB5 a1 a2.length a3.length ∧ (∃ gr_0_2, σ'.obj 2 2 = some (.rw 1 (a2.map (eL 1 eI)) gr_0_2)) ∧ (∃ gr_0_3, σ'.obj 2 3 = some (.rw 1 (a3.map (eL 1 eI)) gr_0_3)) ∧ σ'.obj 2 4 = oB6 a4 a5.length r.length ∧ (∃ gr_0_5, σ'.obj 2 5 = some (.rw 1 (a5.map (eL 1 eI)) gr_0_5)) ∧ (∃ gr_0_6, σ'.obj 2 6 = some (.rw 1 (r.map (eL 1 eI)) gr_0_6)) ∧ (∃ gr_1_1, σ'.obj 1 1 = some (.rw 1 (a7.map eI) gr_1_1)) ∧ (∃ gr_1_9, σ'.obj 1 9 = some (.rw 1 (a8.map eI) gr_1_9)) ∧ σ'.obj 2 10 = none ∧ σ'.obj 1 3 = none ∧ σ'.obj 1 5 = none ∧ σ'.obj 1 8 = none ∧ σ'.obj 1 12 = none ∧ σ'.obj 1 13 = none ∧ σ'.up.length = 2 → K v σ') : AtFn env k_unroll_frames_add [(.ptr 2 4 0), (.row 1 9 0 a8.length 1)] up K := by
 obtain ⟨f0, f1, ⟨gr_0_2, f2⟩, ⟨gr_0_3, f3⟩, f4, ⟨gr_0_5, f5⟩, ⟨gr_0_6, f6⟩, ⟨gr_1_1, f7⟩, ⟨gr_1_9, f8⟩, f9, f10, f11, f12, f13, f14, f15, f16, f17, f18, hup⟩ := hI [(.ptr 2 4 0), (.row 1 9 0 a8.length 1)]
 have hu : up.length = 2 := hup
 clear hI
 refine AtFn_mono ?_ hK
 clear hK
 unfold w_unroll_frames_add_u0 at h
 rw [AtF fn_unroll_frames_add]
 simp only [n_unroll_frames_add]
 replace h := bsome h; obtain ⟨x0, H0, h⟩ := h
 try simp only [go_sem, *]
 refine L_unroll_frames_add_u0_L0 a0 a1 a2 a3 a4 a5 a6 a7 a8 H0 ?_ ?_
 ·clear h
  simp only [go_sem, I_unroll_frames_add_u0_L0, *]
 ·intro e τ hJ
  rcases x0 with x0' | x0'
  ·obtain ⟨rfl, f20, f21, f22, f23, ⟨gr_0_2, f24⟩, ⟨gr_0_3, f25⟩, f26, ⟨gr_0_5, f27⟩, ⟨gr_0_6, f28⟩, ⟨gr_1_1, f29⟩, ⟨gr_1_9, f30⟩, ⟨gr_2_0, f31⟩, f32, f33, f34, f35, f36, f37, f38, f39, f40, f41⟩ := hJ
   replace h := bsome h; obtain ⟨r0, H1, h⟩ := h
   have k0 := AtCall_all (s_clause_Make_ok H1); try dsimp only at k0
   replace h := bsome h; obtain ⟨x1, H2, h⟩ := h
   try simp only [go_sem, *]
   refine WC.mono (Q := fun e σ' => e = .normal ∧ σ'.get 0 = (.ptr 2 4 0) ∧ σ'.get 7 = (.d true (.lst 1 (r0.1.map eI))) ∧ σ'.get 41 = (.d true (.bool x1)) ∧ σ'.obj 2 0 = oB0 a0 ∧ σ'.obj 2 1 = oB5 a1 a2.length a3.length ∧ (∃ gr_0_2, σ'.obj 2 2 = some (.rw 1 (a2.map (eL 1 eI)) gr_0_2)) ∧ (∃ gr_0_3, σ'.obj 2 3 = some (.rw 1 (a3.map (eL 1 eI)) gr_0_3)) ∧ σ'.obj 2 4 = oB6 a4 a5.length a6.length ∧ (∃ gr_0_5, σ'.obj 2 5 = some (.rw 1 (a5.map (eL 1 eI)) gr_0_5)) ∧ (∃ gr_0_6, σ'.obj 2 6 = some (.rw 1 (a6.map (eL 1 eI)) gr_0_6)) ∧ (∃ gr_1_1, σ'.obj 1 1 = some (.rw 1 (a7.map eI) gr_1_1)) ∧ (∃ gr_1_9, σ'.obj 1 9 = some (.rw 1 (a8.map eI) gr_1_9)) ∧ σ'.obj 2 10 = none ∧ σ'.obj 1 3 = none ∧ σ'.obj 1 5 = none ∧ σ'.obj 1 8 = none ∧ σ'.obj 1 12 = none ∧ σ'.obj 1 13 = none ∧ σ'.obj 0 2 = none ∧ σ'.obj 0 3 = none ∧ σ'.obj 0 4 = none ∧ σ'.up.length = 2) ?_ ?_
   ·replace h := H2
    clear H2
    replace h := itb h; rcases h with ⟨c0, h⟩ | ⟨c0, h⟩
    ·cases h
     simp only [go_sem, c_unroll_frames_add_p2, *]
    ·cases h
     simp only [go_sem, c_unroll_frames_add_p2, *]
   ·intro e τ hJ
    obtain ⟨rfl, f42, f43, f44, f45, f46, ⟨gr_0_2, f47⟩, ⟨gr_0_3, f48⟩, f49, ⟨gr_0_5, f50⟩, ⟨gr_0_6, f51⟩, ⟨gr_1_1, f52⟩, ⟨gr_1_9, f53⟩, f54, f55, f56, f57, f58, f59, f60, f61, f62, f63⟩ := hJ
    replace h := itb h; rcases h with ⟨c1, h⟩ | ⟨c1, h⟩
    ·replace h := need h; obtain ⟨H3, h⟩ := h
     cases h
     simp only [go_sem, *]
    ·cases h
     simp only [go_sem, *]
  ·obtain ⟨rfl, f64, f65, ⟨gr_0_2, f66⟩, ⟨gr_0_3, f67⟩, f68, ⟨gr_0_5, f69⟩, ⟨gr_0_6, f70⟩, ⟨gr_1_1, f71⟩, ⟨gr_1_9, f72⟩, f73, f74, f75, f76, f77, f78, f79, f80, f81, f82⟩ := hJ
   cases h
   simp only [go_sem, *]
def b_unroll_frames_add_u1_L0 (a0 : S_Circuit) (a1 : Int) (a2 : List (List Int)) (a3 : List (List Int)) (a4 : Int) (a5 : List (List Int)) (a6 : List (List Int)) (a7 : List Int) (a8 : List Int) (s0 : (List Int) × Int) : Option (((List Int) × Int) ⊕ (((List Int)) ⊕ (Unit))) :=
 if (decide (s0.2 < (a8.length : Int))) = true then
  ((idx a8 s0.2).bind fun x1 =>
   if (x1 == 1) = true then
    some (Sum.inr ())
   else
    if (decide (x1 > 1)) = true then
     if s0.1.length + 1 ≤ big then
      some (Sum.inl (s0.1 ++ ([x1] : List Int)))
     else none
    else
     some (Sum.inl s0.1)).bind fun x0 =>
  match x0 with
  | .inl x0' =>
   some (Sum.inl (x0', (IntKind.wrap .i64 (s0.2 + 1))))
  | .inr x0' =>
   some (Sum.inr (Sum.inr ()))
 else
  some (Sum.inr (Sum.inl s0.1))
def I_unroll_frames_add_u1_L0 (a0 : S_Circuit) (a1 : Int) (a2 : List (List Int)) (a3 : List (List Int)) (a4 : Int) (a5 : List (List Int)) (a6 : List (List Int)) (a7 : List Int) (a8 : List Int) (s0 : (List Int) × Int) (σ : St) : Prop := σ.get 0 = (.ptr 2 4 0) ∧ σ.get 4 = (.row 0 0 0 s0.1.length 1) ∧ σ.get 10 = (.row 1 10 0 a8.length 1) ∧ σ.get 11 = (.d true (.int .i64 (a8.length : Int))) ∧ σ.get 12 = (.d true (.int .i64 s0.2)) ∧ σ.obj 2 0 = oB0 a0 ∧ σ.obj 2 1 = oB5 a1 a2.length a3.length ∧ (∃ gr_0_2, σ.obj 2 2 = some (.rw 1 (a2.map (eL 1 eI)) gr_0_2)) ∧ (∃ gr_0_3, σ.obj 2 3 = some (.rw 1 (a3.map (eL 1 eI)) gr_0_3)) ∧ σ.obj 2 4 = oB6 a4 a5.length a6.length ∧ (∃ gr_0_5, σ.obj 2 5 = some (.rw 1 (a5.map (eL 1 eI)) gr_0_5)) ∧ (∃ gr_0_6, σ.obj 2 6 = some (.rw 1 (a6.map (eL 1 eI)) gr_0_6)) ∧ (∃ gr_1_1, σ.obj 1 1 = some (.rw 1 (a7.map eI) gr_1_1)) ∧ (∃ gr_1_10, σ.obj 1 10 = some (.rw 1 (a8.map eI) gr_1_10)) ∧ (∃ gr_2_0, σ.obj 0 0 = some (.rw 1 (s0.1.map eI) gr_2_0)) ∧ σ.obj 2 10 = none ∧ σ.obj 1 3 = none ∧ σ.obj 1 5 = none ∧ σ.obj 1 8 = none ∧ σ.obj 1 12 = none ∧ σ.obj 1 13 = none ∧ σ.obj 0 2 = none ∧ σ.obj 0 3 = none ∧ σ.obj 0 4 = none ∧ σ.up.length = 2
def J_unroll_frames_add_u1_L0 (a0 : S_Circuit) (a1 : Int) (a2 : List (List Int)) (a3 : List (List Int)) (a4 : Int) (a5 : List (List Int)) (a6 : List (List Int)) (a7 : List Int) (a8 : List Int) (r : ((List Int)) ⊕ (Unit)) (e : Ex) (σ' : St) : Prop := (Sum.elim (fun o0 => e = (.exit 0) ∧ σ'.get 0 = (.ptr 2 4 0) ∧ σ'.get 4 = (.row 0 0 0 o0.length 1) ∧ σ'.obj 2 0 = oB0 a0 ∧ σ'.obj 2 1 = oB5 a1 a2.length a3.length ∧ (∃ gr_0_2, σ'.obj 2 2 = some (.rw 1 (a2.map (eL 1 eI)) gr_0_2)) ∧ (∃ gr_0_3, σ'.obj 2 3 = some (.rw 1 (a3.map (eL 1 eI)) gr_0_3)) ∧ σ'.obj 2 4 = oB6 a4 a5.length a6.length ∧ (∃ gr_0_5, σ'.obj 2 5 = some (.rw 1 (a5.map (eL 1 eI)) gr_0_5)) ∧ (∃ gr_0_6, σ'.obj 2 6 = some (.rw 1 (a6.map (eL 1 eI)) gr_0_6)) ∧ (∃ gr_1_1, σ'.obj 1 1 = some (.rw 1 (a7.map eI) gr_1_1)) ∧ (∃ gr_1_10, σ'.obj 1 10 = some (.rw 1 (a8.map eI) gr_1_10)) ∧ (∃ gr_2_0, σ'.obj 0 0 = some (.rw 1 (o0.map eI) gr_2_0)) ∧ σ'.obj 2 10 = none ∧ σ'.obj 1 3 = none ∧ σ'.obj 1 5 = none ∧ σ'.obj 1 8 = none ∧ σ'.obj 1 12 = none ∧ σ'.obj 1 13 = none ∧ σ'.obj 0 2 = none ∧ σ'.obj 0 3 = none ∧ σ'.obj 0 4 = none ∧ σ'.up.length = 2) (fun o1 => e = .ret ∧ σ'.obj 2 0 = oB0 a0 ∧ σ'.obj 2 1 = oB5 a1 a2.length a3.length ∧ (∃ gr_0_2, σ'.obj 2 2 = some (.rw 1 (a2.map (eL 1 eI)) gr_0_2)) ∧ (∃ gr_0_3, σ'.obj 2 3 = some (.rw 1 (a3.map (eL 1 eI)) gr_0_3)) ∧ σ'.obj 2 4 = oB6 a4 a5.length a6.length ∧ (∃ gr_0_5, σ'.obj 2 5 = some (.rw 1 (a5.map (eL 1 eI)) gr_0_5)) ∧ (∃ gr_0_6, σ'.obj 2 6 = some (.rw 1 (a6.map (eL 1 eI)) gr_0_6)) ∧ (∃ gr_1_1, σ'.obj 1 1 = some (.rw 1 (a7.map eI) gr_1_1)) ∧ (∃ gr_1_10, σ'.obj 1 10 = some (.rw 1 (a8.map eI) gr_1_10)) ∧ σ'.obj 2 10 = none ∧ σ'.obj 1 3 = none ∧ σ'.obj 1 5 = none ∧ σ'.obj 1 8 = none ∧ σ'.obj 1 12 = none ∧ σ'.obj 1 13 = none ∧ σ'.obj 0 2 = none ∧ σ'.obj 0 3 = none ∧ σ'.obj 0 4 = none ∧ σ'.up.length = 2)) r
theorem L_unroll_frames_add_u1_L0 (a0 : S_Circuit) (a1 : Int) (a2 : List (List Int)) (a3 : List (List Int)) (a4 : Int) (a5 : List (List Int)) (a6 : List (List Int)) (a7 : List Int) (a8 : List Int) {s : (List Int) × Int} {r : ((List Int)) ⊕ (Unit)} (h : Lp (b_unroll_frames_add_u1_L0 a0 a1 a2 a3 a4 a5 a6 a7 a8) s = some r) {σ : St} {Q : Ex → St → Prop} (hI : I_unroll_frames_add_u1_L0 a0 a1 a2 a3 a4 a5 a6 a7 a8 s σ) (hQ : ∀ e σ', J_unroll_frames_add_u1_L0 a0 a1 a2 a3 a4 a5 a6 a7 a8 r e σ' → Q e σ') : WC env (.loop c_unroll_frames_add_l1) σ Q :=
 WC_Lp (I_unroll_frames_add_u1_L0 a0 a1 a2 a3 a4 a5 a6 a7 a8) (J_unroll_frames_add_u1_L0 a0 a1 a2 a3 a4 a5 a6 a7 a8) (by
  clear h hI hQ
  clear s r σ Q
  intro s0 σ x hI h
  obtain ⟨f20, f21, f22, f23, f24, f25, f26, ⟨gr_0_2, f27⟩, ⟨gr_0_3, f28⟩, f29, ⟨gr_0_5, f30⟩, ⟨gr_0_6, f31⟩, ⟨gr_1_1, f32⟩, ⟨gr_1_10, f33⟩, ⟨gr_2_0, f34⟩, f35, f36, f37, f38, f39, f40, f41, f42, f43, f44⟩ := hI
  unfold b_unroll_frames_add_u1_L0 at h
  replace h := itb h; rcases h with ⟨c0, h⟩ | ⟨c0, h⟩
  ·replace h := bsome h; obtain ⟨x0, H0, h⟩ := h
   try simp only [go_sem, c_unroll_frames_add_l1, *]
   refine WC.mono (Q := fun e σ' => (Sum.elim (fun o0 => e = .normal ∧ σ'.get 0 = (.ptr 2 4 0) ∧ σ'.get 4 = (.row 0 0 0 o0.length 1) ∧ σ'.get 10 = (.row 1 10 0 a8.length 1) ∧ σ'.get 11 = (.d true (.int .i64 (a8.length : Int))) ∧ σ'.get 12 = (.d true (.int .i64 s0.2)) ∧ σ'.obj 2 0 = oB0 a0 ∧ σ'.obj 2 1 = oB5 a1 a2.length a3.length ∧ (∃ gr_0_2, σ'.obj 2 2 = some (.rw 1 (a2.map (eL 1 eI)) gr_0_2)) ∧ (∃ gr_0_3, σ'.obj 2 3 = some (.rw 1 (a3.map (eL 1 eI)) gr_0_3)) ∧ σ'.obj 2 4 = oB6 a4 a5.length a6.length ∧ (∃ gr_0_5, σ'.obj 2 5 = some (.rw 1 (a5.map (eL 1 eI)) gr_0_5)) ∧ (∃ gr_0_6, σ'.obj 2 6 = some (.rw 1 (a6.map (eL 1 eI)) gr_0_6)) ∧ (∃ gr_1_1, σ'.obj 1 1 = some (.rw 1 (a7.map eI) gr_1_1)) ∧ (∃ gr_1_10, σ'.obj 1 10 = some (.rw 1 (a8.map eI) gr_1_10)) ∧ (∃ gr_2_0, σ'.obj 0 0 = some (.rw 1 (o0.map eI) gr_2_0)) ∧ σ'.obj 2 10 = none ∧ σ'.obj 1 3 = none ∧ σ'.obj 1 5 = none ∧ σ'.obj 1 8 = none ∧ σ'.obj 1 12 = none ∧ σ'.obj 1 13 = none ∧ σ'.obj 0 2 = none ∧ σ'.obj 0 3 = none ∧ σ'.obj 0 4 = none ∧ σ'.up.length = 2) (fun o1 => e = .ret ∧ σ'.obj 2 0 = oB0 a0 ∧ σ'.obj 2 1 = oB5 a1 a2.length a3.length ∧ (∃ gr_0_2, σ'.obj 2 2 = some (.rw 1 (a2.map (eL 1 eI)) gr_0_2)) ∧ (∃ gr_0_3, σ'.obj 2 3 = some (.rw 1 (a3.map (eL 1 eI)) gr_0_3)) ∧ σ'.obj 2 4 = oB6 a4 a5.length a6.length ∧ (∃ gr_0_5, σ'.obj 2 5 = some (.rw 1 (a5.map (eL 1 eI)) gr_0_5)) ∧ (∃ gr_0_6, σ'.obj 2 6 = some (.rw 1 (a6.map (eL 1 eI)) gr_0_6)) ∧ (∃ gr_1_1, σ'.obj 1 1 = some (.rw 1 (a7.map eI) gr_1_1)) ∧ (∃ gr_1_10, σ'.obj 1 10 = some (.rw 1 (a8.map eI) gr_1_10)) ∧ σ'.obj 2 10 = none ∧ σ'.obj 1 3 = none ∧ σ'.obj 1 5 = none ∧ σ'.obj 1 8 = none ∧ σ'.obj 1 12 = none ∧ σ'.obj 1 13 = none ∧ σ'.obj 0 2 = none ∧ σ'.obj 0 3 = none ∧ σ'.obj 0 4 = none ∧ σ'.up.length = 2)) x0) ?_ ?_
   ·replace h := H0
    clear H0
    replace h := bsome h; obtain ⟨x1, H1, h⟩ := h
    have n0 := idx_n H1; have q0 := idx_q H1; have y0 := idx_x H1
    replace h := itb h; rcases h with ⟨c1, h⟩ | ⟨c1, h⟩
    ·cases h
     simp only [go_sem, c_unroll_frames_add_l1, c_unroll_frames_add_p1, *]
    ·replace h := itb h; rcases h with ⟨c2, h⟩ | ⟨c2, h⟩
     ·replace h := need h; obtain ⟨H2, h⟩ := h
      cases h
      simp only [go_sem, c_unroll_frames_add_l1, c_unroll_frames_add_p1, *]
     ·cases h
      simp only [go_sem, c_unroll_frames_add_l1, c_unroll_frames_add_p1, *]
   ·intro e τ hJ
    rcases x0 with x0' | x0'
    ·obtain ⟨rfl, f45, f46, f47, f48, f49, f50, f51, ⟨gr_0_2, f52⟩, ⟨gr_0_3, f53⟩, f54, ⟨gr_0_5, f55⟩, ⟨gr_0_6, f56⟩, ⟨gr_1_1, f57⟩, ⟨gr_1_10, f58⟩, ⟨gr_2_0, f59⟩, f60, f61, f62, f63, f64, f65, f66, f67, f68, f69⟩ := hJ
     cases h
     simp only [go_sem, LQ_inl, I_unroll_frames_add_u1_L0, c_unroll_frames_add_l1, *]
    ·obtain ⟨rfl, f70, f71, ⟨gr_0_2, f72⟩, ⟨gr_0_3, f73⟩, f74, ⟨gr_0_5, f75⟩, ⟨gr_0_6, f76⟩, ⟨gr_1_1, f77⟩, ⟨gr_1_10, f78⟩, f79, f80, f81, f82, f83, f84, f85, f86, f87, f88⟩ := hJ
     cases h
     simp only [go_sem, LQ_inr, J_unroll_frames_add_u1_L0, c_unroll_frames_add_l1, *]
  ·cases h
   simp only [go_sem, LQ_inr, J_unroll_frames_add_u1_L0, c_unroll_frames_add_l1, *]
) h hI hQ
noncomputable def w_unroll_frames_add_u1 (a0 : S_Circuit) (a1 : Int) (a2 : List (List Int)) (a3 : List (List Int)) (a4 : Int) (a5 : List (List Int)) (a6 : List (List Int)) (a7 : List Int) (a8 : List Int) : Option ((List (List Int))) :=
 (Lp (b_unroll_frames_add_u1_L0 a0 a1 a2 a3 a4 a5 a6 a7 a8) (([] : List Int), 0)).bind fun x0 =>
 match x0 with
 | .inl x0' =>
  (s_clause_Make a4 x0').bind fun r0 =>
  (if (r0.2.2 == 0) = true then
    some (!r0.2.1)
   else
    some false).bind fun x1 =>
  if x1 = true then
   if a6.length + 1 ≤ big then
    some (a6 ++ ([r0.1] : List (List Int)))
   else none
  else
   some a6
 | .inr x0' =>
  some a6
theorem E_unroll_frames_add_u1 (a0 : S_Circuit) (a1 : Int) (a2 : List (List Int)) (a3 : List (List Int)) (a4 : Int) (a5 : List (List Int)) (a6 : List (List Int)) (a7 : List Int) (a8 : List Int) {r : (List (List Int))} (h : w_unroll_frames_add_u1 a0 a1 a2 a3 a4 a5 a6 a7 a8 = some r) {up : List Lv} {K : V → St → Prop} (hI : ∀ xs, (St.ini xs up).obj 2 0 = oB0 a0 ∧ (St.ini xs up).obj 2 1 = oB5 a1 a2.length a3.length ∧ (∃ gr_0_2, (St.ini xs up).obj 2 2 = some (.rw 1 (a2.map (eL 1 eI)) gr_0_2)) ∧ (∃ gr_0_3, (St.ini xs up).obj 2 3 = some (.rw 1 (a3.map (eL 1 eI)) gr_0_3)) ∧ (St.ini xs up).obj 2 4 = oB6 a4 a5.length a6.length ∧ (∃ gr_0_5, (St.ini xs up).obj 2 5 = some (.rw 1 (a5.map (eL 1 eI)) gr_0_5)) ∧ (∃ gr_0_6, (St.ini xs up).obj 2 6 = some (.rw 1 (a6.map (eL 1 eI)) gr_0_6)) ∧ (∃ gr_1_1, (St.ini xs up).obj 1 1 = some (.rw 1 (a7.map eI) gr_1_1)) ∧ (∃ gr_1_10, (St.ini xs up).obj 1 10 = some (.rw 1 (a8.map eI) gr_1_10)) ∧ (St.ini xs up).obj 2 10 = none ∧ (St.ini xs up).obj 1 3 = none ∧ (St.ini xs up).obj 1 5 = none ∧ (St.ini xs up).obj 1 8 = none ∧ (St.ini xs up).obj 1 12 = none ∧ (St.ini xs up).obj 1 13 = none ∧ (St.ini xs up).obj 0 0 = none ∧ (St.ini xs up).obj 0 2 = none ∧ (St.ini xs up).obj 0 3 = none ∧ (St.ini xs up).obj 0 4 = none ∧ (St.ini xs up).up.length = 2)
  (hK : ∀ v σ', v = (.tp []) ∧ σ'.obj 2 0 = oB0 a0 ∧ σ'.obj 2 1 = oB5 a1 a2.length a3.length ∧ (∃ gr_0_2, σ'.obj 2 2 = some (.rw 1 (a2.map (eL 1 eI)) gr_0_2)) ∧ (∃ gr_0_3, σ'.obj 2 3 = some (.rw 1 (a3.map (eL 1 eI)) gr_0_3)) ∧ σ'.obj 2 4 = oB6 a4 a5.length r.length ∧ (∃ gr_0_5, σ'.obj 2 5 = some (.rw 1 (a5.map (eL 1 eI)) gr_0_5)) ∧ (∃ gr_0_6, σ'.obj 2 6 = some (.rw 1 (r.map (eL 1 eI)) gr_0_6)) ∧ (∃ gr_1_1, σ'.obj 1 1 = some (.rw 1 (a7.map eI) gr_1_1)) ∧ (∃ gr_1_10, σ'.obj 1 10 = some (.rw 1 (a8.map eI) gr_1_10)) ∧ σ'.obj 2 10 = none ∧ σ'.obj 1 3 = none ∧ σ'.obj 1 5 = none ∧ σ'.obj 1 8 = none ∧ σ'.obj 1 12 = none ∧ σ'.obj 1 13 = none ∧ σ'.up.length = 2 → K v σ') : AtFn env k_unroll_frames_add [(.ptr 2 4 0), (.row 1 10 0 a8.length 1)] up K := by
 obtain ⟨f0, f1, ⟨gr_0_2, f2⟩, ⟨gr_0_3, f3⟩, f4, ⟨gr_0_5, f5⟩, ⟨gr_0_6, f6⟩, ⟨gr_1_1, f7⟩, ⟨gr_1_10, f8⟩, f9, f10, f11, f12, f13, f14, f15, f16, f17, f18, hup⟩ := hI [(.ptr 2 4 0), (.row 1 10 0 a8.length 1)]
 have hu : up.length = 2 := hup
 clear hI
 refine AtFn_mono ?_ hK
 clear hK
 unfold w_unroll_frames_add_u1 at h
 rw [AtF fn_unroll_frames_add]
 simp only [n_unroll_frames_add]
 replace h := bsome h; obtain ⟨x0, H0, h⟩ := h
 try simp only [go_sem, *]
 refine L_unroll_frames_add_u1_L0 a0 a1 a2 a3 a4 a5 a6 a7 a8 H0 ?_ ?_
 ·clear h
  simp only [go_sem, I_unroll_frames_add_u1_L0, *]
 ·intro e τ hJ
  rcases x0 with x0' | x0'
  ·obtain ⟨rfl, f20, f21, f22, f23, ⟨gr_0_2, f24⟩, ⟨gr_0_3, f25⟩, f26, ⟨gr_0_5, f27⟩, ⟨gr_0_6, f28⟩, ⟨gr_1_1, f29⟩, ⟨gr_1_10, f30⟩, ⟨gr_2_0, f31⟩, f32, f33, f34, f35, f36, f37, f38, f39, f40, f41⟩ := hJ
   replace h := bsome h; obtain ⟨r0, H1, h⟩ := h
   have k0 := AtCall_all (s_clause_Make_ok H1); try dsimp only at k0
   replace h := bsome h; obtain ⟨x1, H2, h⟩ := h
   try simp only [go_sem, *]
   refine WC.mono (Q := fun e σ' => e = .normal ∧ σ'.get 0 = (.ptr 2 4 0) ∧ σ'.get 7 = (.d true (.lst 1 (r0.1.map eI))) ∧ σ'.get 41 = (.d true (.bool x1)) ∧ σ'.obj 2 0 = oB0 a0 ∧ σ'.obj 2 1 = oB5 a1 a2.length a3.length ∧ (∃ gr_0_2, σ'.obj 2 2 = some (.rw 1 (a2.map (eL 1 eI)) gr_0_2)) ∧ (∃ gr_0_3, σ'.obj 2 3 = some (.rw 1 (a3.map (eL 1 eI)) gr_0_3)) ∧ σ'.obj 2 4 = oB6 a4 a5.length a6.length ∧ (∃ gr_0_5, σ'.obj 2 5 = some (.rw 1 (a5.map (eL 1 eI)) gr_0_5)) ∧ (∃ gr_0_6, σ'.obj 2 6 = some (.rw 1 (a6.map (eL 1 eI)) gr_0_6)) ∧ (∃ gr_1_1, σ'.obj 1 1 = some (.rw 1 (a7.map eI) gr_1_1)) ∧ (∃ gr_1_10, σ'.obj 1 10 = some (.rw 1 (a8.map eI) gr_1_10)) ∧ σ'.obj 2 10 = none ∧ σ'.obj 1 3 = none ∧ σ'.obj 1 5 = none ∧ σ'.obj 1 8 = none ∧ σ'.obj 1 12 = none ∧ σ'.obj 1 13 = none ∧ σ'.obj 0 2 = none ∧ σ'.obj 0 3 = none ∧ σ'.obj 0 4 = none ∧ σ'.up.length = 2) ?_ ?_
   ·replace h := H2
    clear H2
    replace h := itb h; rcases h with ⟨c0, h⟩ | ⟨c0, h⟩
    ·cases h
     simp only [go_sem, c_unroll_frames_add_p2, *]
    ·cases h
     simp only [go_sem, c_unroll_frames_add_p2, *]
   ·intro e τ hJ
    obtain ⟨rfl, f42, f43, f44, f45, f46, ⟨gr_0_2, f47⟩, ⟨gr_0_3, f48⟩, f49, ⟨gr_0_5, f50⟩, ⟨gr_0_6, f51⟩, ⟨gr_1_1, f52⟩, ⟨gr_1_10, f53⟩, f54, f55, f56, f57, f58, f59, f60, f61, f62, f63⟩ := hJ
    replace h := itb h; rcases h with ⟨c1, h⟩ | ⟨c1, h⟩
    ·replace h := need h; obtain ⟨H3, h⟩ := h
     cases h
     simp only [go_sem, *]
    ·cases h
     simp only [go_sem, *]
  ·obtain ⟨rfl, f64, f65, ⟨gr_0_2, f66⟩, ⟨gr_0_3, f67⟩, f68, ⟨gr_0_5, f69⟩, ⟨gr_0_6, f70⟩, ⟨gr_1_1, f71⟩, ⟨gr_1_10, f72⟩, f73, f74, f75, f76, f77, f78, f79, f80, f81, f82⟩ := hJ
   cases h
   simp only [go_sem, *]
def b_unroll_frames_add_u2_L0 (a0 : S_Circuit) (a1 : Int) (a2 : List (List Int)) (a3 : List (List Int)) (a4 : Int) (a5 : List (List Int)) (a6 : List (List Int)) (a7 : List Int) (a8 : List Int) (s0 : (List Int) × Int) : Option (((List Int) × Int) ⊕ (((List Int)) ⊕ (Unit))) :=
 if (decide (s0.2 < (a8.length : Int))) = true then
  ((idx a8 s0.2).bind fun x1 =>
   if (x1 == 1) = true then
    some (Sum.inr ())
   else
    if (decide (x1 > 1)) = true then
     if s0.1.length + 1 ≤ big then
      some (Sum.inl (s0.1 ++ ([x1] : List Int)))
     else none
    else
     some (Sum.inl s0.1)).bind fun x0 =>
  match x0 with
  | .inl x0' =>
   some (Sum.inl (x0', (IntKind.wrap .i64 (s0.2 + 1))))
  | .inr x0' =>
   some (Sum.inr (Sum.inr ()))
 else
  some (Sum.inr (Sum.inl s0.1))
def I_unroll_frames_add_u2_L0 (a0 : S_Circuit) (a1 : Int) (a2 : List (List Int)) (a3 : List (List Int)) (a4 : Int) (a5 : List (List Int)) (a6 : List (List Int)) (a7 : List Int) (a8 : List Int) (s0 : (List Int) × Int) (σ : St) : Prop := σ.get 0 = (.ptr 2 4 0) ∧ σ.get 4 = (.row 0 0 0 s0.1.length 1) ∧ σ.get 10 = (.row 1 11 0 a8.length 1) ∧ σ.get 11 = (.d true (.int .i64 (a8.length : Int))) ∧ σ.get 12 = (.d true (.int .i64 s0.2)) ∧ σ.obj 2 0 = oB0 a0 ∧ σ.obj 2 1 = oB5 a1 a2.length a3.length ∧ (∃ gr_0_2, σ.obj 2 2 = some (.rw 1 (a2.map (eL 1 eI)) gr_0_2)) ∧ (∃ gr_0_3, σ.obj 2 3 = some (.rw 1 (a3.map (eL 1 eI)) gr_0_3)) ∧ σ.obj 2 4 = oB6 a4 a5.length a6.length ∧ (∃ gr_0_5, σ.obj 2 5 = some (.rw 1 (a5.map (eL 1 eI)) gr_0_5)) ∧ (∃ gr_0_6, σ.obj 2 6 = some (.rw 1 (a6.map (eL 1 eI)) gr_0_6)) ∧ (∃ gr_1_1, σ.obj 1 1 = some (.rw 1 (a7.map eI) gr_1_1)) ∧ (∃ gr_1_11, σ.obj 1 11 = some (.rw 1 (a8.map eI) gr_1_11)) ∧ (∃ gr_2_0, σ.obj 0 0 = some (.rw 1 (s0.1.map eI) gr_2_0)) ∧ σ.obj 2 10 = none ∧ σ.obj 1 3 = none ∧ σ.obj 1 5 = none ∧ σ.obj 1 8 = none ∧ σ.obj 1 12 = none ∧ σ.obj 1 13 = none ∧ σ.obj 0 2 = none ∧ σ.obj 0 3 = none ∧ σ.obj 0 4 = none ∧ σ.up.length = 2
def J_unroll_frames_add_u2_L0 (a0 : S_Circuit) (a1 : Int) (a2 : List (List Int)) (a3 : List (List Int)) (a4 : Int) (a5 : List (List Int)) (a6 : List (List Int)) (a7 : List Int) (a8 : List Int) (r : ((List Int)) ⊕ (Unit)) (e : Ex) (σ' : St) : Prop := (Sum.elim (fun o0 => e = (.exit 0) ∧ σ'.get 0 = (.ptr 2 4 0) ∧ σ'.get 4 = (.row 0 0 0 o0.length 1) ∧ σ'.obj 2 0 = oB0 a0 ∧ σ'.obj 2 1 = oB5 a1 a2.length a3.length ∧ (∃ gr_0_2, σ'.obj 2 2 = some (.rw 1 (a2.map (eL 1 eI)) gr_0_2)) ∧ (∃ gr_0_3, σ'.obj 2 3 = some (.rw 1 (a3.map (eL 1 eI)) gr_0_3)) ∧ σ'.obj 2 4 = oB6 a4 a5.length a6.length ∧ (∃ gr_0_5, σ'.obj 2 5 = some (.rw 1 (a5.map (eL 1 eI)) gr_0_5)) ∧ (∃ gr_0_6, σ'.obj 2 6 = some (.rw 1 (a6.map (eL 1 eI)) gr_0_6)) ∧ (∃ gr_1_1, σ'.obj 1 1 = some (.rw 1 (a7.map eI) gr_1_1)) ∧ (∃ gr_1_11, σ'.obj 1 11 = some (.rw 1 (a8.map eI) gr_1_11)) ∧ (∃ gr_2_0, σ'.obj 0 0 = some (.rw 1 (o0.map eI) gr_2_0)) ∧ σ'.obj 2 10 = none ∧ σ'.obj 1 3 = none ∧ σ'.obj 1 5 = none ∧ σ'.obj 1 8 = none ∧ σ'.obj 1 12 = none ∧ σ'.obj 1 13 = none ∧ σ'.obj 0 2 = none ∧ σ'.obj 0 3 = none ∧ σ'.obj 0 4 = none ∧ σ'.up.length = 2) (fun o1 => e = .ret ∧ σ'.obj 2 0 = oB0 a0 ∧ σ'.obj 2 1 = oB5 a1 a2.length a3.length ∧ (∃ gr_0_2, σ'.obj 2 2 = some (.rw 1 (a2.map (eL 1 eI)) gr_0_2)) ∧ (∃ gr_0_3, σ'.obj 2 3 = some (.rw 1 (a3.map (eL 1 eI)) gr_0_3)) ∧ σ'.obj 2 4 = oB6 a4 a5.length a6.length ∧ (∃ gr_0_5, σ'.obj 2 5 = some (.rw 1 (a5.map (eL 1 eI)) gr_0_5)) ∧ (∃ gr_0_6, σ'.obj 2 6 = some (.rw 1 (a6.map (eL 1 eI)) gr_0_6)) ∧ (∃ gr_1_1, σ'.obj 1 1 = some (.rw 1 (a7.map eI) gr_1_1)) ∧ (∃ gr_1_11, σ'.obj 1 11 = some (.rw 1 (a8.map eI) gr_1_11)) ∧ σ'.obj 2 10 = none ∧ σ'.obj 1 3 = none ∧ σ'.obj 1 5 = none ∧ σ'.obj 1 8 = none ∧ σ'.obj 1 12 = none ∧ σ'.obj 1 13 = none ∧ σ'.obj 0 2 = none ∧ σ'.obj 0 3 = none ∧ σ'.obj 0 4 = none ∧ σ'.up.length = 2)) r
theorem L_unroll_frames_add_u2_L0 (a0 : S_Circuit) (a1 : Int) (a2 : List (List Int)) (a3 : List (List Int)) (a4 : Int) (a5 : List (List Int)) (a6 : List (List Int)) (a7 : List Int) (a8 : List Int) {s : (List Int) × Int} {r : ((List Int)) ⊕ (Unit)} (h : Lp (b_unroll_frames_add_u2_L0 a0 a1 a2 a3 a4 a5 a6 a7 a8) s = some r) {σ : St} {Q : Ex → St → Prop} (hI : I_unroll_frames_add_u2_L0 a0 a1 a2 a3 a4 a5 a6 a7 a8 s σ) (hQ : ∀ e σ', J_unroll_frames_add_u2_L0 a0 a1 a2 a3 a4 a5 a6 a7 a8 r e σ' → Q e σ') : WC env (.loop c_unroll_frames_add_l1) σ Q :=
 WC_Lp (I_unroll_frames_add_u2_L0 a0 a1 a2 a3 a4 a5 a6 a7 a8) (J_unroll_frames_add_u2_L0 a0 a1 a2 a3 a4 a5 a6 a7 a8) (by
  clear h hI hQ
  clear s r σ Q
  intro s0 σ x hI h
  obtain ⟨f20, f21, f22, f23, f24, f25, f26, ⟨gr_0_2, f27⟩, ⟨gr_0_3, f28⟩, f29, ⟨gr_0_5, f30⟩, ⟨gr_0_6, f31⟩, ⟨gr_1_1, f32⟩, ⟨gr_1_11, f33⟩, ⟨gr_2_0, f34⟩, f35, f36, f37, f38, f39, f40, f41, f42, f43, f44⟩ := hI
  unfold b_unroll_frames_add_u2_L0 at h
  replace h := itb h; rcases h with ⟨c0, h⟩ | ⟨c0, h⟩
  ·replace h := bsome h; obtain ⟨x0, H0, h⟩ := h
   try simp only [go_sem, c_unroll_frames_add_l1, *]
   refine WC.mono (Q := fun e σ' => (Sum.elim (fun o0 => e = .normal ∧ σ'.get 0 = (.ptr 2 4 0) ∧ σ'.get 4 = (.row 0 0 0 o0.length 1) ∧ σ'.get 10 = (.row 1 11 0 a8.length 1) ∧ σ'.get 11 = (.d true (.int .i64 (a8.length : Int))) ∧ σ'.get 12 = (.d true (.int .i64 s0.2)) ∧ σ'.obj 2 0 = oB0 a0 ∧ σ'.obj 2 1 = oB5 a1 a2.length a3.length ∧ (∃ gr_0_2, σ'.obj 2 2 = some (.rw 1 (a2.map (eL 1 eI)) gr_0_2)) ∧ (∃ gr_0_3, σ'.obj 2 3 = some (.rw 1 (a3.map (eL 1 eI)) gr_0_3)) ∧ σ'.obj 2 4 = oB6 a4 a5.length a6.length ∧ (∃ gr_0_5, σ'.obj 2 5 = some (.rw 1 (a5.map (eL 1 eI)) gr_0_5)) ∧ (∃ gr_0_6, σ'.obj 2 6 = some (.rw 1 (a6.map (eL 1 eI)) gr_0_6)) ∧ (∃ gr_1_1, σ'.obj 1 1 = some (.rw 1 (a7.map eI) gr_1_1)) ∧ (∃ gr_1_11, σ'.obj 1 11 = some (.rw 1 (a8.map eI) gr_1_11)) ∧ (∃ gr_2_0, σ'.obj 0 0 = some (.rw 1 (o0.map eI) gr_2_0)) ∧ σ'.obj 2 10 = none ∧ σ'.obj 1 3 = none ∧ σ'.obj 1 5 = none ∧ σ'.obj 1 8 = none ∧ σ'.obj 1 12 = none ∧ σ'.obj 1 13 = none ∧ σ'.obj 0 2 = none ∧ σ'.obj 0 3 = none ∧ σ'.obj 0 4 = none ∧ σ'.up.length = 2) (fun o1 => e = .ret ∧ σ'.obj 2 0 = oB0 a0 ∧ σ'.obj 2 1 = oB5 a1 a2.length a3.length ∧ (∃ gr_0_2, σ'.obj 2 2 = some (.rw 1 (a2.map (eL 1 eI)) gr_0_2)) ∧ (∃ gr_0_3, σ'.obj 2 3 = some (.rw 1 (a3.map (eL 1 eI)) gr_0_3)) ∧ σ'.obj 2 4 = oB6 a4 a5.length a6.length ∧ (∃ gr_0_5, σ'.obj 2 5 = some (.rw 1 (a5.map (eL 1 eI)) gr_0_5)) ∧ (∃ gr_0_6, σ'.obj 2 6 = some (.rw 1 (a6.map (eL 1 eI)) gr_0_6)) ∧ (∃ gr_1_1, σ'.obj 1 1 = some (.rw 1 (a7.map eI) gr_1_1)) ∧ (∃ gr_1_11, σ'.obj 1 11 = some (.rw 1 (a8.map eI) gr_1_11)) ∧ σ'.obj 2 10 = none ∧ σ'.obj 1 3 = none ∧ σ'.obj 1 5 = none ∧ σ'.obj 1 8 = none ∧ σ'.obj 1 12 = none ∧ σ'.obj 1 13 = none ∧ σ'.obj 0 2 = none ∧ σ'.obj 0 3 = none ∧ σ'.obj 0 4 = none ∧ σ'.up.length = 2)) x0) ?_ ?_
   ·replace h := H0
    clear H0
    replace h := bsome h; obtain ⟨x1, H1, h⟩ := h
    have n0 := idx_n H1; have q0 := idx_q H1; have y0 := idx_x H1
    replace h := itb h; rcases h with ⟨c1, h⟩ | ⟨c1, h⟩
    ·cases h
     simp only [go_sem, c_unroll_frames_add_l1, c_unroll_frames_add_p1, *]
    ·replace h := itb h; rcases h with ⟨c2, h⟩ | ⟨c2, h⟩
     ·replace h := need h; obtain ⟨H2, h⟩ := h
      cases h
      simp only [go_sem, c_unroll_frames_add_l1, c_unroll_frames_add_p1, *]
     ·cases h
      simp only [go_sem, c_unroll_frames_add_l1, c_unroll_frames_add_p1, *]
   ·intro e τ hJ
    rcases x0 with x0' | x0'
    ·obtain ⟨rfl, f45, f46, f47, f48, f49, f50, f51, ⟨gr_0_2, f52⟩, ⟨gr_0_3, f53⟩, f54, ⟨gr_0_5, f55⟩, ⟨gr_0_6, f56⟩, ⟨gr_1_1, f57⟩, ⟨gr_1_11, f58⟩, ⟨gr_2_0, f59⟩, f60, f61, f62, f63, f64, f65, f66, f67, f68, f69⟩ := hJ
     cases h
     simp only [go_sem, LQ_inl, I_unroll_frames_add_u2_L0, c_unroll_frames_add_l1, *]
    ·obtain ⟨rfl, f70, f71, ⟨gr_0_2, f72⟩, ⟨gr_0_3, f73⟩, f74, ⟨gr_0_5, f75⟩, ⟨gr_0_6, f76⟩, ⟨gr_1_1, f77⟩, ⟨gr_1_11, f78⟩, f79, f80, f81, f82, f83, f84, f85, f86, f87, f88⟩ := hJ
     cases h
     simp only [go_sem, LQ_inr, J_unroll_frames_add_u2_L0, c_unroll_frames_add_l1, *]
  ·cases h
   simp only [go_sem, LQ_inr, J_unroll_frames_add_u2_L0, c_unroll_frames_add_l1, *]
) h hI hQ
noncomputable def w_unroll_frames_add_u2 (a0 : S_Circuit) (a1 : Int) (a2 : List (List Int)) (a3 : List (List Int)) (a4 : Int) (a5 : List (List Int)) (a6 : List (List Int)) (a7 : List Int) (a8 : List Int) : Option ((List (List Int))) :=
 (Lp (b_unroll_frames_add_u2_L0 a0 a1 a2 a3 a4 a5 a6 a7 a8) (([] : List Int), 0)).bind fun x0 =>
 match x0 with
 | .inl x0' =>
  (s_clause_Make a4 x0').bind fun r0 =>
  (if (r0.2.2 == 0) = true then
    some (!r0.2.1)
   else
    some false).bind fun x1 =>
  if x1 = true then
   if a6.length + 1 ≤ big then
    some (a6 ++ ([r0.1] : List (List Int)))
   else none
  else
   some a6
 | .inr x0' =>
  some a6
theorem E_unroll_frames_add_u2 (a0 : S_Circuit) (a1 : Int) (a2 : List (List Int)) (a3 : List (List Int)) (a4 : Int) (a5 : List (List Int)) (a6 : List (List Int)) (a7 : List Int) (a8 : List Int) {r : (List (List Int))} (h : w_unroll_frames_add_u2 a0 a1 a2 a3 a4 a5 a6 a7 a8 = some r) {up : List Lv} {K : V → St → Prop} (hI : ∀ xs, (St.ini xs up).obj 2 0 = oB0 a0 ∧ (St.ini xs up).obj 2 1 = oB5 a1 a2.length a3.length ∧ (∃ gr_0_2, (St.ini xs up).obj 2 2 = some (.rw 1 (a2.map (eL 1 eI)) gr_0_2)) ∧ (∃ gr_0_3, (St.ini xs up).obj 2 3 = some (.rw 1 (a3.map (eL 1 eI)) gr_0_3)) ∧ (St.ini xs up).obj 2 4 = oB6 a4 a5.length a6.length ∧ (∃ gr_0_5, (St.ini xs up).obj 2 5 = some (.rw 1 (a5.map (eL 1 eI)) gr_0_5)) ∧ (∃ gr_0_6, (St.ini xs up).obj 2 6 = some (.rw 1 (a6.map (eL 1 eI)) gr_0_6)) ∧ (∃ gr_1_1, (St.ini xs up).obj 1 1 = some (.rw 1 (a7.map eI) gr_1_1)) ∧ (∃ gr_1_11, (St.ini xs up).obj 1 11 = some (.rw 1 (a8.map eI) gr_1_11)) ∧ (St.ini xs up).obj 2 10 = none ∧ (St.ini xs up).obj 1 3 = none ∧ (St.ini xs up).obj 1 5 = none ∧ (St.ini xs up).obj 1 8 = none ∧ (St.ini xs up).obj 1 12 = none ∧ (St.ini xs up).obj 1 13 = none ∧ (St.ini xs up).obj 0 0 = none ∧ (St.ini xs up).obj 0 2 = none ∧ (St.ini xs up).obj 0 3 = none ∧ (St.ini xs up).obj 0 4 = none ∧ (St.ini xs up).up.length = 2)
  (hK : ∀ v σ', v = (.tp []) ∧ σ'.obj 2 0 = oB0 a0 ∧ σ'.obj 2 1 = oB5 a1 a2.length a3.length ∧ (∃ gr_0_2, σ'.obj 2 2 = some (.rw 1 (a2.map (eL 1 eI)) gr_0_2)) ∧ (∃ gr_0_3, σ'.obj 2 3 = some (.rw 1 (a3.map (eL 1 eI)) gr_0_3)) ∧ σ'.obj 2 4 = oB6 a4 a5.length r.length ∧ (∃ gr_0_5, σ'.obj 2 5 = some (.rw 1 (a5.map (eL 1 eI)) gr_0_5)) ∧ (∃ gr_0_6, σ'.obj 2 6 = some (.rw 1 (r.map (eL 1 eI)) gr_0_6)) ∧ (∃ gr_1_1, σ'.obj 1 1 = some (.rw 1 (a7.map eI) gr_1_1)) ∧ (∃ gr_1_11, σ'.obj 1 11 = some (.rw 1 (a8.map eI) gr_1_11)) ∧ σ'.obj 2 10 = none ∧ σ'.obj 1 3 = none ∧ σ'.obj 1 5 = none ∧ σ'.obj 1 8 = none ∧ σ'.obj 1 12 = none ∧ σ'.obj 1 13 = none ∧ σ'.up.length = 2 → K v σ') : AtFn env k_unroll_frames_add [(.ptr 2 4 0), (.row 1 11 0 a8.length 1)] up K := by
 obtain ⟨f0, f1, ⟨gr_0_2, f2⟩, ⟨gr_0_3, f3⟩, f4, ⟨gr_0_5, f5⟩, ⟨gr_0_6, f6⟩, ⟨gr_1_1, f7⟩, ⟨gr_1_11, f8⟩, f9, f10, f11, f12, f13, f14, f15, f16, f17, f18, hup⟩ := hI [(.ptr 2 4 0), (.row 1 11 0 a8.length 1)]
 have hu : up.length = 2 := hup
 clear hI
 refine AtFn_mono ?_ hK
 clear hK
 unfold w_unroll_frames_add_u2 at h
 rw [AtF fn_unroll_frames_add]
 simp only [n_unroll_frames_add]
 replace h := bsome h; obtain ⟨x0, H0, h⟩ := h
 try simp only [go_sem, *]
 refine L_unroll_frames_add_u2_L0 a0 a1 a2 a3 a4 a5 a6 a7 a8 H0 ?_ ?_
 ·clear h
  simp only [go_sem, I_unroll_frames_add_u2_L0, *]
 ·intro e τ hJ
  rcases x0 with x0' | x0'
  ·obtain ⟨rfl, f20, f21, f22, f23, ⟨gr_0_2, f24⟩, ⟨gr_0_3, f25⟩, f26, ⟨gr_0_5, f27⟩, ⟨gr_0_6, f28⟩, ⟨gr_1_1, f29⟩, ⟨gr_1_11, f30⟩, ⟨gr_2_0, f31⟩, f32, f33, f34, f35, f36, f37, f38, f39, f40, f41⟩ := hJ
   replace h := bsome h; obtain ⟨r0, H1, h⟩ := h
   have k0 := AtCall_all (s_clause_Make_ok H1); try dsimp only at k0
   replace h := bsome h; obtain ⟨x1, H2, h⟩ := h
   try simp only [go_sem, *]
   refine WC.mono (Q := fun e σ' => e = .normal ∧ σ'.get 0 = (.ptr 2 4 0) ∧ σ'.get 7 = (.d true (.lst 1 (r0.1.map eI))) ∧ σ'.get 41 = (.d true (.bool x1)) ∧ σ'.obj 2 0 = oB0 a0 ∧ σ'.obj 2 1 = oB5 a1 a2.length a3.length ∧ (∃ gr_0_2, σ'.obj 2 2 = some (.rw 1 (a2.map (eL 1 eI)) gr_0_2)) ∧ (∃ gr_0_3, σ'.obj 2 3 = some (.rw 1 (a3.map (eL 1 eI)) gr_0_3)) ∧ σ'.obj 2 4 = oB6 a4 a5.length a6.length ∧ (∃ gr_0_5, σ'.obj 2 5 = some (.rw 1 (a5.map (eL 1 eI)) gr_0_5)) ∧ (∃ gr_0_6, σ'.obj 2 6 = some (.rw 1 (a6.map (eL 1 eI)) gr_0_6)) ∧ (∃ gr_1_1, σ'.obj 1 1 = some (.rw 1 (a7.map eI) gr_1_1)) ∧ (∃ gr_1_11, σ'.obj 1 11 = some (.rw 1 (a8.map eI) gr_1_11)) ∧ σ'.obj 2 10 = none ∧ σ'.obj 1 3 = none ∧ σ'.obj 1 5 = none ∧ σ'.obj 1 8 = none ∧ σ'.obj 1 12 = none ∧ σ'.obj 1 13 = none ∧ σ'.obj 0 2 = none ∧ σ'.obj 0 3 = none ∧ σ'.obj 0 4 = none ∧ σ'.up.length = 2) ?_ ?_
   ·replace h := H2
    clear H2
    replace h := itb h; rcases h with ⟨c0, h⟩ | ⟨c0, h⟩
    ·cases h
     simp only [go_sem, c_unroll_frames_add_p2, *]
    ·cases h
     simp only [go_sem, c_unroll_frames_add_p2, *]
   ·intro e τ hJ
    obtain ⟨rfl, f42, f43, f44, f45, f46, ⟨gr_0_2, f47⟩, ⟨gr_0_3, f48⟩, f49, ⟨gr_0_5, f50⟩, ⟨gr_0_6, f51⟩, ⟨gr_1_1, f52⟩, ⟨gr_1_11, f53⟩, f54, f55, f56, f57, f58, f59, f60, f61, f62, f63⟩ := hJ
    replace h := itb h; rcases h with ⟨c1, h⟩ | ⟨c1, h⟩
    ·replace h := need h; obtain ⟨H3, h⟩ := h
     cases h
     simp only [go_sem, *]
    ·cases h
     simp only [go_sem, *]
  ·obtain ⟨rfl, f64, f65, ⟨gr_0_2, f66⟩, ⟨gr_0_3, f67⟩, f68, ⟨gr_0_5, f69⟩, ⟨gr_0_6, f70⟩, ⟨gr_1_1, f71⟩, ⟨gr_1_11, f72⟩, f73, f74, f75, f76, f77, f78, f79, f80, f81, f82⟩ := hJ
   cases h
   simp only [go_sem, *]
noncomputable def b_unroll_frames_frame_u0_L2 (a0 : S_Circuit) (a2 : S_Circuit) (a3 : Int) (a4 : List (List Int)) (a5 : List (List Int)) (a7 : List (List Int)) (s2 : Int × (List (List Int)) × (List Int) × Int) : Option ((Int × (List (List Int)) × (List Int) × Int) ⊕ ((Int × (List (List Int)) × (List Int)) ⊕ (Int × (List (List Int))))) :=
 if (decide (s2.2.2.2 < (a0.Ands.length : Int))) = true then
  (idx a0.Ands s2.2.2.2).bind fun x2 =>
  if (decide ((IntKind.wrap .i64 (s2.1 + 1)) > 4000)) = true then
   some (Sum.inr (Sum.inr ((IntKind.wrap .i64 (s2.1 + 1)), s2.2.1)))
  else
   (s_unroll_lit s2.2.2.1 x2.A).bind fun r0 =>
   (s_unroll_lit s2.2.2.1 x2.B).bind fun r1 =>
   if s2.2.2.1.length + 1 ≤ big then
    (w_unroll_frames_add_u0 a2 a3 a4 a5 (IntKind.wrap .i64 (s2.1 + 1)) a7 s2.2.1 (s2.2.2.1 ++ ([(IntKind.wrap .i64 (2 * (IntKind.wrap .i64 (s2.1 + 1))))] : List Int)) ([(xorI .i64 (IntKind.wrap .i64 (2 * (IntKind.wrap .i64 (s2.1 + 1)))) 1), r0] : List Int)).bind fun x3 =>
    (w_unroll_frames_add_u1 a2 a3 a4 a5 (IntKind.wrap .i64 (s2.1 + 1)) a7 x3 (s2.2.2.1 ++ ([(IntKind.wrap .i64 (2 * (IntKind.wrap .i64 (s2.1 + 1))))] : List Int)) ([(xorI .i64 (IntKind.wrap .i64 (2 * (IntKind.wrap .i64 (s2.1 + 1)))) 1), r1] : List Int)).bind fun x4 =>
    (w_unroll_frames_add_u2 a2 a3 a4 a5 (IntKind.wrap .i64 (s2.1 + 1)) a7 x4 (s2.2.2.1 ++ ([(IntKind.wrap .i64 (2 * (IntKind.wrap .i64 (s2.1 + 1))))] : List Int)) ([(IntKind.wrap .i64 (2 * (IntKind.wrap .i64 (s2.1 + 1)))), (xorI .i64 r0 1), (xorI .i64 r1 1)] : List Int)).bind fun x5 =>
    some (Sum.inl ((IntKind.wrap .i64 (s2.1 + 1)), x5, (s2.2.2.1 ++ ([(IntKind.wrap .i64 (2 * (IntKind.wrap .i64 (s2.1 + 1))))] : List Int)), (IntKind.wrap .i64 (s2.2.2.2 + 1))))
   else none
 else
  some (Sum.inr (Sum.inl (s2.1, s2.2.1, s2.2.2.1)))
def I_unroll_frames_frame_u0_L2 (a0 : S_Circuit) (a2 : S_Circuit) (a3 : Int) (a4 : List (List Int)) (a5 : List (List Int)) (a7 : List (List Int)) (s2 : Int × (List (List Int)) × (List Int) × Int) (σ : St) : Prop := σ.get 0 = (.ptr 1 4 0) ∧ σ.get 7 = (.row 0 1 0 s2.2.2.1.length 1) ∧ σ.get 42 = (.d false (.lst 2 (a0.Ands.map eS_And))) ∧ σ.get 43 = (.d true (.int .i64 (a0.Ands.length : Int))) ∧ σ.get 44 = (.d true (.int .i64 s2.2.2.2)) ∧ σ.obj 1 0 = oB0 a2 ∧ σ.obj 1 1 = oB5 a3 a4.length a5.length ∧ (∃ gr_0_2, σ.obj 1 2 = some (.rw 1 (a4.map (eL 1 eI)) gr_0_2)) ∧ (∃ gr_0_3, σ.obj 1 3 = some (.rw 1 (a5.map (eL 1 eI)) gr_0_3)) ∧ σ.obj 1 4 = oB6 s2.1 a7.length s2.2.1.length ∧ (∃ gr_0_5, σ.obj 1 5 = some (.rw 1 (a7.map (eL 1 eI)) gr_0_5)) ∧ (∃ gr_0_6, σ.obj 1 6 = some (.rw 1 (s2.2.1.map (eL 1 eI)) gr_0_6)) ∧ (∃ gr_1_1, σ.obj 0 1 = some (.rw 1 (s2.2.2.1.map eI) gr_1_1)) ∧ σ.obj 1 10 = none ∧ σ.obj 0 3 = none ∧ σ.obj 0 5 = none ∧ σ.obj 0 8 = none ∧ σ.obj 0 12 = none ∧ σ.obj 0 13 = none ∧ σ.up.length = 1
def J_unroll_frames_frame_u0_L2 (a0 : S_Circuit) (a2 : S_Circuit) (a3 : Int) (a4 : List (List Int)) (a5 : List (List Int)) (a7 : List (List Int)) (r : (Int × (List (List Int)) × (List Int)) ⊕ (Int × (List (List Int)))) (e : Ex) (σ' : St) : Prop := (Sum.elim (fun o0 => e = (.exit 4) ∧ σ'.get 0 = (.ptr 1 4 0) ∧ σ'.get 7 = (.row 0 1 0 o0.2.2.length 1) ∧ σ'.obj 1 0 = oB0 a2 ∧ σ'.obj 1 1 = oB5 a3 a4.length a5.length ∧ (∃ gr_0_2, σ'.obj 1 2 = some (.rw 1 (a4.map (eL 1 eI)) gr_0_2)) ∧ (∃ gr_0_3, σ'.obj 1 3 = some (.rw 1 (a5.map (eL 1 eI)) gr_0_3)) ∧ σ'.obj 1 4 = oB6 o0.1 a7.length o0.2.1.length ∧ (∃ gr_0_5, σ'.obj 1 5 = some (.rw 1 (a7.map (eL 1 eI)) gr_0_5)) ∧ (∃ gr_0_6, σ'.obj 1 6 = some (.rw 1 (o0.2.1.map (eL 1 eI)) gr_0_6)) ∧ (∃ gr_1_1, σ'.obj 0 1 = some (.rw 1 (o0.2.2.map eI) gr_1_1)) ∧ σ'.obj 1 10 = none ∧ σ'.obj 0 3 = none ∧ σ'.obj 0 5 = none ∧ σ'.obj 0 8 = none ∧ σ'.obj 0 12 = none ∧ σ'.obj 0 13 = none ∧ σ'.up.length = 1) (fun o1 => e = .ret ∧ σ'.get 6 = (.d true (.bool false)) ∧ σ'.obj 1 0 = oB0 a2 ∧ σ'.obj 1 1 = oB5 a3 a4.length a5.length ∧ (∃ gr_0_2, σ'.obj 1 2 = some (.rw 1 (a4.map (eL 1 eI)) gr_0_2)) ∧ (∃ gr_0_3, σ'.obj 1 3 = some (.rw 1 (a5.map (eL 1 eI)) gr_0_3)) ∧ σ'.obj 1 4 = oB6 o1.1 a7.length o1.2.length ∧ (∃ gr_0_5, σ'.obj 1 5 = some (.rw 1 (a7.map (eL 1 eI)) gr_0_5)) ∧ (∃ gr_0_6, σ'.obj 1 6 = some (.rw 1 (o1.2.map (eL 1 eI)) gr_0_6)) ∧ σ'.obj 1 10 = none ∧ σ'.obj 0 3 = none ∧ σ'.obj 0 5 = none ∧ σ'.obj 0 8 = none ∧ σ'.obj 0 12 = none ∧ σ'.obj 0 13 = none ∧ σ'.up.length = 1)) r
theorem L_unroll_frames_frame_u0_L2 (a0 : S_Circuit) (a2 : S_Circuit) (a3 : Int) (a4 : List (List Int)) (a5 : List (List Int)) (a7 : List (List Int)) {s : Int × (List (List Int)) × (List Int) × Int} {r : (Int × (List (List Int)) × (List Int)) ⊕ (Int × (List (List Int)))} (h : Lp (b_unroll_frames_frame_u0_L2 a0 a2 a3 a4 a5 a7) s = some r) {σ : St} {Q : Ex → St → Prop} (hI : I_unroll_frames_frame_u0_L2 a0 a2 a3 a4 a5 a7 s σ) (hQ : ∀ e σ', J_unroll_frames_frame_u0_L2 a0 a2 a3 a4 a5 a7 r e σ' → Q e σ') : WC env (.loop c_unroll_frames_frame_l3) σ Q :=
 WC_Lp (I_unroll_frames_frame_u0_L2 a0 a2 a3 a4 a5 a7) (J_unroll_frames_frame_u0_L2 a0 a2 a3 a4 a5 a7) (by
  clear h hI hQ
  clear s r σ Q
  intro s2 σ x hI h
  obtain ⟨f55, f56, f57, f58, f59, f60, f61, ⟨gr_0_2, f62⟩, ⟨gr_0_3, f63⟩, f64, ⟨gr_0_5, f65⟩, ⟨gr_0_6, f66⟩, ⟨gr_1_1, f67⟩, f68, f69, f70, f71, f72, f73, f74⟩ := hI
  unfold b_unroll_frames_frame_u0_L2 at h
  replace h := itb h; rcases h with ⟨c0, h⟩ | ⟨c0, h⟩
  ·replace h := bsome h; obtain ⟨x2, H2, h⟩ := h
   have n0 := idx_n H2; have q0 := idx_q H2; have y0 := idx_x H2
   replace h := itb h; rcases h with ⟨c1, h⟩ | ⟨c1, h⟩
   ·cases h
    simp only [go_sem, LQ_inr, J_unroll_frames_frame_u0_L2, c_unroll_frames_frame_l3, *]
   ·replace h := bsome h; obtain ⟨r0, H3, h⟩ := h
    have k0 := AtCall_all (s_unroll_lit_ok H3); try dsimp only at k0
    replace h := bsome h; obtain ⟨r1, H4, h⟩ := h
    have k1 := AtCall_all (s_unroll_lit_ok H4); try dsimp only at k1
    replace h := need h; obtain ⟨H5, h⟩ := h
    replace h := bsome h; obtain ⟨x3, H6, h⟩ := h
    try simp only [go_sem, c_unroll_frames_frame_l3, *, fn_unroll_frames_add, n_unroll_frames_add]
    refine E_unroll_frames_add_u0 a2 a3 a4 a5 (IntKind.wrap .i64 (s2.1 + 1)) a7 s2.2.1 (s2.2.2.1 ++ ([(IntKind.wrap .i64 (2 * (IntKind.wrap .i64 (s2.1 + 1))))] : List Int)) ([(xorI .i64 (IntKind.wrap .i64 (2 * (IntKind.wrap .i64 (s2.1 + 1)))) 1), r0] : List Int) H6 (fun xs => ?_) ?_
    ·clear h
     simp only [go_sem, c_unroll_frames_frame_l3, *, fn_unroll_frames_add, n_unroll_frames_add]
    ·intro v τ hJ
     obtain ⟨rfl, f75, f76, ⟨gr_0_2, f77⟩, ⟨gr_0_3, f78⟩, f79, ⟨gr_0_5, f80⟩, ⟨gr_0_6, f81⟩, ⟨gr_1_1, f82⟩, ⟨gr_1_9, f83⟩, f84, f85, f86, f87, f88, f89, f90⟩ := hJ
     replace h := bsome h; obtain ⟨x4, H7, h⟩ := h
     try simp only [go_sem, c_unroll_frames_frame_l3, *, fn_unroll_frames_add, n_unroll_frames_add]
     refine E_unroll_frames_add_u1 a2 a3 a4 a5 (IntKind.wrap .i64 (s2.1 + 1)) a7 x3 (s2.2.2.1 ++ ([(IntKind.wrap .i64 (2 * (IntKind.wrap .i64 (s2.1 + 1))))] : List Int)) ([(xorI .i64 (IntKind.wrap .i64 (2 * (IntKind.wrap .i64 (s2.1 + 1)))) 1), r1] : List Int) H7 (fun xs => ?_) ?_
     ·clear h
      simp only [go_sem, c_unroll_frames_frame_l3, *, fn_unroll_frames_add, n_unroll_frames_add]
     ·intro v τ hJ
      obtain ⟨rfl, f91, f92, ⟨gr_0_2, f93⟩, ⟨gr_0_3, f94⟩, f95, ⟨gr_0_5, f96⟩, ⟨gr_0_6, f97⟩, ⟨gr_1_1, f98⟩, ⟨gr_1_10, f99⟩, f100, f101, f102, f103, f104, f105, f106⟩ := hJ
      replace h := bsome h; obtain ⟨x5, H8, h⟩ := h
      try simp only [go_sem, c_unroll_frames_frame_l3, *, fn_unroll_frames_add, n_unroll_frames_add]
      refine E_unroll_frames_add_u2 a2 a3 a4 a5 (IntKind.wrap .i64 (s2.1 + 1)) a7 x4 (s2.2.2.1 ++ ([(IntKind.wrap .i64 (2 * (IntKind.wrap .i64 (s2.1 + 1))))] : List Int)) ([(IntKind.wrap .i64 (2 * (IntKind.wrap .i64 (s2.1 + 1)))), (xorI .i64 r0 1), (xorI .i64 r1 1)] : List Int) H8 (fun xs => ?_) ?_
      ·clear h
       simp only [go_sem, c_unroll_frames_frame_l3, *, fn_unroll_frames_add, n_unroll_frames_add]
      ·intro v τ hJ
       obtain ⟨rfl, f107, f108, ⟨gr_0_2, f109⟩, ⟨gr_0_3, f110⟩, f111, ⟨gr_0_5, f112⟩, ⟨gr_0_6, f113⟩, ⟨gr_1_1, f114⟩, ⟨gr_1_11, f115⟩, f116, f117, f118, f119, f120, f121, f122⟩ := hJ
       cases h
       simp only [go_sem, LQ_inl, I_unroll_frames_frame_u0_L2, c_unroll_frames_frame_l3, *]
  ·cases h
   simp only [go_sem, LQ_inr, J_unroll_frames_frame_u0_L2, c_unroll_frames_frame_l3, *]
) h hI hQ
noncomputable def w_unroll_frames_frame_u0 (a0 : S_Circuit) (a1 : List Int) (a2 : S_Circuit) (a3 : Int) (a4 : List (List Int)) (a5 : List (List Int)) (a6 : Int) (a7 : List (List Int)) (a8 : List (List Int)) : Option (Int × (List (List Int)) × (List (List Int)) × Bool) :=
 (Lp (b_unroll_frames_frame_u0_L0 a0 a1 a2 a3 a4 a5 a7 a8) (a6, ([0] : List Int), 0)).bind fun x0 =>
 (Lp (b_unroll_frames_frame_u0_L1 a0 a1 a2 a3 a4 a5 a7 a8) (x0.1, x0.2, 0)).bind fun x1 =>
 (Lp (b_unroll_frames_frame_u0_L2 a0 a2 a3 a4 a5 a7) (x1.1, a8, x1.2, 0)).bind fun x2 =>
 match x2 with
 | .inl x2' =>
  if a7.length + 1 ≤ big then
   (if (decide (x2'.1 ≤ 4000)) = true then
     some (decide ((x2'.2.1.length : Int) ≤ 20000))
    else
     some false).bind fun x3 =>
   some (x2'.1, (a7 ++ ([x2'.2.2] : List (List Int))), x2'.2.1, x3)
  else none
 | .inr x2' =>
  some (x2'.1, a7, x2'.2, false)
theorem E_unroll_frames_frame_u0 (a0 : S_Circuit) (a1 : List Int) (a2 : S_Circuit) (a3 : Int) (a4 : List (List Int)) (a5 : List (List Int)) (a6 : Int) (a7 : List (List Int)) (a8 : List (List Int)) {r : Int × (List (List Int)) × (List (List Int)) × Bool} (h : w_unroll_frames_frame_u0 a0 a1 a2 a3 a4 a5 a6 a7 a8 = some r) {up : List Lv} {K : V → St → Prop} (hI : ∀ xs, (St.ini xs up).obj 1 0 = oB0 a2 ∧ (St.ini xs up).obj 1 1 = oB5 a3 a4.length a5.length ∧ (∃ gr_0_2, (St.ini xs up).obj 1 2 = some (.rw 1 (a4.map (eL 1 eI)) gr_0_2)) ∧ (∃ gr_0_3, (St.ini xs up).obj 1 3 = some (.rw 1 (a5.map (eL 1 eI)) gr_0_3)) ∧ (St.ini xs up).obj 1 4 = oB6 a6 a7.length a8.length ∧ (∃ gr_0_5, (St.ini xs up).obj 1 5 = some (.rw 1 (a7.map (eL 1 eI)) gr_0_5)) ∧ (∃ gr_0_6, (St.ini xs up).obj 1 6 = some (.rw 1 (a8.map (eL 1 eI)) gr_0_6)) ∧ (St.ini xs up).obj 1 10 = none ∧ (St.ini xs up).obj 0 0 = none ∧ (St.ini xs up).obj 0 1 = none ∧ (St.ini xs up).obj 0 3 = none ∧ (St.ini xs up).obj 0 5 = none ∧ (St.ini xs up).obj 0 8 = none ∧ (St.ini xs up).obj 0 12 = none ∧ (St.ini xs up).obj 0 13 = none ∧ (St.ini xs up).up.length = 1)
  (hK : ∀ v σ', v = (.d true (.bool r.2.2.2)) ∧ σ'.obj 1 0 = oB0 a2 ∧ σ'.obj 1 1 = oB5 a3 a4.length a5.length ∧ (∃ gr_0_2, σ'.obj 1 2 = some (.rw 1 (a4.map (eL 1 eI)) gr_0_2)) ∧ (∃ gr_0_3, σ'.obj 1 3 = some (.rw 1 (a5.map (eL 1 eI)) gr_0_3)) ∧ σ'.obj 1 4 = oB6 r.1 r.2.1.length r.2.2.1.length ∧ (∃ gr_0_5, σ'.obj 1 5 = some (.rw 1 (r.2.1.map (eL 1 eI)) gr_0_5)) ∧ (∃ gr_0_6, σ'.obj 1 6 = some (.rw 1 (r.2.2.1.map (eL 1 eI)) gr_0_6)) ∧ σ'.obj 1 10 = none ∧ σ'.up.length = 1 → K v σ') : AtFn env k_unroll_frames_frame [(.ptr 1 4 0), (.ag [(.d true (.int .i64 a0.Inputs)), (.d false (.lst 2 (a0.Latches.map eS_Latch))), (.d false (.lst 2 (a0.Ands.map eS_And))), (.d false (.lst 1 (a0.Bads.map eI))), (.d false (.lst 1 (a0.Constraints.map eI)))]), (.d false (.lst 1 (a1.map eI)))] up K := by
 obtain ⟨f0, f1, ⟨gr_0_2, f2⟩, ⟨gr_0_3, f3⟩, f4, ⟨gr_0_5, f5⟩, ⟨gr_0_6, f6⟩, f7, f8, f9, f10, f11, f12, f13, f14, hup⟩ := hI [(.ptr 1 4 0), (.ag [(.d true (.int .i64 a0.Inputs)), (.d false (.lst 2 (a0.Latches.map eS_Latch))), (.d false (.lst 2 (a0.Ands.map eS_And))), (.d false (.lst 1 (a0.Bads.map eI))), (.d false (.lst 1 (a0.Constraints.map eI)))]), (.d false (.lst 1 (a1.map eI)))]
 have hu : up.length = 1 := hup
 clear hI
 refine AtFn_mono ?_ hK
 clear hK
 unfold w_unroll_frames_frame_u0 at h
 rw [AtF fn_unroll_frames_frame]
 simp only [n_unroll_frames_frame]
 replace h := bsome h; obtain ⟨x0, H0, h⟩ := h
 try simp only [go_sem, *]
 refine L_unroll_frames_frame_u0_L0 a0 a1 a2 a3 a4 a5 a7 a8 H0 ?_ ?_
 ·clear h
  simp only [go_sem, I_unroll_frames_frame_u0_L0, *]
 ·intro e τ hJ
  obtain ⟨rfl, f16, f17, f18, f19, f20, f21, ⟨gr_0_2, f22⟩, ⟨gr_0_3, f23⟩, f24, ⟨gr_0_5, f25⟩, ⟨gr_0_6, f26⟩, f27, ⟨gr_1_1, f28⟩, f29, f30, f31, f32, f33, f34, f35⟩ := hJ
  replace h := bsome h; obtain ⟨x1, H1, h⟩ := h
  try simp only [go_sem, *]
  refine L_unroll_frames_frame_u0_L1 a0 a1 a2 a3 a4 a5 a7 a8 H1 ?_ ?_
  ·clear h
   simp only [go_sem, I_unroll_frames_frame_u0_L1, *]
  ·intro e τ hJ
   obtain ⟨rfl, f36, f37, f38, f39, f40, ⟨gr_0_2, f41⟩, ⟨gr_0_3, f42⟩, f43, ⟨gr_0_5, f44⟩, ⟨gr_0_6, f45⟩, f46, ⟨gr_1_1, f47⟩, f48, f49, f50, f51, f52, f53, f54⟩ := hJ
   replace h := bsome h; obtain ⟨x2, H2, h⟩ := h
   try simp only [go_sem, *]
   refine L_unroll_frames_frame_u0_L2 a0 a2 a3 a4 a5 a7 H2 ?_ ?_
   ·clear h
    simp only [go_sem, I_unroll_frames_frame_u0_L2, *]
   ·intro e τ hJ
    rcases x2 with x2' | x2'
    ·obtain ⟨rfl, f55, f56, f57, f58, ⟨gr_0_2, f59⟩, ⟨gr_0_3, f60⟩, f61, ⟨gr_0_5, f62⟩, ⟨gr_0_6, f63⟩, ⟨gr_1_1, f64⟩, f65, f66, f67, f68, f69, f70, f71⟩ := hJ
     replace h := need h; obtain ⟨H3, h⟩ := h
     replace h := bsome h; obtain ⟨x3, H4, h⟩ := h
     try simp only [go_sem, *]
     refine WC.mono (Q := fun e σ' => e = .normal ∧ σ'.get 6 = (.d true (.bool x3)) ∧ σ'.obj 1 0 = oB0 a2 ∧ σ'.obj 1 1 = oB5 a3 a4.length a5.length ∧ (∃ gr_0_2, σ'.obj 1 2 = some (.rw 1 (a4.map (eL 1 eI)) gr_0_2)) ∧ (∃ gr_0_3, σ'.obj 1 3 = some (.rw 1 (a5.map (eL 1 eI)) gr_0_3)) ∧ σ'.obj 1 4 = oB6 x2'.1 ((a7 ++ ([x2'.2.2] : List (List Int))).length) x2'.2.1.length ∧ σ'.obj 1 5 = some (.rw 1 ((a7 ++ ([x2'.2.2] : List (List Int))).map (eL 1 eI)) true) ∧ (∃ gr_0_6, σ'.obj 1 6 = some (.rw 1 (x2'.2.1.map (eL 1 eI)) gr_0_6)) ∧ σ'.obj 1 10 = none ∧ σ'.obj 0 3 = none ∧ σ'.obj 0 5 = none ∧ σ'.obj 0 8 = none ∧ σ'.obj 0 13 = none ∧ σ'.up.length = 1) ?_ ?_
     ·replace h := H4
      clear H4
      replace h := itb h; rcases h with ⟨c0, h⟩ | ⟨c0, h⟩
      ·cases h
       simp only [go_sem, c_unroll_frames_frame_p2, *]
      ·cases h
       simp only [go_sem, c_unroll_frames_frame_p2, *]
     ·intro e τ hJ
      obtain ⟨rfl, f72, f73, f74, ⟨gr_0_2, f75⟩, ⟨gr_0_3, f76⟩, f77, f78, ⟨gr_0_6, f79⟩, f80, f81, f82, f83, f84, f85⟩ := hJ
      cases h
      simp only [go_sem, *]
    ·obtain ⟨rfl, f86, f87, f88, ⟨gr_0_2, f89⟩, ⟨gr_0_3, f90⟩, f91, ⟨gr_0_5, f92⟩, ⟨gr_0_6, f93⟩, f94, f95, f96, f97, f98, f99, f100⟩ := hJ
     cases h
     simp only [go_sem, *]
noncomputable def b_unroll_made_L0 (p0 : S_Circuit) (p1 : Int) (x1 : Int × (List (List Int)) × (List (List Int)) × Bool) (x2 : (List Int)) (s0 : (List Int) × Int) : Option (((List Int) × Int) ⊕ ((List Int))) :=
 if (decide (s0.2 < (p0.Latches.length : Int))) = true then
  (idx p0.Latches s0.2).bind fun x3 =>
  (s_unroll_lit x2 x3.Next).bind fun r0 =>
  if s0.1.length + 1 ≤ big then
   some (Sum.inl ((s0.1 ++ ([r0] : List Int)), (IntKind.wrap .i64 (s0.2 + 1))))
  else none
 else
  some (Sum.inr s0.1)
def I_unroll_made_L0 (p0 : S_Circuit) (p1 : Int) (x1 : Int × (List (List Int)) × (List (List Int)) × Bool) (x2 : (List Int)) (s0 : (List Int) × Int) (σ : St) : Prop := σ.get 2 = (.row 0 7 0 s0.1.length 1) ∧ σ.get 3 = (.ptr 0 0 0) ∧ σ.get 6 = (.ptr 0 1 0) ∧ σ.get 8 = (.ptr 0 4 0) ∧ σ.get 9 = (.d true (.lst 1 (x2.map eI))) ∧ σ.get 19 = (.d true (.int .i64 p1)) ∧ σ.get 20 = (.d true (.int .i64 0)) ∧ σ.get 38 = (.d false (.lst 2 (p0.Latches.map eS_Latch))) ∧ σ.get 39 = (.d true (.int .i64 (p0.Latches.length : Int))) ∧ σ.get 40 = (.d true (.int .i64 s0.2)) ∧ σ.obj 0 0 = oB0 p0 ∧ σ.obj 0 1 = oB4 (([] : List (List Int)).length) (([] : List (List Int)).length) ∧ (∃ gr_0_2, σ.obj 0 2 = some (.rw 1 (([] : List (List Int)).map (eL 1 eI)) gr_0_2)) ∧ (∃ gr_0_3, σ.obj 0 3 = some (.rw 1 (([] : List (List Int)).map (eL 1 eI)) gr_0_3)) ∧ σ.obj 0 4 = oB6 x1.1 x1.2.1.length x1.2.2.1.length ∧ (∃ gr_0_5, σ.obj 0 5 = some (.rw 1 (x1.2.1.map (eL 1 eI)) gr_0_5)) ∧ (∃ gr_0_6, σ.obj 0 6 = some (.rw 1 (x1.2.2.1.map (eL 1 eI)) gr_0_6)) ∧ (∃ gr_0_7, σ.obj 0 7 = some (.rw 1 (s0.1.map eI) gr_0_7)) ∧ σ.obj 0 10 = none ∧ σ.up.length = 0
def J_unroll_made_L0 (p0 : S_Circuit) (p1 : Int) (x1 : Int × (List (List Int)) × (List (List Int)) × Bool) (x2 : (List Int)) (r : (List Int)) (e : Ex) (σ' : St) : Prop := e = (.exit 2) ∧ σ'.get 2 = (.row 0 7 0 r.length 1) ∧ σ'.get 3 = (.ptr 0 0 0) ∧ σ'.get 6 = (.ptr 0 1 0) ∧ σ'.get 8 = (.ptr 0 4 0) ∧ σ'.get 19 = (.d true (.int .i64 p1)) ∧ σ'.get 20 = (.d true (.int .i64 0)) ∧ σ'.obj 0 0 = oB0 p0 ∧ σ'.obj 0 1 = oB4 (([] : List (List Int)).length) (([] : List (List Int)).length) ∧ (∃ gr_0_2, σ'.obj 0 2 = some (.rw 1 (([] : List (List Int)).map (eL 1 eI)) gr_0_2)) ∧ (∃ gr_0_3, σ'.obj 0 3 = some (.rw 1 (([] : List (List Int)).map (eL 1 eI)) gr_0_3)) ∧ σ'.obj 0 4 = oB6 x1.1 x1.2.1.length x1.2.2.1.length ∧ (∃ gr_0_5, σ'.obj 0 5 = some (.rw 1 (x1.2.1.map (eL 1 eI)) gr_0_5)) ∧ (∃ gr_0_6, σ'.obj 0 6 = some (.rw 1 (x1.2.2.1.map (eL 1 eI)) gr_0_6)) ∧ (∃ gr_0_7, σ'.obj 0 7 = some (.rw 1 (r.map eI) gr_0_7)) ∧ σ'.obj 0 10 = none ∧ σ'.up.length = 0
theorem L_unroll_made_L0 (p0 : S_Circuit) (p1 : Int) (x1 : Int × (List (List Int)) × (List (List Int)) × Bool) (x2 : (List Int)) {s : (List Int) × Int} {r : (List Int)} (h : Lp (b_unroll_made_L0 p0 p1 x1 x2) s = some r) {σ : St} {Q : Ex → St → Prop} (hI : I_unroll_made_L0 p0 p1 x1 x2 s σ) (hQ : ∀ e σ', J_unroll_made_L0 p0 p1 x1 x2 r e σ' → Q e σ') : WC env (.loop c_unroll_made_l1) σ Q :=
 WC_Lp (I_unroll_made_L0 p0 p1 x1 x2) (J_unroll_made_L0 p0 p1 x1 x2) (by
  clear h hI hQ
  clear s r σ Q
  intro s0 σ x hI h
  obtain ⟨f23, f24, f25, f26, f27, f28, f29, f30, f31, f32, f33, f34, ⟨gr_0_2, f35⟩, ⟨gr_0_3, f36⟩, f37, ⟨gr_0_5, f38⟩, ⟨gr_0_6, f39⟩, ⟨gr_0_7, f40⟩, f41, f42⟩ := hI
  unfold b_unroll_made_L0 at h
  replace h := itb h; rcases h with ⟨c4, h⟩ | ⟨c4, h⟩
  ·replace h := bsome h; obtain ⟨x3, H3, h⟩ := h
   have n1 := idx_n H3; have q1 := idx_q H3; have y1 := idx_x H3
   replace h := bsome h; obtain ⟨r0, H4, h⟩ := h
   have k0 := AtCall_all (s_unroll_lit_ok H4); try dsimp only at k0
   replace h := need h; obtain ⟨H5, h⟩ := h
   cases h
   simp only [go_sem, LQ_inl, I_unroll_made_L0, c_unroll_made_l1, *]
  ·cases h
   simp only [go_sem, LQ_inr, J_unroll_made_L0, c_unroll_made_l1, *]
) h hI hQ
def b_unroll_frames_frame_u1_L0 (a0 : S_Circuit) (a1 : S_Circuit) (a2 : Int) (a3 : List (List Int)) (a4 : List (List Int)) (a6 : List (List Int)) (a7 : List (List Int)) (a8 : List Int) (s0 : Int × (List Int) × Int) : Option ((Int × (List Int) × Int) ⊕ (Int × (List Int))) :=
 if (decide (s0.2.2 < a0.Inputs)) = true then
  if s0.2.1.length + 1 ≤ big then
   some (Sum.inl ((IntKind.wrap .i64 (s0.1 + 1)), (s0.2.1 ++ ([(IntKind.wrap .i64 (2 * (IntKind.wrap .i64 (s0.1 + 1))))] : List Int)), (IntKind.wrap .i64 (s0.2.2 + 1))))
  else none
 else
  some (Sum.inr (s0.1, s0.2.1))
def I_unroll_frames_frame_u1_L0 (a0 : S_Circuit) (a1 : S_Circuit) (a2 : Int) (a3 : List (List Int)) (a4 : List (List Int)) (a6 : List (List Int)) (a7 : List (List Int)) (a8 : List Int) (s0 : Int × (List Int) × Int) (σ : St) : Prop := σ.get 0 = (.ptr 1 4 0) ∧ σ.get 2 = (.row 1 7 0 a8.length 1) ∧ σ.get 4 = (.ptr 0 0 0) ∧ σ.get 7 = (.row 0 1 0 s0.2.1.length 1) ∧ σ.get 17 = (.d true (.int .i64 a0.Inputs)) ∧ σ.get 18 = (.d true (.int .i64 s0.2.2)) ∧ σ.obj 1 0 = oB0 a1 ∧ σ.obj 1 1 = oB5 a2 a3.length a4.length ∧ (∃ gr_0_2, σ.obj 1 2 = some (.rw 1 (a3.map (eL 1 eI)) gr_0_2)) ∧ (∃ gr_0_3, σ.obj 1 3 = some (.rw 1 (a4.map (eL 1 eI)) gr_0_3)) ∧ σ.obj 1 4 = oB6 s0.1 a6.length a7.length ∧ (∃ gr_0_5, σ.obj 1 5 = some (.rw 1 (a6.map (eL 1 eI)) gr_0_5)) ∧ (∃ gr_0_6, σ.obj 1 6 = some (.rw 1 (a7.map (eL 1 eI)) gr_0_6)) ∧ (∃ gr_0_7, σ.obj 1 7 = some (.rw 1 (a8.map eI) gr_0_7)) ∧ σ.obj 0 0 = oB0 a0 ∧ (∃ gr_1_1, σ.obj 0 1 = some (.rw 1 (s0.2.1.map eI) gr_1_1)) ∧ σ.obj 1 10 = none ∧ σ.obj 0 3 = none ∧ σ.obj 0 5 = none ∧ σ.obj 0 8 = none ∧ σ.obj 0 12 = none ∧ σ.obj 0 13 = none ∧ σ.up.length = 1
def J_unroll_frames_frame_u1_L0 (a0 : S_Circuit) (a1 : S_Circuit) (a2 : Int) (a3 : List (List Int)) (a4 : List (List Int)) (a6 : List (List Int)) (a7 : List (List Int)) (a8 : List Int) (r : Int × (List Int)) (e : Ex) (σ' : St) : Prop := e = (.exit 0) ∧ σ'.get 0 = (.ptr 1 4 0) ∧ σ'.get 2 = (.row 1 7 0 a8.length 1) ∧ σ'.get 4 = (.ptr 0 0 0) ∧ σ'.get 7 = (.row 0 1 0 r.2.length 1) ∧ σ'.obj 1 0 = oB0 a1 ∧ σ'.obj 1 1 = oB5 a2 a3.length a4.length ∧ (∃ gr_0_2, σ'.obj 1 2 = some (.rw 1 (a3.map (eL 1 eI)) gr_0_2)) ∧ (∃ gr_0_3, σ'.obj 1 3 = some (.rw 1 (a4.map (eL 1 eI)) gr_0_3)) ∧ σ'.obj 1 4 = oB6 r.1 a6.length a7.length ∧ (∃ gr_0_5, σ'.obj 1 5 = some (.rw 1 (a6.map (eL 1 eI)) gr_0_5)) ∧ (∃ gr_0_6, σ'.obj 1 6 = some (.rw 1 (a7.map (eL 1 eI)) gr_0_6)) ∧ (∃ gr_0_7, σ'.obj 1 7 = some (.rw 1 (a8.map eI) gr_0_7)) ∧ σ'.obj 0 0 = oB0 a0 ∧ (∃ gr_1_1, σ'.obj 0 1 = some (.rw 1 (r.2.map eI) gr_1_1)) ∧ σ'.obj 1 10 = none ∧ σ'.obj 0 3 = none ∧ σ'.obj 0 5 = none ∧ σ'.obj 0 8 = none ∧ σ'.obj 0 12 = none ∧ σ'.obj 0 13 = none ∧ σ'.up.length = 1
theorem L_unroll_frames_frame_u1_L0 (a0 : S_Circuit) (a1 : S_Circuit) (a2 : Int) (a3 : List (List Int)) (a4 : List (List Int)) (a6 : List (List Int)) (a7 : List (List Int)) (a8 : List Int) {s : Int × (List Int) × Int} {r : Int × (List Int)} (h : Lp (b_unroll_frames_frame_u1_L0 a0 a1 a2 a3 a4 a6 a7 a8) s = some r) {σ : St} {Q : Ex → St → Prop} (hI : I_unroll_frames_frame_u1_L0 a0 a1 a2 a3 a4 a6 a7 a8 s σ) (hQ : ∀ e σ', J_unroll_frames_frame_u1_L0 a0 a1 a2 a3 a4 a6 a7 a8 r e σ' → Q e σ') : WC env (.loop c_unroll_frames_frame_l1) σ Q :=
 WC_Lp (I_unroll_frames_frame_u1_L0 a0 a1 a2 a3 a4 a6 a7 a8) (J_unroll_frames_frame_u1_L0 a0 a1 a2 a3 a4 a6 a7 a8) (by
  clear h hI hQ
  clear s r σ Q
  intro s0 σ x hI h
  obtain ⟨f17, f18, f19, f20, f21, f22, f23, f24, ⟨gr_0_2, f25⟩, ⟨gr_0_3, f26⟩, f27, ⟨gr_0_5, f28⟩, ⟨gr_0_6, f29⟩, ⟨gr_0_7, f30⟩, f31, ⟨gr_1_1, f32⟩, f33, f34, f35, f36, f37, f38, f39⟩ := hI
  unfold b_unroll_frames_frame_u1_L0 at h
  replace h := itb h; rcases h with ⟨c0, h⟩ | ⟨c0, h⟩
  ·replace h := need h; obtain ⟨H0, h⟩ := h
   cases h
   simp only [go_sem, LQ_inl, I_unroll_frames_frame_u1_L0, c_unroll_frames_frame_l1, *]
  ·cases h
   simp only [go_sem, LQ_inr, J_unroll_frames_frame_u1_L0, c_unroll_frames_frame_l1, *]
) h hI hQ
def b_unroll_frames_frame_u1_L1 (a0 : S_Circuit) (a1 : S_Circuit) (a2 : Int) (a3 : List (List Int)) (a4 : List (List Int)) (a6 : List (List Int)) (a7 : List (List Int)) (a8 : List Int) (s1 : Int × (List Int) × Int) : Option ((Int × (List Int) × Int) ⊕ (Int × (List Int))) :=
 if (decide (s1.2.2 < (a8.length : Int))) = true then
  (idx a8 s1.2.2).bind fun x1 =>
  (if (decide (x1 < 0)) = true then
    some ((IntKind.wrap .i64 (s1.1 + 1)), (IntKind.wrap .i64 (2 * (IntKind.wrap .i64 (s1.1 + 1)))))
   else
    some (s1.1, x1)).bind fun x2 =>
  if s1.2.1.length + 1 ≤ big then
   some (Sum.inl (x2.1, (s1.2.1 ++ ([x2.2] : List Int)), (IntKind.wrap .i64 (s1.2.2 + 1))))
  else none
 else
  some (Sum.inr (s1.1, s1.2.1))
def I_unroll_frames_frame_u1_L1 (a0 : S_Circuit) (a1 : S_Circuit) (a2 : Int) (a3 : List (List Int)) (a4 : List (List Int)) (a6 : List (List Int)) (a7 : List (List Int)) (a8 : List Int) (s1 : Int × (List Int) × Int) (σ : St) : Prop := σ.get 0 = (.ptr 1 4 0) ∧ σ.get 4 = (.ptr 0 0 0) ∧ σ.get 7 = (.row 0 1 0 s1.2.1.length 1) ∧ σ.get 26 = (.row 1 7 0 a8.length 1) ∧ σ.get 27 = (.d true (.int .i64 (a8.length : Int))) ∧ σ.get 28 = (.d true (.int .i64 s1.2.2)) ∧ σ.obj 1 0 = oB0 a1 ∧ σ.obj 1 1 = oB5 a2 a3.length a4.length ∧ (∃ gr_0_2, σ.obj 1 2 = some (.rw 1 (a3.map (eL 1 eI)) gr_0_2)) ∧ (∃ gr_0_3, σ.obj 1 3 = some (.rw 1 (a4.map (eL 1 eI)) gr_0_3)) ∧ σ.obj 1 4 = oB6 s1.1 a6.length a7.length ∧ (∃ gr_0_5, σ.obj 1 5 = some (.rw 1 (a6.map (eL 1 eI)) gr_0_5)) ∧ (∃ gr_0_6, σ.obj 1 6 = some (.rw 1 (a7.map (eL 1 eI)) gr_0_6)) ∧ (∃ gr_0_7, σ.obj 1 7 = some (.rw 1 (a8.map eI) gr_0_7)) ∧ σ.obj 0 0 = oB0 a0 ∧ (∃ gr_1_1, σ.obj 0 1 = some (.rw 1 (s1.2.1.map eI) gr_1_1)) ∧ σ.obj 1 10 = none ∧ σ.obj 0 3 = none ∧ σ.obj 0 5 = none ∧ σ.obj 0 8 = none ∧ σ.obj 0 12 = none ∧ σ.obj 0 13 = none ∧ σ.up.length = 1
def J_unroll_frames_frame_u1_L1 (a0 : S_Circuit) (a1 : S_Circuit) (a2 : Int) (a3 : List (List Int)) (a4 : List (List Int)) (a6 : List (List Int)) (a7 : List (List Int)) (a8 : List Int) (r : Int × (List Int)) (e : Ex) (σ' : St) : Prop := e = (.exit 2) ∧ σ'.get 0 = (.ptr 1 4 0) ∧ σ'.get 4 = (.ptr 0 0 0) ∧ σ'.get 7 = (.row 0 1 0 r.2.length 1) ∧ σ'.obj 1 0 = oB0 a1 ∧ σ'.obj 1 1 = oB5 a2 a3.length a4.length ∧ (∃ gr_0_2, σ'.obj 1 2 = some (.rw 1 (a3.map (eL 1 eI)) gr_0_2)) ∧ (∃ gr_0_3, σ'.obj 1 3 = some (.rw 1 (a4.map (eL 1 eI)) gr_0_3)) ∧ σ'.obj 1 4 = oB6 r.1 a6.length a7.length ∧ (∃ gr_0_5, σ'.obj 1 5 = some (.rw 1 (a6.map (eL 1 eI)) gr_0_5)) ∧ (∃ gr_0_6, σ'.obj 1 6 = some (.rw 1 (a7.map (eL 1 eI)) gr_0_6)) ∧ (∃ gr_0_7, σ'.obj 1 7 = some (.rw 1 (a8.map eI) gr_0_7)) ∧ σ'.obj 0 0 = oB0 a0 ∧ (∃ gr_1_1, σ'.obj 0 1 = some (.rw 1 (r.2.map eI) gr_1_1)) ∧ σ'.obj 1 10 = none ∧ σ'.obj 0 3 = none ∧ σ'.obj 0 5 = none ∧ σ'.obj 0 8 = none ∧ σ'.obj 0 12 = none ∧ σ'.obj 0 13 = none ∧ σ'.up.length = 1
theorem L_unroll_frames_frame_u1_L1 (a0 : S_Circuit) (a1 : S_Circuit) (a2 : Int) (a3 : List (List Int)) (a4 : List (List Int)) (a6 : List (List Int)) (a7 : List (List Int)) (a8 : List Int) {s : Int × (List Int) × Int} {r : Int × (List Int)} (h : Lp (b_unroll_frames_frame_u1_L1 a0 a1 a2 a3 a4 a6 a7 a8) s = some r) {σ : St} {Q : Ex → St → Prop} (hI : I_unroll_frames_frame_u1_L1 a0 a1 a2 a3 a4 a6 a7 a8 s σ) (hQ : ∀ e σ', J_unroll_frames_frame_u1_L1 a0 a1 a2 a3 a4 a6 a7 a8 r e σ' → Q e σ') : WC env (.loop c_unroll_frames_frame_l2) σ Q :=
 WC_Lp (I_unroll_frames_frame_u1_L1 a0 a1 a2 a3 a4 a6 a7 a8) (J_unroll_frames_frame_u1_L1 a0 a1 a2 a3 a4 a6 a7 a8) (by
  clear h hI hQ
  clear s r σ Q
  intro s1 σ x hI h
  obtain ⟨f38, f39, f40, f41, f42, f43, f44, f45, ⟨gr_0_2, f46⟩, ⟨gr_0_3, f47⟩, f48, ⟨gr_0_5, f49⟩, ⟨gr_0_6, f50⟩, ⟨gr_0_7, f51⟩, f52, ⟨gr_1_1, f53⟩, f54, f55, f56, f57, f58, f59, f60⟩ := hI
  unfold b_unroll_frames_frame_u1_L1 at h
  replace h := itb h; rcases h with ⟨c0, h⟩ | ⟨c0, h⟩
  ·replace h := bsome h; obtain ⟨x1, H1, h⟩ := h
   have n0 := idx_n H1; have q0 := idx_q H1; have y0 := idx_x H1
   replace h := bsome h; obtain ⟨x2, H2, h⟩ := h
   try simp only [go_sem, c_unroll_frames_frame_l2, *]
   refine WC.mono (Q := fun e σ' => e = .normal ∧ σ'.get 0 = (.ptr 1 4 0) ∧ σ'.get 4 = (.ptr 0 0 0) ∧ σ'.get 7 = (.row 0 1 0 s1.2.1.length 1) ∧ σ'.get 9 = (.d true (.int .i64 x2.2)) ∧ σ'.get 26 = (.row 1 7 0 a8.length 1) ∧ σ'.get 27 = (.d true (.int .i64 (a8.length : Int))) ∧ σ'.get 28 = (.d true (.int .i64 s1.2.2)) ∧ σ'.obj 1 0 = oB0 a1 ∧ σ'.obj 1 1 = oB5 a2 a3.length a4.length ∧ (∃ gr_0_2, σ'.obj 1 2 = some (.rw 1 (a3.map (eL 1 eI)) gr_0_2)) ∧ (∃ gr_0_3, σ'.obj 1 3 = some (.rw 1 (a4.map (eL 1 eI)) gr_0_3)) ∧ σ'.obj 1 4 = oB6 x2.1 a6.length a7.length ∧ (∃ gr_0_5, σ'.obj 1 5 = some (.rw 1 (a6.map (eL 1 eI)) gr_0_5)) ∧ (∃ gr_0_6, σ'.obj 1 6 = some (.rw 1 (a7.map (eL 1 eI)) gr_0_6)) ∧ (∃ gr_0_7, σ'.obj 1 7 = some (.rw 1 (a8.map eI) gr_0_7)) ∧ σ'.obj 0 0 = oB0 a0 ∧ (∃ gr_1_1, σ'.obj 0 1 = some (.rw 1 (s1.2.1.map eI) gr_1_1)) ∧ σ'.obj 1 10 = none ∧ σ'.obj 0 3 = none ∧ σ'.obj 0 5 = none ∧ σ'.obj 0 8 = none ∧ σ'.obj 0 12 = none ∧ σ'.obj 0 13 = none ∧ σ'.up.length = 1) ?_ ?_
   ·replace h := H2
    clear H2
    replace h := itb h; rcases h with ⟨c1, h⟩ | ⟨c1, h⟩
    ·cases h
     simp only [go_sem, c_unroll_frames_frame_l2, c_unroll_frames_frame_p1, *]
    ·cases h
     simp only [go_sem, c_unroll_frames_frame_l2, c_unroll_frames_frame_p1, *]
   ·intro e τ hJ
    obtain ⟨rfl, f61, f62, f63, f64, f65, f66, f67, f68, f69, ⟨gr_0_2, f70⟩, ⟨gr_0_3, f71⟩, f72, ⟨gr_0_5, f73⟩, ⟨gr_0_6, f74⟩, ⟨gr_0_7, f75⟩, f76, ⟨gr_1_1, f77⟩, f78, f79, f80, f81, f82, f83, f84⟩ := hJ
    replace h := need h; obtain ⟨H3, h⟩ := h
    cases h
    simp only [go_sem, LQ_inl, I_unroll_frames_frame_u1_L1, c_unroll_frames_frame_l2, *]
  ·cases h
   simp only [go_sem, LQ_inr, J_unroll_frames_frame_u1_L1, c_unroll_frames_frame_l2, *]
) h hI hQ
def b_unroll_frames_add_u3_L0 (a0 : S_Circuit) (a1 : Int) (a2 : List (List Int)) (a3 : List (List Int)) (a4 : Int) (a5 : List (List Int)) (a6 : List (List Int)) (a7 : List Int) (a8 : List Int) (a9 : List Int) (s0 : (List Int) × Int) : Option (((List Int) × Int) ⊕ (((List Int)) ⊕ (Unit))) :=
 if (decide (s0.2 < (a9.length : Int))) = true then
  ((idx a9 s0.2).bind fun x1 =>
   if (x1 == 1) = true then
    some (Sum.inr ())
   else
    if (decide (x1 > 1)) = true then
     if s0.1.length + 1 ≤ big then
      some (Sum.inl (s0.1 ++ ([x1] : List Int)))
     else none
    else
     some (Sum.inl s0.1)).bind fun x0 =>
  match x0 with
  | .inl x0' =>
   some (Sum.inl (x0', (IntKind.wrap .i64 (s0.2 + 1))))
  | .inr x0' =>
   some (Sum.inr (Sum.inr ()))
 else
  some (Sum.inr (Sum.inl s0.1))
def I_unroll_frames_add_u3_L0 (a0 : S_Circuit) (a1 : Int) (a2 : List (List Int)) (a3 : List (List Int)) (a4 : Int) (a5 : List (List Int)) (a6 : List (List Int)) (a7 : List Int) (a8 : List Int) (a9 : List Int) (s0 : (List Int) × Int) (σ : St) : Prop := σ.get 0 = (.ptr 2 4 0) ∧ σ.get 4 = (.row 0 0 0 s0.1.length 1) ∧ σ.get 10 = (.row 1 9 0 a9.length 1) ∧ σ.get 11 = (.d true (.int .i64 (a9.length : Int))) ∧ σ.get 12 = (.d true (.int .i64 s0.2)) ∧ σ.obj 2 0 = oB0 a0 ∧ σ.obj 2 1 = oB5 a1 a2.length a3.length ∧ (∃ gr_0_2, σ.obj 2 2 = some (.rw 1 (a2.map (eL 1 eI)) gr_0_2)) ∧ (∃ gr_0_3, σ.obj 2 3 = some (.rw 1 (a3.map (eL 1 eI)) gr_0_3)) ∧ σ.obj 2 4 = oB6 a4 a5.length a6.length ∧ (∃ gr_0_5, σ.obj 2 5 = some (.rw 1 (a5.map (eL 1 eI)) gr_0_5)) ∧ (∃ gr_0_6, σ.obj 2 6 = some (.rw 1 (a6.map (eL 1 eI)) gr_0_6)) ∧ (∃ gr_0_7, σ.obj 2 7 = some (.rw 1 (a7.map eI) gr_0_7)) ∧ (∃ gr_1_1, σ.obj 1 1 = some (.rw 1 (a8.map eI) gr_1_1)) ∧ (∃ gr_1_9, σ.obj 1 9 = some (.rw 1 (a9.map eI) gr_1_9)) ∧ (∃ gr_2_0, σ.obj 0 0 = some (.rw 1 (s0.1.map eI) gr_2_0)) ∧ σ.obj 2 10 = none ∧ σ.obj 1 3 = none ∧ σ.obj 1 5 = none ∧ σ.obj 1 8 = none ∧ σ.obj 1 12 = none ∧ σ.obj 1 13 = none ∧ σ.obj 0 2 = none ∧ σ.obj 0 3 = none ∧ σ.obj 0 4 = none ∧ σ.up.length = 2
def J_unroll_frames_add_u3_L0 (a0 : S_Circuit) (a1 : Int) (a2 : List (List Int)) (a3 : List (List Int)) (a4 : Int) (a5 : List (List Int)) (a6 : List (List Int)) (a7 : List Int) (a8 : List Int) (a9 : List Int) (r : ((List Int)) ⊕ (Unit)) (e : Ex) (σ' : St) : Prop := (Sum.elim (fun o0 => e = (.exit 0) ∧ σ'.get 0 = (.ptr 2 4 0) ∧ σ'.get 4 = (.row 0 0 0 o0.length 1) ∧ σ'.obj 2 0 = oB0 a0 ∧ σ'.obj 2 1 = oB5 a1 a2.length a3.length ∧ (∃ gr_0_2, σ'.obj 2 2 = some (.rw 1 (a2.map (eL 1 eI)) gr_0_2)) ∧ (∃ gr_0_3, σ'.obj 2 3 = some (.rw 1 (a3.map (eL 1 eI)) gr_0_3)) ∧ σ'.obj 2 4 = oB6 a4 a5.length a6.length ∧ (∃ gr_0_5, σ'.obj 2 5 = some (.rw 1 (a5.map (eL 1 eI)) gr_0_5)) ∧ (∃ gr_0_6, σ'.obj 2 6 = some (.rw 1 (a6.map (eL 1 eI)) gr_0_6)) ∧ (∃ gr_0_7, σ'.obj 2 7 = some (.rw 1 (a7.map eI) gr_0_7)) ∧ (∃ gr_1_1, σ'.obj 1 1 = some (.rw 1 (a8.map eI) gr_1_1)) ∧ (∃ gr_1_9, σ'.obj 1 9 = some (.rw 1 (a9.map eI) gr_1_9)) ∧ (∃ gr_2_0, σ'.obj 0 0 = some (.rw 1 (o0.map eI) gr_2_0)) ∧ σ'.obj 2 10 = none ∧ σ'.obj 1 3 = none ∧ σ'.obj 1 5 = none ∧ σ'.obj 1 8 = none ∧ σ'.obj 1 12 = none ∧ σ'.obj 1 13 = none ∧ σ'.obj 0 2 = none ∧ σ'.obj 0 3 = none ∧ σ'.obj 0 4 = none ∧ σ'.up.length = 2) (fun o1 => e = .ret ∧ σ'.obj 2 0 = oB0 a0 ∧ σ'.obj 2 1 = oB5 a1 a2.length a3.length ∧ (∃ gr_0_2, σ'.obj 2 2 = some (.rw 1 (a2.map (eL 1 eI)) gr_0_2)) ∧ (∃ gr_0_3, σ'.obj 2 3 = some (.rw 1 (a3.map (eL 1 eI)) gr_0_3)) ∧ σ'.obj 2 4 = oB6 a4 a5.length a6.length ∧ (∃ gr_0_5, σ'.obj 2 5 = some (.rw 1 (a5.map (eL 1 eI)) gr_0_5)) ∧ (∃ gr_0_6, σ'.obj 2 6 = some (.rw 1 (a6.map (eL 1 eI)) gr_0_6)) ∧ (∃ gr_0_7, σ'.obj 2 7 = some (.rw 1 (a7.map eI) gr_0_7)) ∧ (∃ gr_1_1, σ'.obj 1 1 = some (.rw 1 (a8.map eI) gr_1_1)) ∧ (∃ gr_1_9, σ'.obj 1 9 = some (.rw 1 (a9.map eI) gr_1_9)) ∧ σ'.obj 2 10 = none ∧ σ'.obj 1 3 = none ∧ σ'.obj 1 5 = none ∧ σ'.obj 1 8 = none ∧ σ'.obj 1 12 = none ∧ σ'.obj 1 13 = none ∧ σ'.obj 0 2 = none ∧ σ'.obj 0 3 = none ∧ σ'.obj 0 4 = none ∧ σ'.up.length = 2)) r
theorem L_unroll_frames_add_u3_L0 (a0 : S_Circuit) (a1 : Int) (a2 : List (List Int)) (a3 : List (List Int)) (a4 : Int) (a5 : List (List Int)) (a6 : List (List Int)) (a7 : List Int) (a8 : List Int) (a9 : List Int) {s : (List Int) × Int} {r : ((List Int)) ⊕ (Unit)} (h : Lp (b_unroll_frames_add_u3_L0 a0 a1 a2 a3 a4 a5 a6 a7 a8 a9) s = some r) {σ : St} {Q : Ex → St → Prop} (hI : I_unroll_frames_add_u3_L0 a0 a1 a2 a3 a4 a5 a6 a7 a8 a9 s σ) (hQ : ∀ e σ', J_unroll_frames_add_u3_L0 a0 a1 a2 a3 a4 a5 a6 a7 a8 a9 r e σ' → Q e σ') : WC env (.loop c_unroll_frames_add_l1) σ Q :=
 WC_Lp (I_unroll_frames_add_u3_L0 a0 a1 a2 a3 a4 a5 a6 a7 a8 a9) (J_unroll_frames_add_u3_L0 a0 a1 a2 a3 a4 a5 a6 a7 a8 a9) (by
  clear h hI hQ
  clear s r σ Q
  intro s0 σ x hI h
  obtain ⟨f21, f22, f23, f24, f25, f26, f27, ⟨gr_0_2, f28⟩, ⟨gr_0_3, f29⟩, f30, ⟨gr_0_5, f31⟩, ⟨gr_0_6, f32⟩, ⟨gr_0_7, f33⟩, ⟨gr_1_1, f34⟩, ⟨gr_1_9, f35⟩, ⟨gr_2_0, f36⟩, f37, f38, f39, f40, f41, f42, f43, f44, f45, f46⟩ := hI
  unfold b_unroll_frames_add_u3_L0 at h
  replace h := itb h; rcases h with ⟨c0, h⟩ | ⟨c0, h⟩
  ·replace h := bsome h; obtain ⟨x0, H0, h⟩ := h
   try simp only [go_sem, c_unroll_frames_add_l1, *]
   refine WC.mono (Q := fun e σ' => (Sum.elim (fun o0 => e = .normal ∧ σ'.get 0 = (.ptr 2 4 0) ∧ σ'.get 4 = (.row 0 0 0 o0.length 1) ∧ σ'.get 10 = (.row 1 9 0 a9.length 1) ∧ σ'.get 11 = (.d true (.int .i64 (a9.length : Int))) ∧ σ'.get 12 = (.d true (.int .i64 s0.2)) ∧ σ'.obj 2 0 = oB0 a0 ∧ σ'.obj 2 1 = oB5 a1 a2.length a3.length ∧ (∃ gr_0_2, σ'.obj 2 2 = some (.rw 1 (a2.map (eL 1 eI)) gr_0_2)) ∧ (∃ gr_0_3, σ'.obj 2 3 = some (.rw 1 (a3.map (eL 1 eI)) gr_0_3)) ∧ σ'.obj 2 4 = oB6 a4 a5.length a6.length ∧ (∃ gr_0_5, σ'.obj 2 5 = some (.rw 1 (a5.map (eL 1 eI)) gr_0_5)) ∧ (∃ gr_0_6, σ'.obj 2 6 = some (.rw 1 (a6.map (eL 1 eI)) gr_0_6)) ∧ (∃ gr_0_7, σ'.obj 2 7 = some (.rw 1 (a7.map eI) gr_0_7)) ∧ (∃ gr_1_1, σ'.obj 1 1 = some (.rw 1 (a8.map eI) gr_1_1)) ∧ (∃ gr_1_9, σ'.obj 1 9 = some (.rw 1 (a9.map eI) gr_1_9)) ∧ (∃ gr_2_0, σ'.obj 0 0 = some (.rw 1 (o0.map eI) gr_2_0)) ∧ σ'.obj 2 10 = none ∧ σ'.obj 1 3 = none ∧ σ'.obj 1 5 = none ∧ σ'.obj 1 8 = none ∧ σ'.obj 1 12 = none ∧ σ'.obj 1 13 = none ∧ σ'.obj 0 2 = none ∧ σ'.obj 0 3 = none ∧ σ'.obj 0 4 = none ∧ σ'.up.length = 2) (fun o1 => e = .ret ∧ σ'.obj 2 0 = oB0 a0 ∧ σ'.obj 2 1 = oB5 a1 a2.length a3.length ∧ (∃ gr_0_2, σ'.obj 2 2 = some (.rw 1 (a2.map (eL 1 eI)) gr_0_2)) ∧ (∃ gr_0_3, σ'.obj 2 3 = some (.rw 1 (a3.map (eL 1 eI)) gr_0_3)) ∧ σ'.obj 2 4 = oB6 a4 a5.length a6.length ∧ (∃ gr_0_5, σ'.obj 2 5 = some (.rw 1 (a5.map (eL 1 eI)) gr_0_5)) ∧ (∃ gr_0_6, σ'.obj 2 6 = some (.rw 1 (a6.map (eL 1 eI)) gr_0_6)) ∧ (∃ gr_0_7, σ'.obj 2 7 = some (.rw 1 (a7.map eI) gr_0_7)) ∧ (∃ gr_1_1, σ'.obj 1 1 = some (.rw 1 (a8.map eI) gr_1_1)) ∧ (∃ gr_1_9, σ'.obj 1 9 = some (.rw 1 (a9.map eI) gr_1_9)) ∧ σ'.obj 2 10 = none ∧ σ'.obj 1 3 = none ∧ σ'.obj 1 5 = none ∧ σ'.obj 1 8 = none ∧ σ'.obj 1 12 = none ∧ σ'.obj 1 13 = none ∧ σ'.obj 0 2 = none ∧ σ'.obj 0 3 = none ∧ σ'.obj 0 4 = none ∧ σ'.up.length = 2)) x0) ?_ ?_
   ·replace h := H0
    clear H0
    replace h := bsome h; obtain ⟨x1, H1, h⟩ := h
    have n0 := idx_n H1; have q0 := idx_q H1; have y0 := idx_x H1
    replace h := itb h; rcases h with ⟨c1, h⟩ | ⟨c1, h⟩
    ·cases h
     simp only [go_sem, c_unroll_frames_add_l1, c_unroll_frames_add_p1, *]
    ·replace h := itb h; rcases h with ⟨c2, h⟩ | ⟨c2, h⟩
     ·replace h := need h; obtain ⟨H2, h⟩ := h
      cases h
      simp only [go_sem, c_unroll_frames_add_l1, c_unroll_frames_add_p1, *]
     ·cases h
      simp only [go_sem, c_unroll_frames_add_l1, c_unroll_frames_add_p1, *]
   ·intro e τ hJ
    rcases x0 with x0' | x0'
    ·obtain ⟨rfl, f47, f48, f49, f50, f51, f52, f53, ⟨gr_0_2, f54⟩, ⟨gr_0_3, f55⟩, f56, ⟨gr_0_5, f57⟩, ⟨gr_0_6, f58⟩, ⟨gr_0_7, f59⟩, ⟨gr_1_1, f60⟩, ⟨gr_1_9, f61⟩, ⟨gr_2_0, f62⟩, f63, f64, f65, f66, f67, f68, f69, f70, f71, f72⟩ := hJ
     cases h
     simp only [go_sem, LQ_inl, I_unroll_frames_add_u3_L0, c_unroll_frames_add_l1, *]
    ·obtain ⟨rfl, f73, f74, ⟨gr_0_2, f75⟩, ⟨gr_0_3, f76⟩, f77, ⟨gr_0_5, f78⟩, ⟨gr_0_6, f79⟩, ⟨gr_0_7, f80⟩, ⟨gr_1_1, f81⟩, ⟨gr_1_9, f82⟩, f83, f84, f85, f86, f87, f88, f89, f90, f91, f92⟩ := hJ
     cases h
     simp only [go_sem, LQ_inr, J_unroll_frames_add_u3_L0, c_unroll_frames_add_l1, *]
  ·cases h
   simp only [go_sem, LQ_inr, J_unroll_frames_add_u3_L0, c_unroll_frames_add_l1, *]
) h hI hQ
noncomputable def w_unroll_frames_add_u3 (a0 : S_Circuit) (a1 : Int) (a2 : List (List Int)) (a3 : List (List Int)) (a4 : Int) (a5 : List (List Int)) (a6 : List (List Int)) (a7 : List Int) (a8 : List Int) (a9 : List Int) : Option ((List (List Int))) :=
 (Lp (b_unroll_frames_add_u3_L0 a0 a1 a2 a3 a4 a5 a6 a7 a8 a9) (([] : List Int), 0)).bind fun x0 =>
 match x0 with
 | .inl x0' =>
  (s_clause_Make a4 x0').bind fun r0 =>
  (if (r0.2.2 == 0) = true then
    some (!r0.2.1)
   else
    some false).bind fun x1 =>
  if x1 = true then
   if a6.length + 1 ≤ big then
    some (a6 ++ ([r0.1] : List (List Int)))
   else none
  else
   some a6
 | .inr x0' =>
  some a6
theorem E_unroll_frames_add_u3 (a0 : S_Circuit) (a1 : Int) (a2 : List (List Int)) (a3 : List (List Int)) (a4 : Int) (a5 : List (List Int)) (a6 : List (List Int)) (a7 : List Int) (a8 : List Int) (a9 : List Int) {r : (List (List Int))} (h : w_unroll_frames_add_u3 a0 a1 a2 a3 a4 a5 a6 a7 a8 a9 = some r) {up : List Lv} {K : V → St → Prop} (hI : ∀ xs, (St.ini xs up).obj 2 0 = oB0 a0 ∧ (St.ini xs up).obj 2 1 = oB5 a1 a2.length a3.length ∧ (∃ gr_0_2, (St.ini xs up).obj 2 2 = some (.rw 1 (a2.map (eL 1 eI)) gr_0_2)) ∧ (∃ gr_0_3, (St.ini xs up).obj 2 3 = some (.rw 1 (a3.map (eL 1 eI)) gr_0_3)) ∧ (St.ini xs up).obj 2 4 = oB6 a4 a5.length a6.length ∧ (∃ gr_0_5, (St.ini xs up).obj 2 5 = some (.rw 1 (a5.map (eL 1 eI)) gr_0_5)) ∧ (∃ gr_0_6, (St.ini xs up).obj 2 6 = some (.rw 1 (a6.map (eL 1 eI)) gr_0_6)) ∧ (∃ gr_0_7, (St.ini xs up).obj 2 7 = some (.rw 1 (a7.map eI) gr_0_7)) ∧ (∃ gr_1_1, (St.ini xs up).obj 1 1 = some (.rw 1 (a8.map eI) gr_1_1)) ∧ (∃ gr_1_9, (St.ini xs up).obj 1 9 = some (.rw 1 (a9.map eI) gr_1_9)) ∧ (St.ini xs up).obj 2 10 = none ∧ (St.ini xs up).obj 1 3 = none ∧ (St.ini xs up).obj 1 5 = none ∧ (St.ini xs up).obj 1 8 = none ∧ (St.ini xs up).obj 1 12 = none ∧ (St.ini xs up).obj 1 13 = none ∧ (St.ini xs up).obj 0 0 = none ∧ (St.ini xs up).obj 0 2 = none ∧ (St.ini xs up).obj 0 3 = none ∧ (St.ini xs up).obj 0 4 = none ∧ (St.ini xs up).up.length = 2)
  (hK : ∀ v σ', v = (.tp []) ∧ σ'.obj 2 0 = oB0 a0 ∧ σ'.obj 2 1 = oB5 a1 a2.length a3.length ∧ (∃ gr_0_2, σ'.obj 2 2 = some (.rw 1 (a2.map (eL 1 eI)) gr_0_2)) ∧ (∃ gr_0_3, σ'.obj 2 3 = some (.rw 1 (a3.map (eL 1 eI)) gr_0_3)) ∧ σ'.obj 2 4 = oB6 a4 a5.length r.length ∧ (∃ gr_0_5, σ'.obj 2 5 = some (.rw 1 (a5.map (eL 1 eI)) gr_0_5)) ∧ (∃ gr_0_6, σ'.obj 2 6 = some (.rw 1 (r.map (eL 1 eI)) gr_0_6)) ∧ (∃ gr_0_7, σ'.obj 2 7 = some (.rw 1 (a7.map eI) gr_0_7)) ∧ (∃ gr_1_1, σ'.obj 1 1 = some (.rw 1 (a8.map eI) gr_1_1)) ∧ (∃ gr_1_9, σ'.obj 1 9 = some (.rw 1 (a9.map eI) gr_1_9)) ∧ σ'.obj 2 10 = none ∧ σ'.obj 1 3 = none ∧ σ'.obj 1 5 = none ∧ σ'.obj 1 8 = none ∧ σ'.obj 1 12 = none ∧ σ'.obj 1 13 = none ∧ σ'.up.length = 2 → K v σ') : AtFn env k_unroll_frames_add [(.ptr 2 4 0), (.row 1 9 0 a9.length 1)] up K := by
 obtain ⟨f0, f1, ⟨gr_0_2, f2⟩, ⟨gr_0_3, f3⟩, f4, ⟨gr_0_5, f5⟩, ⟨gr_0_6, f6⟩, ⟨gr_0_7, f7⟩, ⟨gr_1_1, f8⟩, ⟨gr_1_9, f9⟩, f10, f11, f12, f13, f14, f15, f16, f17, f18, f19, hup⟩ := hI [(.ptr 2 4 0), (.row 1 9 0 a9.length 1)]
 have hu : up.length = 2 := hup
 clear hI
 refine AtFn_mono ?_ hK
 clear hK
 unfold w_unroll_frames_add_u3 at h
 rw [AtF fn_unroll_frames_add]
 simp only [n_unroll_frames_add]
 replace h := bsome h; obtain ⟨x0, H0, h⟩ := h
 try simp only [go_sem, *]
 refine L_unroll_frames_add_u3_L0 a0 a1 a2 a3 a4 a5 a6 a7 a8 a9 H0 ?_ ?_
 ·clear h
  simp only [go_sem, I_unroll_frames_add_u3_L0, *]
 ·intro e τ hJ
  rcases x0 with x0' | x0'
  ·obtain ⟨rfl, f21, f22, f23, f24, ⟨gr_0_2, f25⟩, ⟨gr_0_3, f26⟩, f27, ⟨gr_0_5, f28⟩, ⟨gr_0_6, f29⟩, ⟨gr_0_7, f30⟩, ⟨gr_1_1, f31⟩, ⟨gr_1_9, f32⟩, ⟨gr_2_0, f33⟩, f34, f35, f36, f37, f38, f39, f40, f41, f42, f43⟩ := hJ
   replace h := bsome h; obtain ⟨r0, H1, h⟩ := h
   have k0 := AtCall_all (s_clause_Make_ok H1); try dsimp only at k0
   replace h := bsome h; obtain ⟨x1, H2, h⟩ := h
   try simp only [go_sem, *]
   refine WC.mono (Q := fun e σ' => e = .normal ∧ σ'.get 0 = (.ptr 2 4 0) ∧ σ'.get 7 = (.d true (.lst 1 (r0.1.map eI))) ∧ σ'.get 41 = (.d true (.bool x1)) ∧ σ'.obj 2 0 = oB0 a0 ∧ σ'.obj 2 1 = oB5 a1 a2.length a3.length ∧ (∃ gr_0_2, σ'.obj 2 2 = some (.rw 1 (a2.map (eL 1 eI)) gr_0_2)) ∧ (∃ gr_0_3, σ'.obj 2 3 = some (.rw 1 (a3.map (eL 1 eI)) gr_0_3)) ∧ σ'.obj 2 4 = oB6 a4 a5.length a6.length ∧ (∃ gr_0_5, σ'.obj 2 5 = some (.rw 1 (a5.map (eL 1 eI)) gr_0_5)) ∧ (∃ gr_0_6, σ'.obj 2 6 = some (.rw 1 (a6.map (eL 1 eI)) gr_0_6)) ∧ (∃ gr_0_7, σ'.obj 2 7 = some (.rw 1 (a7.map eI) gr_0_7)) ∧ (∃ gr_1_1, σ'.obj 1 1 = some (.rw 1 (a8.map eI) gr_1_1)) ∧ (∃ gr_1_9, σ'.obj 1 9 = some (.rw 1 (a9.map eI) gr_1_9)) ∧ σ'.obj 2 10 = none ∧ σ'.obj 1 3 = none ∧ σ'.obj 1 5 = none ∧ σ'.obj 1 8 = none ∧ σ'.obj 1 12 = none ∧ σ'.obj 1 13 = none ∧ σ'.obj 0 2 = none ∧ σ'.obj 0 3 = none ∧ σ'.obj 0 4 = none ∧ σ'.up.length = 2) ?_ ?_
   ·replace h := H2
    clear H2
    replace h := itb h; rcases h with ⟨c0, h⟩ | ⟨c0, h⟩
    ·cases h
     simp only [go_sem, c_unroll_frames_add_p2, *]
    ·cases h
     simp only [go_sem, c_unroll_frames_add_p2, *]
   ·intro e τ hJ
    obtain ⟨rfl, f44, f45, f46, f47, f48, ⟨gr_0_2, f49⟩, ⟨gr_0_3, f50⟩, f51, ⟨gr_0_5, f52⟩, ⟨gr_0_6, f53⟩, ⟨gr_0_7, f54⟩, ⟨gr_1_1, f55⟩, ⟨gr_1_9, f56⟩, f57, f58, f59, f60, f61, f62, f63, f64, f65, f66⟩ := hJ
    replace h := itb h; rcases h with ⟨c1, h⟩ | ⟨c1, h⟩
    ·replace h := need h; obtain ⟨H3, h⟩ := h
     cases h
     simp only [go_sem, *]
    ·cases h
     simp only [go_sem, *]
  ·obtain ⟨rfl, f67, f68, ⟨gr_0_2, f69⟩, ⟨gr_0_3, f70⟩, f71, ⟨gr_0_5, f72⟩, ⟨gr_0_6, f73⟩, ⟨gr_0_7, f74⟩, ⟨gr_1_1, f75⟩, ⟨gr_1_9, f76⟩, f77, f78, f79, f80, f81, f82, f83, f84, f85, f86⟩ := hJ
   cases h
   simp only [go_sem, *]
def b_unroll_frames_add_u4_L0 (a0 : S_Circuit) (a1 : Int) (a2 : List (List Int)) (a3 : List (List Int)) (a4 : Int) (a5 : List (List Int)) (a6 : List (List Int)) (a7 : List Int) (a8 : List Int) (a9 : List Int) (s0 : (List Int) × Int) : Option (((List Int) × Int) ⊕ (((List Int)) ⊕ (Unit))) :=
 if (decide (s0.2 < (a9.length : Int))) = true then
  ((idx a9 s0.2).bind fun x1 =>
   if (x1 == 1) = true then
    some (Sum.inr ())
   else
    if (decide (x1 > 1)) = true then
     if s0.1.length + 1 ≤ big then
      some (Sum.inl (s0.1 ++ ([x1] : List Int)))
     else none
    else
     some (Sum.inl s0.1)).bind fun x0 =>
  match x0 with
  | .inl x0' =>
   some (Sum.inl (x0', (IntKind.wrap .i64 (s0.2 + 1))))
  | .inr x0' =>
   some (Sum.inr (Sum.inr ()))
 else
  some (Sum.inr (Sum.inl s0.1))
def I_unroll_frames_add_u4_L0 (a0 : S_Circuit) (a1 : Int) (a2 : List (List Int)) (a3 : List (List Int)) (a4 : Int) (a5 : List (List Int)) (a6 : List (List Int)) (a7 : List Int) (a8 : List Int) (a9 : List Int) (s0 : (List Int) × Int) (σ : St) : Prop := σ.get 0 = (.ptr 2 4 0) ∧ σ.get 4 = (.row 0 0 0 s0.1.length 1) ∧ σ.get 10 = (.row 1 10 0 a9.length 1) ∧ σ.get 11 = (.d true (.int .i64 (a9.length : Int))) ∧ σ.get 12 = (.d true (.int .i64 s0.2)) ∧ σ.obj 2 0 = oB0 a0 ∧ σ.obj 2 1 = oB5 a1 a2.length a3.length ∧ (∃ gr_0_2, σ.obj 2 2 = some (.rw 1 (a2.map (eL 1 eI)) gr_0_2)) ∧ (∃ gr_0_3, σ.obj 2 3 = some (.rw 1 (a3.map (eL 1 eI)) gr_0_3)) ∧ σ.obj 2 4 = oB6 a4 a5.length a6.length ∧ (∃ gr_0_5, σ.obj 2 5 = some (.rw 1 (a5.map (eL 1 eI)) gr_0_5)) ∧ (∃ gr_0_6, σ.obj 2 6 = some (.rw 1 (a6.map (eL 1 eI)) gr_0_6)) ∧ (∃ gr_0_7, σ.obj 2 7 = some (.rw 1 (a7.map eI) gr_0_7)) ∧ (∃ gr_1_1, σ.obj 1 1 = some (.rw 1 (a8.map eI) gr_1_1)) ∧ (∃ gr_1_10, σ.obj 1 10 = some (.rw 1 (a9.map eI) gr_1_10)) ∧ (∃ gr_2_0, σ.obj 0 0 = some (.rw 1 (s0.1.map eI) gr_2_0)) ∧ σ.obj 2 10 = none ∧ σ.obj 1 3 = none ∧ σ.obj 1 5 = none ∧ σ.obj 1 8 = none ∧ σ.obj 1 12 = none ∧ σ.obj 1 13 = none ∧ σ.obj 0 2 = none ∧ σ.obj 0 3 = none ∧ σ.obj 0 4 = none ∧ σ.up.length = 2
def J_unroll_frames_add_u4_L0 (a0 : S_Circuit) (a1 : Int) (a2 : List (List Int)) (a3 : List (List Int)) (a4 : Int) (a5 : List (List Int)) (a6 : List (List Int)) (a7 : List Int) (a8 : List Int) (a9 : List Int) (r : ((List Int)) ⊕ (Unit)) (e : Ex) (σ' : St) : Prop := (Sum.elim (fun o0 => e = (.exit 0) ∧ σ'.get 0 = (.ptr 2 4 0) ∧ σ'.get 4 = (.row 0 0 0 o0.length 1) ∧ σ'.obj 2 0 = oB0 a0 ∧ σ'.obj 2 1 = oB5 a1 a2.length a3.length ∧ (∃ gr_0_2, σ'.obj 2 2 = some (.rw 1 (a2.map (eL 1 eI)) gr_0_2)) ∧ (∃ gr_0_3, σ'.obj 2 3 = some (.rw 1 (a3.map (eL 1 eI)) gr_0_3)) ∧ σ'.obj 2 4 = oB6 a4 a5.length a6.length ∧ (∃ gr_0_5, σ'.obj 2 5 = some (.rw 1 (a5.map (eL 1 eI)) gr_0_5)) ∧ (∃ gr_0_6, σ'.obj 2 6 = some (.rw 1 (a6.map (eL 1 eI)) gr_0_6)) ∧ (∃ gr_0_7, σ'.obj 2 7 = some (.rw 1 (a7.map eI) gr_0_7)) ∧ (∃ gr_1_1, σ'.obj 1 1 = some (.rw 1 (a8.map eI) gr_1_1)) ∧ (∃ gr_1_10, σ'.obj 1 10 = some (.rw 1 (a9.map eI) gr_1_10)) ∧ (∃ gr_2_0, σ'.obj 0 0 = some (.rw 1 (o0.map eI) gr_2_0)) ∧ σ'.obj 2 10 = none ∧ σ'.obj 1 3 = none ∧ σ'.obj 1 5 = none ∧ σ'.obj 1 8 = none ∧ σ'.obj 1 12 = none ∧ σ'.obj 1 13 = none ∧ σ'.obj 0 2 = none ∧ σ'.obj 0 3 = none ∧ σ'.obj 0 4 = none ∧ σ'.up.length = 2) (fun o1 => e = .ret ∧ σ'.obj 2 0 = oB0 a0 ∧ σ'.obj 2 1 = oB5 a1 a2.length a3.length ∧ (∃ gr_0_2, σ'.obj 2 2 = some (.rw 1 (a2.map (eL 1 eI)) gr_0_2)) ∧ (∃ gr_0_3, σ'.obj 2 3 = some (.rw 1 (a3.map (eL 1 eI)) gr_0_3)) ∧ σ'.obj 2 4 = oB6 a4 a5.length a6.length ∧ (∃ gr_0_5, σ'.obj 2 5 = some (.rw 1 (a5.map (eL 1 eI)) gr_0_5)) ∧ (∃ gr_0_6, σ'.obj 2 6 = some (.rw 1 (a6.map (eL 1 eI)) gr_0_6)) ∧ (∃ gr_0_7, σ'.obj 2 7 = some (.rw 1 (a7.map eI) gr_0_7)) ∧ (∃ gr_1_1, σ'.obj 1 1 = some (.rw 1 (a8.map eI) gr_1_1)) ∧ (∃ gr_1_10, σ'.obj 1 10 = some (.rw 1 (a9.map eI) gr_1_10)) ∧ σ'.obj 2 10 = none ∧ σ'.obj 1 3 = none ∧ σ'.obj 1 5 = none ∧ σ'.obj 1 8 = none ∧ σ'.obj 1 12 = none ∧ σ'.obj 1 13 = none ∧ σ'.obj 0 2 = none ∧ σ'.obj 0 3 = none ∧ σ'.obj 0 4 = none ∧ σ'.up.length = 2)) r
theorem L_unroll_frames_add_u4_L0 (a0 : S_Circuit) (a1 : Int) (a2 : List (List Int)) (a3 : List (List Int)) (a4 : Int) (a5 : List (List Int)) (a6 : List (List Int)) (a7 : List Int) (a8 : List Int) (a9 : List Int) {s : (List Int) × Int} {r : ((List Int)) ⊕ (Unit)} (h : Lp (b_unroll_frames_add_u4_L0 a0 a1 a2 a3 a4 a5 a6 a7 a8 a9) s = some r) {σ : St} {Q : Ex → St → Prop} (hI : I_unroll_frames_add_u4_L0 a0 a1 a2 a3 a4 a5 a6 a7 a8 a9 s σ) (hQ : ∀ e σ', J_unroll_frames_add_u4_L0 a0 a1 a2 a3 a4 a5 a6 a7 a8 a9 r e σ' → Q e σ') : WC env (.loop c_unroll_frames_add_l1) σ Q :=
 WC_Lp (I_unroll_frames_add_u4_L0 a0 a1 a2 a3 a4 a5 a6 a7 a8 a9) (J_unroll_frames_add_u4_L0 a0 a1 a2 a3 a4 a5 a6 a7 a8 a9) (by
  clear h hI hQ
  clear s r σ Q
  intro s0 σ x hI h
  obtain ⟨f21, f22, f23, f24, f25, f26, f27, ⟨gr_0_2, f28⟩, ⟨gr_0_3, f29⟩, f30, ⟨gr_0_5, f31⟩, ⟨gr_0_6, f32⟩, ⟨gr_0_7, f33⟩, ⟨gr_1_1, f34⟩, ⟨gr_1_10, f35⟩, ⟨gr_2_0, f36⟩, f37, f38, f39, f40, f41, f42, f43, f44, f45, f46⟩ := hI
  unfold b_unroll_frames_add_u4_L0 at h
  replace h := itb h; rcases h with ⟨c0, h⟩ | ⟨c0, h⟩
  ·replace h := bsome h; obtain ⟨x0, H0, h⟩ := h
   try simp only [go_sem, c_unroll_frames_add_l1, *]
   refine WC.mono (Q := fun e σ' => (Sum.elim (fun o0 => e = .normal ∧ σ'.get 0 = (.ptr 2 4 0) ∧ σ'.get 4 = (.row 0 0 0 o0.length 1) ∧ σ'.get 10 = (.row 1 10 0 a9.length 1) ∧ σ'.get 11 = (.d true (.int .i64 (a9.length : Int))) ∧ σ'.get 12 = (.d true (.int .i64 s0.2)) ∧ σ'.obj 2 0 = oB0 a0 ∧ σ'.obj 2 1 = oB5 a1 a2.length a3.length ∧ (∃ gr_0_2, σ'.obj 2 2 = some (.rw 1 (a2.map (eL 1 eI)) gr_0_2)) ∧ (∃ gr_0_3, σ'.obj 2 3 = some (.rw 1 (a3.map (eL 1 eI)) gr_0_3)) ∧ σ'.obj 2 4 = oB6 a4 a5.length a6.length ∧ (∃ gr_0_5, σ'.obj 2 5 = some (.rw 1 (a5.map (eL 1 eI)) gr_0_5)) ∧ (∃ gr_0_6, σ'.obj 2 6 = some (.rw 1 (a6.map (eL 1 eI)) gr_0_6)) ∧ (∃ gr_0_7, σ'.obj 2 7 = some (.rw 1 (a7.map eI) gr_0_7)) ∧ (∃ gr_1_1, σ'.obj 1 1 = some (.rw 1 (a8.map eI) gr_1_1)) ∧ (∃ gr_1_10, σ'.obj 1 10 = some (.rw 1 (a9.map eI) gr_1_10)) ∧ (∃ gr_2_0, σ'.obj 0 0 = some (.rw 1 (o0.map eI) gr_2_0)) ∧ σ'.obj 2 10 = none ∧ σ'.obj 1 3 = none ∧ σ'.obj 1 5 = none ∧ σ'.obj 1 8 = none ∧ σ'.obj 1 12 = none ∧ σ'.obj 1 13 = none ∧ σ'.obj 0 2 = none ∧ σ'.obj 0 3 = none ∧ σ'.obj 0 4 = none ∧ σ'.up.length = 2) (fun o1 => e = .ret ∧ σ'.obj 2 0 = oB0 a0 ∧ σ'.obj 2 1 = oB5 a1 a2.length a3.length ∧ (∃ gr_0_2, σ'.obj 2 2 = some (.rw 1 (a2.map (eL 1 eI)) gr_0_2)) ∧ (∃ gr_0_3, σ'.obj 2 3 = some (.rw 1 (a3.map (eL 1 eI)) gr_0_3)) ∧ σ'.obj 2 4 = oB6 a4 a5.length a6.length ∧ (∃ gr_0_5, σ'.obj 2 5 = some (.rw 1 (a5.map (eL 1 eI)) gr_0_5)) ∧ (∃ gr_0_6, σ'.obj 2 6 = some (.rw 1 (a6.map (eL 1 eI)) gr_0_6)) ∧ (∃ gr_0_7, σ'.obj 2 7 = some (.rw 1 (a7.map eI) gr_0_7)) ∧ (∃ gr_1_1, σ'.obj 1 1 = some (.rw 1 (a8.map eI) gr_1_1)) ∧ (∃ gr_1_10, σ'.obj 1 10 = some (.rw 1 (a9.map eI) gr_1_10)) ∧ σ'.obj 2 10 = none ∧ σ'.obj 1 3 = none ∧ σ'.obj 1 5 = none ∧ σ'.obj 1 8 = none ∧ σ'.obj 1 12 = none ∧ σ'.obj 1 13 = none ∧ σ'.obj 0 2 = none ∧ σ'.obj 0 3 = none ∧ σ'.obj 0 4 = none ∧ σ'.up.length = 2)) x0) ?_ ?_
   ·replace h := H0
    clear H0
    replace h := bsome h; obtain ⟨x1, H1, h⟩ := h
    have n0 := idx_n H1; have q0 := idx_q H1; have y0 := idx_x H1
    replace h := itb h; rcases h with ⟨c1, h⟩ | ⟨c1, h⟩
    ·cases h
     simp only [go_sem, c_unroll_frames_add_l1, c_unroll_frames_add_p1, *]
    ·replace h := itb h; rcases h with ⟨c2, h⟩ | ⟨c2, h⟩
     ·replace h := need h; obtain ⟨H2, h⟩ := h
      cases h
      simp only [go_sem, c_unroll_frames_add_l1, c_unroll_frames_add_p1, *]
     ·cases h
      simp only [go_sem, c_unroll_frames_add_l1, c_unroll_frames_add_p1, *]
   ·intro e τ hJ
    rcases x0 with x0' | x0'
    ·obtain ⟨rfl, f47, f48, f49, f50, f51, f52, f53, ⟨gr_0_2, f54⟩, ⟨gr_0_3, f55⟩, f56, ⟨gr_0_5, f57⟩, ⟨gr_0_6, f58⟩, ⟨gr_0_7, f59⟩, ⟨gr_1_1, f60⟩, ⟨gr_1_10, f61⟩, ⟨gr_2_0, f62⟩, f63, f64, f65, f66, f67, f68, f69, f70, f71, f72⟩ := hJ
     cases h
     simp only [go_sem, LQ_inl, I_unroll_frames_add_u4_L0, c_unroll_frames_add_l1, *]
    ·obtain ⟨rfl, f73, f74, ⟨gr_0_2, f75⟩, ⟨gr_0_3, f76⟩, f77, ⟨gr_0_5, f78⟩, ⟨gr_0_6, f79⟩, ⟨gr_0_7, f80⟩, ⟨gr_1_1, f81⟩, ⟨gr_1_10, f82⟩, f83, f84, f85, f86, f87, f88, f89, f90, f91, f92⟩ := hJ
     cases h
     simp only [go_sem, LQ_inr, J_unroll_frames_add_u4_L0, c_unroll_frames_add_l1, *]
  ·cases h
   simp only [go_sem, LQ_inr, J_unroll_frames_add_u4_L0, c_unroll_frames_add_l1, *]
) h hI hQ
noncomputable def w_unroll_frames_add_u4 (a0 : S_Circuit) (a1 : Int) (a2 : List (List Int)) (a3 : List (List Int)) (a4 : Int) (a5 : List (List Int)) (a6 : List (List Int)) (a7 : List Int) (a8 : List Int) (a9 : List Int) : Option ((List (List Int))) :=
 (Lp (b_unroll_frames_add_u4_L0 a0 a1 a2 a3 a4 a5 a6 a7 a8 a9) (([] : List Int), 0)).bind fun x0 =>
 match x0 with
 | .inl x0' =>
  (s_clause_Make a4 x0').bind fun r0 =>
  (if (r0.2.2 == 0) = true then
    some (!r0.2.1)
   else
    some false).bind fun x1 =>
  if x1 = true then
   if a6.length + 1 ≤ big then
    some (a6 ++ ([r0.1] : List (List Int)))
   else none
  else
   some a6
 | .inr x0' =>
  some a6
theorem E_unroll_frames_add_u4 (a0 : S_Circuit) (a1 : Int) (a2 : List (List Int)) (a3 : List (List Int)) (a4 : Int) (a5 : List (List Int)) (a6 : List (List Int)) (a7 : List Int) (a8 : List Int) (a9 : List Int) {r : (List (List Int))} (h : w_unroll_frames_add_u4 a0 a1 a2 a3 a4 a5 a6 a7 a8 a9 = some r) {up : List Lv} {K : V → St → Prop} (hI : ∀ xs, (St.ini xs up).obj 2 0 = oB0 a0 ∧ (St.ini xs up).obj 2 1 = oB5 a1 a2.length a3.length ∧ (∃ gr_0_2, (St.ini xs up).obj 2 2 = some (.rw 1 (a2.map (eL 1 eI)) gr_0_2)) ∧ (∃ gr_0_3, (St.ini xs up).obj 2 3 = some (.rw 1 (a3.map (eL 1 eI)) gr_0_3)) ∧ (St.ini xs up).obj 2 4 = oB6 a4 a5.length a6.length ∧ (∃ gr_0_5, (St.ini xs up).obj 2 5 = some (.rw 1 (a5.map (eL 1 eI)) gr_0_5)) ∧ (∃ gr_0_6, (St.ini xs up).obj 2 6 = some (.rw 1 (a6.map (eL 1 eI)) gr_0_6)) ∧ (∃ gr_0_7, (St.ini xs up).obj 2 7 = some (.rw 1 (a7.map eI) gr_0_7)) ∧ (∃ gr_1_1, (St.ini xs up).obj 1 1 = some (.rw 1 (a8.map eI) gr_1_1)) ∧ (∃ gr_1_10, (St.ini xs up).obj 1 10 = some (.rw 1 (a9.map eI) gr_1_10)) ∧ (St.ini xs up).obj 2 10 = none ∧ (St.ini xs up).obj 1 3 = none ∧ (St.ini xs up).obj 1 5 = none ∧ (St.ini xs up).obj 1 8 = none ∧ (St.ini xs up).obj 1 12 = none ∧ (St.ini xs up).obj 1 13 = none ∧ (St.ini xs up).obj 0 0 = none ∧ (St.ini xs up).obj 0 2 = none ∧ (St.ini xs up).obj 0 3 = none ∧ (St.ini xs up).obj 0 4 = none ∧ (St.ini xs up).up.length = 2)
  (hK : ∀ v σ', v = (.tp []) ∧ σ'.obj 2 0 = oB0 a0 ∧ σ'.obj 2 1 = oB5 a1 a2.length a3.length ∧ (∃ gr_0_2, σ'.obj 2 2 = some (.rw 1 (a2.map (eL 1 eI)) gr_0_2)) ∧ (∃ gr_0_3, σ'.obj 2 3 = some (.rw 1 (a3.map (eL 1 eI)) gr_0_3)) ∧ σ'.obj 2 4 = oB6 a4 a5.length r.length ∧ (∃ gr_0_5, σ'.obj 2 5 = some (.rw 1 (a5.map (eL 1 eI)) gr_0_5)) ∧ (∃ gr_0_6, σ'.obj 2 6 = some (.rw 1 (r.map (eL 1 eI)) gr_0_6)) ∧ (∃ gr_0_7, σ'.obj 2 7 = some (.rw 1 (a7.map eI) gr_0_7)) ∧ (∃ gr_1_1, σ'.obj 1 1 = some (.rw 1 (a8.map eI) gr_1_1)) ∧ (∃ gr_1_10, σ'.obj 1 10 = some (.rw 1 (a9.map eI) gr_1_10)) ∧ σ'.obj 2 10 = none ∧ σ'.obj 1 3 = none ∧ σ'.obj 1 5 = none ∧ σ'.obj 1 8 = none ∧ σ'.obj 1 12 = none ∧ σ'.obj 1 13 = none ∧ σ'.up.length = 2 → K v σ') : AtFn env k_unroll_frames_add [(.ptr 2 4 0), (.row 1 10 0 a9.length 1)] up K := by
 obtain ⟨f0, f1, ⟨gr_0_2, f2⟩, ⟨gr_0_3, f3⟩, f4, ⟨gr_0_5, f5⟩, ⟨gr_0_6, f6⟩, ⟨gr_0_7, f7⟩, ⟨gr_1_1, f8⟩, ⟨gr_1_10, f9⟩, f10, f11, f12, f13, f14, f15, f16, f17, f18, f19, hup⟩ := hI [(.ptr 2 4 0), (.row 1 10 0 a9.length 1)]
 have hu : up.length = 2 := hup
 clear hI
 refine AtFn_mono ?_ hK
 clear hK
 unfold w_unroll_frames_add_u4 at h
 rw [AtF fn_unroll_frames_add]
 simp only [n_unroll_frames_add]
 replace h := bsome h; obtain ⟨x0, H0, h⟩ := h
 try simp only [go_sem, *]
 refine L_unroll_frames_add_u4_L0 a0 a1 a2 a3 a4 a5 a6 a7 a8 a9 H0 ?_ ?_
 ·clear h
  simp only [go_sem, I_unroll_frames_add_u4_L0, *]
 ·intro e τ hJ
  rcases x0 with x0' | x0'
  ·obtain ⟨rfl, f21, f22, f23, f24, ⟨gr_0_2, f25⟩, ⟨gr_0_3, f26⟩, f27, ⟨gr_0_5, f28⟩, ⟨gr_0_6, f29⟩, ⟨gr_0_7, f30⟩, ⟨gr_1_1, f31⟩, ⟨gr_1_10, f32⟩, ⟨gr_2_0, f33⟩, f34, f35, f36, f37, f38, f39, f40, f41, f42, f43⟩ := hJ
   replace h := bsome h; obtain ⟨r0, H1, h⟩ := h
   have k0 := AtCall_all (s_clause_Make_ok H1); try dsimp only at k0
   replace h := bsome h; obtain ⟨x1, H2, h⟩ := h
   try simp only [go_sem, *]
   refine WC.mono (Q := fun e σ' => e = .normal ∧ σ'.get 0 = (.ptr 2 4 0) ∧ σ'.get 7 = (.d true (.lst 1 (r0.1.map eI))) ∧ σ'.get 41 = (.d true (.bool x1)) ∧ σ'.obj 2 0 = oB0 a0 ∧ σ'.obj 2 1 = oB5 a1 a2.length a3.length ∧ (∃ gr_0_2, σ'.obj 2 2 = some (.rw 1 (a2.map (eL 1 eI)) gr_0_2)) ∧ (∃ gr_0_3, σ'.obj 2 3 = some (.rw 1 (a3.map (eL 1 eI)) gr_0_3)) ∧ σ'.obj 2 4 = oB6 a4 a5.length a6.length ∧ (∃ gr_0_5, σ'.obj 2 5 = some (.rw 1 (a5.map (eL 1 eI)) gr_0_5)) ∧ (∃ gr_0_6, σ'.obj 2 6 = some (.rw 1 (a6.map (eL 1 eI)) gr_0_6)) ∧ (∃ gr_0_7, σ'.obj 2 7 = some (.rw 1 (a7.map eI) gr_0_7)) ∧ (∃ gr_1_1, σ'.obj 1 1 = some (.rw 1 (a8.map eI) gr_1_1)) ∧ (∃ gr_1_10, σ'.obj 1 10 = some (.rw 1 (a9.map eI) gr_1_10)) ∧ σ'.obj 2 10 = none ∧ σ'.obj 1 3 = none ∧ σ'.obj 1 5 = none ∧ σ'.obj 1 8 = none ∧ σ'.obj 1 12 = none ∧ σ'.obj 1 13 = none ∧ σ'.obj 0 2 = none ∧ σ'.obj 0 3 = none ∧ σ'.obj 0 4 = none ∧ σ'.up.length = 2) ?_ ?_
   ·replace h := H2
    clear H2
    replace h := itb h; rcases h with ⟨c0, h⟩ | ⟨c0, h⟩
    ·cases h
     simp only [go_sem, c_unroll_frames_add_p2, *]
    ·cases h
     simp only [go_sem, c_unroll_frames_add_p2, *]
   ·intro e τ hJ
    obtain ⟨rfl, f44, f45, f46, f47, f48, ⟨gr_0_2, f49⟩, ⟨gr_0_3, f50⟩, f51, ⟨gr_0_5, f52⟩, ⟨gr_0_6, f53⟩, ⟨gr_0_7, f54⟩, ⟨gr_1_1, f55⟩, ⟨gr_1_10, f56⟩, f57, f58, f59, f60, f61, f62, f63, f64, f65, f66⟩ := hJ
    replace h := itb h; rcases h with ⟨c1, h⟩ | ⟨c1, h⟩
    ·replace h := need h; obtain ⟨H3, h⟩ := h
     cases h
     simp only [go_sem, *]
    ·cases h
     simp only [go_sem, *]
  ·obtain ⟨rfl, f67, f68, ⟨gr_0_2, f69⟩, ⟨gr_0_3, f70⟩, f71, ⟨gr_0_5, f72⟩, ⟨gr_0_6, f73⟩, ⟨gr_0_7, f74⟩, ⟨gr_1_1, f75⟩, ⟨gr_1_10, f76⟩, f77, f78, f79, f80, f81, f82, f83, f84, f85, f86⟩ := hJ
   cases h
   simp only [go_sem, *]
def b_unroll_frames_add_u5_L0 (a0 : S_Circuit) (a1 : Int) (a2 : List (List Int)) (a3 : List (List Int)) (a4 : Int) (a5 : List (List Int)) (a6 : List (List Int)) (a7 : List Int) (a8 : List Int) (a9 : List Int) (s0 : (List Int) × Int) : Option (((List Int) × Int) ⊕ (((List Int)) ⊕ (Unit))) :=
 if (decide (s0.2 < (a9.length : Int))) = true then
  ((idx a9 s0.2).bind fun x1 =>
   if (x1 == 1) = true then
    some (Sum.inr ())
   else
    if (decide (x1 > 1)) = true then
     if s0.1.length + 1 ≤ big then
      some (Sum.inl (s0.1 ++ ([x1] : List Int)))
     else none
    else
     some (Sum.inl s0.1)).bind fun x0 =>
  match x0 with
  | .inl x0' =>
   some (Sum.inl (x0', (IntKind.wrap .i64 (s0.2 + 1))))
  | .inr x0' =>
   some (Sum.inr (Sum.inr ()))
 else
  some (Sum.inr (Sum.inl s0.1))
def I_unroll_frames_add_u5_L0 (a0 : S_Circuit) (a1 : Int) (a2 : List (List Int)) (a3 : List (List Int)) (a4 : Int) (a5 : List (List Int)) (a6 : List (List Int)) (a7 : List Int) (a8 : List Int) (a9 : List Int) (s0 : (List Int) × Int) (σ : St) : Prop := σ.get 0 = (.ptr 2 4 0) ∧ σ.get 4 = (.row 0 0 0 s0.1.length 1) ∧ σ.get 10 = (.row 1 11 0 a9.length 1) ∧ σ.get 11 = (.d true (.int .i64 (a9.length : Int))) ∧ σ.get 12 = (.d true (.int .i64 s0.2)) ∧ σ.obj 2 0 = oB0 a0 ∧ σ.obj 2 1 = oB5 a1 a2.length a3.length ∧ (∃ gr_0_2, σ.obj 2 2 = some (.rw 1 (a2.map (eL 1 eI)) gr_0_2)) ∧ (∃ gr_0_3, σ.obj 2 3 = some (.rw 1 (a3.map (eL 1 eI)) gr_0_3)) ∧ σ.obj 2 4 = oB6 a4 a5.length a6.length ∧ (∃ gr_0_5, σ.obj 2 5 = some (.rw 1 (a5.map (eL 1 eI)) gr_0_5)) ∧ (∃ gr_0_6, σ.obj 2 6 = some (.rw 1 (a6.map (eL 1 eI)) gr_0_6)) ∧ (∃ gr_0_7, σ.obj 2 7 = some (.rw 1 (a7.map eI) gr_0_7)) ∧ (∃ gr_1_1, σ.obj 1 1 = some (.rw 1 (a8.map eI) gr_1_1)) ∧ (∃ gr_1_11, σ.obj 1 11 = some (.rw 1 (a9.map eI) gr_1_11)) ∧ (∃ gr_2_0, σ.obj 0 0 = some (.rw 1 (s0.1.map eI) gr_2_0)) ∧ σ.obj 2 10 = none ∧ σ.obj 1 3 = none ∧ σ.obj 1 5 = none ∧ σ.obj 1 8 = none ∧ σ.obj 1 12 = none ∧ σ.obj 1 13 = none ∧ σ.obj 0 2 = none ∧ σ.obj 0 3 = none ∧ σ.obj 0 4 = none ∧ σ.up.length = 2
def J_unroll_frames_add_u5_L0 (a0 : S_Circuit) (a1 : Int) (a2 : List (List Int)) (a3 : List (List Int)) (a4 : Int) (a5 : List (List Int)) (a6 : List (List Int)) (a7 : List Int) (a8 : List Int) (a9 : List Int) (r : ((List Int)) ⊕ (Unit)) (e : Ex) (σ' : St) : Prop := (Sum.elim (fun o0 => e = (.exit 0) ∧ σ'.get 0 = (.ptr 2 4 0) ∧ σ'.get 4 = (.row 0 0 0 o0.length 1) ∧ σ'.obj 2 0 = oB0 a0 ∧ σ'.obj 2 1 = oB5 a1 a2.length a3.length ∧ (∃ gr_0_2, σ'.obj 2 2 = some (.rw 1 (a2.map (eL 1 eI)) gr_0_2)) ∧ (∃ gr_0_3, σ'.obj 2 3 = some (.rw 1 (a3.map (eL 1 eI)) gr_0_3)) ∧ σ'.obj 2 4 = oB6 a4 a5.length a6.length ∧ (∃ gr_0_5, σ'.obj 2 5 = some (.rw 1 (a5.map (eL 1 eI)) gr_0_5)) ∧ (∃ gr_0_6, σ'.obj 2 6 = some (.rw 1 (a6.map (eL 1 eI)) gr_0_6)) ∧ (∃ gr_0_7, σ'.obj 2 7 = some (.rw 1 (a7.map eI) gr_0_7)) ∧ (∃ gr_1_1, σ'.obj 1 1 = some (.rw 1 (a8.map eI) gr_1_1)) ∧ (∃ gr_1_11, σ'.obj 1 11 = some (.rw 1 (a9.map eI) gr_1_11)) ∧ (∃ gr_2_0, σ'.obj 0 0 = some (.rw 1 (o0.map eI) gr_2_0)) ∧ σ'.obj 2 10 = none ∧ σ'.obj 1 3 = none ∧ σ'.obj 1 5 = none ∧ σ'.obj 1 8 = none ∧ σ'.obj 1 12 = none ∧ σ'.obj 1 13 = none ∧ σ'.obj 0 2 = none ∧ σ'.obj 0 3 = none ∧ σ'.obj 0 4 = none ∧ σ'.up.length = 2) (fun o1 => e = .ret ∧ σ'.obj 2 0 = oB0 a0 ∧ σ'.obj 2 1 = oB5 a1 a2.length a3.length ∧ (∃ gr_0_2, σ'.obj 2 2 = some (.rw 1 (a2.map (eL 1 eI)) gr_0_2)) ∧ (∃ gr_0_3, σ'.obj 2 3 = some (.rw 1 (a3.map (eL 1 eI)) gr_0_3)) ∧ σ'.obj 2 4 = oB6 a4 a5.length a6.length ∧ (∃ gr_0_5, σ'.obj 2 5 = some (.rw 1 (a5.map (eL 1 eI)) gr_0_5)) ∧ (∃ gr_0_6, σ'.obj 2 6 = some (.rw 1 (a6.map (eL 1 eI)) gr_0_6)) ∧ (∃ gr_0_7, σ'.obj 2 7 = some (.rw 1 (a7.map eI) gr_0_7)) ∧ (∃ gr_1_1, σ'.obj 1 1 = some (.rw 1 (a8.map eI) gr_1_1)) ∧ (∃ gr_1_11, σ'.obj 1 11 = some (.rw 1 (a9.map eI) gr_1_11)) ∧ σ'.obj 2 10 = none ∧ σ'.obj 1 3 = none ∧ σ'.obj 1 5 = none ∧ σ'.obj 1 8 = none ∧ σ'.obj 1 12 = none ∧ σ'.obj 1 13 = none ∧ σ'.obj 0 2 = none ∧ σ'.obj 0 3 = none ∧ σ'.obj 0 4 = none ∧ σ'.up.length = 2)) r
theorem L_unroll_frames_add_u5_L0 (a0 : S_Circuit) (a1 : Int) (a2 : List (List Int)) (a3 : List (List Int)) (a4 : Int) (a5 : List (List Int)) (a6 : List (List Int)) (a7 : List Int) (a8 : List Int) (a9 : List Int) {s : (List Int) × Int} {r : ((List Int)) ⊕ (Unit)} (h : Lp (b_unroll_frames_add_u5_L0 a0 a1 a2 a3 a4 a5 a6 a7 a8 a9) s = some r) {σ : St} {Q : Ex → St → Prop} (hI : I_unroll_frames_add_u5_L0 a0 a1 a2 a3 a4 a5 a6 a7 a8 a9 s σ) (hQ : ∀ e σ', J_unroll_frames_add_u5_L0 a0 a1 a2 a3 a4 a5 a6 a7 a8 a9 r e σ' → Q e σ') : WC env (.loop c_unroll_frames_add_l1) σ Q :=
 WC_Lp (I_unroll_frames_add_u5_L0 a0 a1 a2 a3 a4 a5 a6 a7 a8 a9) (J_unroll_frames_add_u5_L0 a0 a1 a2 a3 a4 a5 a6 a7 a8 a9) (by
  clear h hI hQ
  clear s r σ Q
  intro s0 σ x hI h
  obtain ⟨f21, f22, f23, f24, f25, f26, f27, ⟨gr_0_2, f28⟩, ⟨gr_0_3, f29⟩, f30, ⟨gr_0_5, f31⟩, ⟨gr_0_6, f32⟩, ⟨gr_0_7, f33⟩, ⟨gr_1_1, f34⟩, ⟨gr_1_11, f35⟩, ⟨gr_2_0, f36⟩, f37, f38, f39, f40, f41, f42, f43, f44, f45, f46⟩ := hI
  unfold b_unroll_frames_add_u5_L0 at h
  replace h := itb h; rcases h with ⟨c0, h⟩ | ⟨c0, h⟩
  ·replace h := bsome h; obtain ⟨x0, H0, h⟩ := h
   try simp only [go_sem, c_unroll_frames_add_l1, *]
   refine WC.mono (Q := fun e σ' => (Sum.elim (fun o0 => e = .normal ∧ σ'.get 0 = (.ptr 2 4 0) ∧ σ'.get 4 = (.row 0 0 0 o0.length 1) ∧ σ'.get 10 = (.row 1 11 0 a9.length 1) ∧ σ'.get 11 = (.d true (.int .i64 (a9.length : Int))) ∧ σ'.get 12 = (.d true (.int .i64 s0.2)) ∧ σ'.obj 2 0 = oB0 a0 ∧ σ'.obj 2 1 = oB5 a1 a2.length a3.length ∧ (∃ gr_0_2, σ'.obj 2 2 = some (.rw 1 (a2.map (eL 1 eI)) gr_0_2)) ∧ (∃ gr_0_3, σ'.obj 2 3 = some (.rw 1 (a3.map (eL 1 eI)) gr_0_3)) ∧ σ'.obj 2 4 = oB6 a4 a5.length a6.length ∧ (∃ gr_0_5, σ'.obj 2 5 = some (.rw 1 (a5.map (eL 1 eI)) gr_0_5)) ∧ (∃ gr_0_6, σ'.obj 2 6 = some (.rw 1 (a6.map (eL 1 eI)) gr_0_6)) ∧ (∃ gr_0_7, σ'.obj 2 7 = some (.rw 1 (a7.map eI) gr_0_7)) ∧ (∃ gr_1_1, σ'.obj 1 1 = some (.rw 1 (a8.map eI) gr_1_1)) ∧ (∃ gr_1_11, σ'.obj 1 11 = some (.rw 1 (a9.map eI) gr_1_11)) ∧ (∃ gr_2_0, σ'.obj 0 0 = some (.rw 1 (o0.map eI) gr_2_0)) ∧ σ'.obj 2 10 = none ∧ σ'.obj 1 3 = none ∧ σ'.obj 1 5 = none ∧ σ'.obj 1 8 = none ∧ σ'.obj 1 12 = none ∧ σ'.obj 1 13 = none ∧ σ'.obj 0 2 = none ∧ σ'.obj 0 3 = none ∧ σ'.obj 0 4 = none ∧ σ'.up.length = 2) (fun o1 => e = .ret ∧ σ'.obj 2 0 = oB0 a0 ∧ σ'.obj 2 1 = oB5 a1 a2.length a3.length ∧ (∃ gr_0_2, σ'.obj 2 2 = some (.rw 1 (a2.map (eL 1 eI)) gr_0_2)) ∧ (∃ gr_0_3, σ'.obj 2 3 = some (.rw 1 (a3.map (eL 1 eI)) gr_0_3)) ∧ σ'.obj 2 4 = oB6 a4 a5.length a6.length ∧ (∃ gr_0_5, σ'.obj 2 5 = some (.rw 1 (a5.map (eL 1 eI)) gr_0_5)) ∧ (∃ gr_0_6, σ'.obj 2 6 = some (.rw 1 (a6.map (eL 1 eI)) gr_0_6)) ∧ (∃ gr_0_7, σ'.obj 2 7 = some (.rw 1 (a7.map eI) gr_0_7)) ∧ (∃ gr_1_1, σ'.obj 1 1 = some (.rw 1 (a8.map eI) gr_1_1)) ∧ (∃ gr_1_11, σ'.obj 1 11 = some (.rw 1 (a9.map eI) gr_1_11)) ∧ σ'.obj 2 10 = none ∧ σ'.obj 1 3 = none ∧ σ'.obj 1 5 = none ∧ σ'.obj 1 8 = none ∧ σ'.obj 1 12 = none ∧ σ'.obj 1 13 = none ∧ σ'.obj 0 2 = none ∧ σ'.obj 0 3 = none ∧ σ'.obj 0 4 = none ∧ σ'.up.length = 2)) x0) ?_ ?_
   ·replace h := H0
    clear H0
    replace h := bsome h; obtain ⟨x1, H1, h⟩ := h
    have n0 := idx_n H1; have q0 := idx_q H1; have y0 := idx_x H1
    replace h := itb h; rcases h with ⟨c1, h⟩ | ⟨c1, h⟩
    ·cases h
     simp only [go_sem, c_unroll_frames_add_l1, c_unroll_frames_add_p1, *]
    ·replace h := itb h; rcases h with ⟨c2, h⟩ | ⟨c2, h⟩
     ·replace h := need h; obtain ⟨H2, h⟩ := h
      cases h
      simp only [go_sem, c_unroll_frames_add_l1, c_unroll_frames_add_p1, *]
     ·cases h
      simp only [go_sem, c_unroll_frames_add_l1, c_unroll_frames_add_p1, *]
   ·intro e τ hJ
    rcases x0 with x0' | x0'
    ·obtain ⟨rfl, f47, f48, f49, f50, f51, f52, f53, ⟨gr_0_2, f54⟩, ⟨gr_0_3, f55⟩, f56, ⟨gr_0_5, f57⟩, ⟨gr_0_6, f58⟩, ⟨gr_0_7, f59⟩, ⟨gr_1_1, f60⟩, ⟨gr_1_11, f61⟩, ⟨gr_2_0, f62⟩, f63, f64, f65, f66, f67, f68, f69, f70, f71, f72⟩ := hJ
     cases h
     simp only [go_sem, LQ_inl, I_unroll_frames_add_u5_L0, c_unroll_frames_add_l1, *]
    ·obtain ⟨rfl, f73, f74, ⟨gr_0_2, f75⟩, ⟨gr_0_3, f76⟩, f77, ⟨gr_0_5, f78⟩, ⟨gr_0_6, f79⟩, ⟨gr_0_7, f80⟩, ⟨gr_1_1, f81⟩, ⟨gr_1_11, f82⟩, f83, f84, f85, f86, f87, f88, f89, f90, f91, f92⟩ := hJ
     cases h
     simp only [go_sem, LQ_inr, J_unroll_frames_add_u5_L0, c_unroll_frames_add_l1, *]
  ·cases h
   simp only [go_sem, LQ_inr, J_unroll_frames_add_u5_L0, c_unroll_frames_add_l1, *]
) h hI hQ
noncomputable def w_unroll_frames_add_u5 (a0 : S_Circuit) (a1 : Int) (a2 : List (List Int)) (a3 : List (List Int)) (a4 : Int) (a5 : List (List Int)) (a6 : List (List Int)) (a7 : List Int) (a8 : List Int) (a9 : List Int) : Option ((List (List Int))) :=
 (Lp (b_unroll_frames_add_u5_L0 a0 a1 a2 a3 a4 a5 a6 a7 a8 a9) (([] : List Int), 0)).bind fun x0 =>
 match x0 with
 | .inl x0' =>
  (s_clause_Make a4 x0').bind fun r0 =>
  (if (r0.2.2 == 0) = true then
    some (!r0.2.1)
   else
    some false).bind fun x1 =>
  if x1 = true then
   if a6.length + 1 ≤ big then
    some (a6 ++ ([r0.1] : List (List Int)))
   else none
  else
   some a6
 | .inr x0' =>
  some a6
theorem E_unroll_frames_add_u5 (a0 : S_Circuit) (a1 : Int) (a2 : List (List Int)) (a3 : List (List Int)) (a4 : Int) (a5 : List (List Int)) (a6 : List (List Int)) (a7 : List Int) (a8 : List Int) (a9 : List Int) {r : (List (List Int))} (h : w_unroll_frames_add_u5 a0 a1 a2 a3 a4 a5 a6 a7 a8 a9 = some r) {up : List Lv} {K : V → St → Prop} (hI : ∀ xs, (St.ini xs up).obj 2 0 = oB0 a0 ∧ (St.ini xs up).obj 2 1 = oB5 a1 a2.length a3.length ∧ (∃ gr_0_2, (St.ini xs up).obj 2 2 = some (.rw 1 (a2.map (eL 1 eI)) gr_0_2)) ∧ (∃ gr_0_3, (St.ini xs up).obj 2 3 = some (.rw 1 (a3.map (eL 1 eI)) gr_0_3)) ∧ (St.ini xs up).obj 2 4 = oB6 a4 a5.length a6.length ∧ (∃ gr_0_5, (St.ini xs up).obj 2 5 = some (.rw 1 (a5.map (eL 1 eI)) gr_0_5)) ∧ (∃ gr_0_6, (St.ini xs up).obj 2 6 = some (.rw 1 (a6.map (eL 1 eI)) gr_0_6)) ∧ (∃ gr_0_7, (St.ini xs up).obj 2 7 = some (.rw 1 (a7.map eI) gr_0_7)) ∧ (∃ gr_1_1, (St.ini xs up).obj 1 1 = some (.rw 1 (a8.map eI) gr_1_1)) ∧ (∃ gr_1_11, (St.ini xs up).obj 1 11 = some (.rw 1 (a9.map eI) gr_1_11)) ∧ (St.ini xs up).obj 2 10 = none ∧ (St.ini xs up).obj 1 3 = none ∧ (St.ini xs up).obj 1 5 = none ∧ (St.ini xs up).obj 1 8 = none ∧ (St.ini xs up).obj 1 12 = none ∧ (St.ini xs up).obj 1 13 = none ∧ (St.ini xs up).obj 0 0 = none ∧ (St.ini xs up).obj 0 2 = none ∧ (St.ini xs up).obj 0 3 = none ∧ (St.ini xs up).obj 0 4 = none ∧ (St.ini xs up).up.length = 2)
  (hK : ∀ v σ', v = (.tp []) ∧ σ'.obj 2 0 = oB0 a0 ∧ σ'.obj 2 1 = oB5 a1 a2.length a3.length ∧ (∃ gr_0_2, σ'.obj 2 2 = some (.rw 1 (a2.map (eL 1 eI)) gr_0_2)) ∧ (∃ gr_0_3, σ'.obj 2 3 = some (.rw 1 (a3.map (eL 1 eI)) gr_0_3)) ∧ σ'.obj 2 4 = oB6 a4 a5.length r.length ∧ (∃ gr_0_5, σ'.obj 2 5 = some (.rw 1 (a5.map (eL 1 eI)) gr_0_5)) ∧ (∃ gr_0_6, σ'.obj 2 6 = some (.rw 1 (r.map (eL 1 eI)) gr_0_6)) ∧ (∃ gr_0_7, σ'.obj 2 7 = some (.rw 1 (a7.map eI) gr_0_7)) ∧ (∃ gr_1_1, σ'.obj 1 1 = some (.rw 1 (a8.map eI) gr_1_1)) ∧ (∃ gr_1_11, σ'.obj 1 11 = some (.rw 1 (a9.map eI) gr_1_11)) ∧ σ'.obj 2 10 = none ∧ σ'.obj 1 3 = none ∧ σ'.obj 1 5 = none ∧ σ'.obj 1 8 = none ∧ σ'.obj 1 12 = none ∧ σ'.obj 1 13 = none ∧ σ'.up.length = 2 → K v σ') : AtFn env k_unroll_frames_add [(.ptr 2 4 0), (.row 1 11 0 a9.length 1)] up K := by
 obtain ⟨f0, f1, ⟨gr_0_2, f2⟩, ⟨gr_0_3, f3⟩, f4, ⟨gr_0_5, f5⟩, ⟨gr_0_6, f6⟩, ⟨gr_0_7, f7⟩, ⟨gr_1_1, f8⟩, ⟨gr_1_11, f9⟩, f10, f11, f12, f13, f14, f15, f16, f17, f18, f19, hup⟩ := hI [(.ptr 2 4 0), (.row 1 11 0 a9.length 1)]
 have hu : up.length = 2 := hup
 clear hI
 refine AtFn_mono ?_ hK
 clear hK
 unfold w_unroll_frames_add_u5 at h
 rw [AtF fn_unroll_frames_add]
 simp only [n_unroll_frames_add]
 replace h := bsome h; obtain ⟨x0, H0, h⟩ := h
 try simp only [go_sem, *]
 refine L_unroll_frames_add_u5_L0 a0 a1 a2 a3 a4 a5 a6 a7 a8 a9 H0 ?_ ?_
 ·clear h
  simp only [go_sem, I_unroll_frames_add_u5_L0, *]
 ·intro e τ hJ
  rcases x0 with x0' | x0'
  ·obtain ⟨rfl, f21, f22, f23, f24, ⟨gr_0_2, f25⟩, ⟨gr_0_3, f26⟩, f27, ⟨gr_0_5, f28⟩, ⟨gr_0_6, f29⟩, ⟨gr_0_7, f30⟩, ⟨gr_1_1, f31⟩, ⟨gr_1_11, f32⟩, ⟨gr_2_0, f33⟩, f34, f35, f36, f37, f38, f39, f40, f41, f42, f43⟩ := hJ
   replace h := bsome h; obtain ⟨r0, H1, h⟩ := h
   have k0 := AtCall_all (s_clause_Make_ok H1); try dsimp only at k0
   replace h := bsome h; obtain ⟨x1, H2, h⟩ := h
   try simp only [go_sem, *]
   refine WC.mono (Q := fun e σ' => e = .normal ∧ σ'.get 0 = (.ptr 2 4 0) ∧ σ'.get 7 = (.d true (.lst 1 (r0.1.map eI))) ∧ σ'.get 41 = (.d true (.bool x1)) ∧ σ'.obj 2 0 = oB0 a0 ∧ σ'.obj 2 1 = oB5 a1 a2.length a3.length ∧ (∃ gr_0_2, σ'.obj 2 2 = some (.rw 1 (a2.map (eL 1 eI)) gr_0_2)) ∧ (∃ gr_0_3, σ'.obj 2 3 = some (.rw 1 (a3.map (eL 1 eI)) gr_0_3)) ∧ σ'.obj 2 4 = oB6 a4 a5.length a6.length ∧ (∃ gr_0_5, σ'.obj 2 5 = some (.rw 1 (a5.map (eL 1 eI)) gr_0_5)) ∧ (∃ gr_0_6, σ'.obj 2 6 = some (.rw 1 (a6.map (eL 1 eI)) gr_0_6)) ∧ (∃ gr_0_7, σ'.obj 2 7 = some (.rw 1 (a7.map eI) gr_0_7)) ∧ (∃ gr_1_1, σ'.obj 1 1 = some (.rw 1 (a8.map eI) gr_1_1)) ∧ (∃ gr_1_11, σ'.obj 1 11 = some (.rw 1 (a9.map eI) gr_1_11)) ∧ σ'.obj 2 10 = none ∧ σ'.obj 1 3 = none ∧ σ'.obj 1 5 = none ∧ σ'.obj 1 8 = none ∧ σ'.obj 1 12 = none ∧ σ'.obj 1 13 = none ∧ σ'.obj 0 2 = none ∧ σ'.obj 0 3 = none ∧ σ'.obj 0 4 = none ∧ σ'.up.length = 2) ?_ ?_
   ·replace h := H2
    clear H2
    replace h := itb h; rcases h with ⟨c0, h⟩ | ⟨c0, h⟩
    ·cases h
     simp only [go_sem, c_unroll_frames_add_p2, *]
    ·cases h
     simp only [go_sem, c_unroll_frames_add_p2, *]
   ·intro e τ hJ
    obtain ⟨rfl, f44, f45, f46, f47, f48, ⟨gr_0_2, f49⟩, ⟨gr_0_3, f50⟩, f51, ⟨gr_0_5, f52⟩, ⟨gr_0_6, f53⟩, ⟨gr_0_7, f54⟩, ⟨gr_1_1, f55⟩, ⟨gr_1_11, f56⟩, f57, f58, f59, f60, f61, f62, f63, f64, f65, f66⟩ := hJ
    replace h := itb h; rcases h with ⟨c1, h⟩ | ⟨c1, h⟩
    ·replace h := need h; obtain ⟨H3, h⟩ := h
     cases h
     simp only [go_sem, *]
    ·cases h
     simp only [go_sem, *]
  ·obtain ⟨rfl, f67, f68, ⟨gr_0_2, f69⟩, ⟨gr_0_3, f70⟩, f71, ⟨gr_0_5, f72⟩, ⟨gr_0_6, f73⟩, ⟨gr_0_7, f74⟩, ⟨gr_1_1, f75⟩, ⟨gr_1_11, f76⟩, f77, f78, f79, f80, f81, f82, f83, f84, f85, f86⟩ := hJ
   cases h
   simp only [go_sem, *]
noncomputable def b_unroll_frames_frame_u1_L2 (a0 : S_Circuit) (a1 : S_Circuit) (a2 : Int) (a3 : List (List Int)) (a4 : List (List Int)) (a6 : List (List Int)) (a8 : List Int) (s2 : Int × (List (List Int)) × (List Int) × Int) : Option ((Int × (List (List Int)) × (List Int) × Int) ⊕ ((Int × (List (List Int)) × (List Int)) ⊕ (Int × (List (List Int))))) :=
 if (decide (s2.2.2.2 < (a0.Ands.length : Int))) = true then
  (idx a0.Ands s2.2.2.2).bind fun x2 =>
  if (decide ((IntKind.wrap .i64 (s2.1 + 1)) > 4000)) = true then
   some (Sum.inr (Sum.inr ((IntKind.wrap .i64 (s2.1 + 1)), s2.2.1)))
  else
   (s_unroll_lit s2.2.2.1 x2.A).bind fun r0 =>
   (s_unroll_lit s2.2.2.1 x2.B).bind fun r1 =>
   if s2.2.2.1.length + 1 ≤ big then
    (w_unroll_frames_add_u3 a1 a2 a3 a4 (IntKind.wrap .i64 (s2.1 + 1)) a6 s2.2.1 a8 (s2.2.2.1 ++ ([(IntKind.wrap .i64 (2 * (IntKind.wrap .i64 (s2.1 + 1))))] : List Int)) ([(xorI .i64 (IntKind.wrap .i64 (2 * (IntKind.wrap .i64 (s2.1 + 1)))) 1), r0] : List Int)).bind fun x3 =>
    (w_unroll_frames_add_u4 a1 a2 a3 a4 (IntKind.wrap .i64 (s2.1 + 1)) a6 x3 a8 (s2.2.2.1 ++ ([(IntKind.wrap .i64 (2 * (IntKind.wrap .i64 (s2.1 + 1))))] : List Int)) ([(xorI .i64 (IntKind.wrap .i64 (2 * (IntKind.wrap .i64 (s2.1 + 1)))) 1), r1] : List Int)).bind fun x4 =>
    (w_unroll_frames_add_u5 a1 a2 a3 a4 (IntKind.wrap .i64 (s2.1 + 1)) a6 x4 a8 (s2.2.2.1 ++ ([(IntKind.wrap .i64 (2 * (IntKind.wrap .i64 (s2.1 + 1))))] : List Int)) ([(IntKind.wrap .i64 (2 * (IntKind.wrap .i64 (s2.1 + 1)))), (xorI .i64 r0 1), (xorI .i64 r1 1)] : List Int)).bind fun x5 =>
    some (Sum.inl ((IntKind.wrap .i64 (s2.1 + 1)), x5, (s2.2.2.1 ++ ([(IntKind.wrap .i64 (2 * (IntKind.wrap .i64 (s2.1 + 1))))] : List Int)), (IntKind.wrap .i64 (s2.2.2.2 + 1))))
   else none
 else
  some (Sum.inr (Sum.inl (s2.1, s2.2.1, s2.2.2.1)))
def I_unroll_frames_frame_u1_L2 (a0 : S_Circuit) (a1 : S_Circuit) (a2 : Int) (a3 : List (List Int)) (a4 : List (List Int)) (a6 : List (List Int)) (a8 : List Int) (s2 : Int × (List (List Int)) × (List Int) × Int) (σ : St) : Prop := σ.get 0 = (.ptr 1 4 0) ∧ σ.get 7 = (.row 0 1 0 s2.2.2.1.length 1) ∧ σ.get 42 = (.d false (.lst 2 (a0.Ands.map eS_And))) ∧ σ.get 43 = (.d true (.int .i64 (a0.Ands.length : Int))) ∧ σ.get 44 = (.d true (.int .i64 s2.2.2.2)) ∧ σ.obj 1 0 = oB0 a1 ∧ σ.obj 1 1 = oB5 a2 a3.length a4.length ∧ (∃ gr_0_2, σ.obj 1 2 = some (.rw 1 (a3.map (eL 1 eI)) gr_0_2)) ∧ (∃ gr_0_3, σ.obj 1 3 = some (.rw 1 (a4.map (eL 1 eI)) gr_0_3)) ∧ σ.obj 1 4 = oB6 s2.1 a6.length s2.2.1.length ∧ (∃ gr_0_5, σ.obj 1 5 = some (.rw 1 (a6.map (eL 1 eI)) gr_0_5)) ∧ (∃ gr_0_6, σ.obj 1 6 = some (.rw 1 (s2.2.1.map (eL 1 eI)) gr_0_6)) ∧ (∃ gr_0_7, σ.obj 1 7 = some (.rw 1 (a8.map eI) gr_0_7)) ∧ (∃ gr_1_1, σ.obj 0 1 = some (.rw 1 (s2.2.2.1.map eI) gr_1_1)) ∧ σ.obj 1 10 = none ∧ σ.obj 0 3 = none ∧ σ.obj 0 5 = none ∧ σ.obj 0 8 = none ∧ σ.obj 0 12 = none ∧ σ.obj 0 13 = none ∧ σ.up.length = 1
def J_unroll_frames_frame_u1_L2 (a0 : S_Circuit) (a1 : S_Circuit) (a2 : Int) (a3 : List (List Int)) (a4 : List (List Int)) (a6 : List (List Int)) (a8 : List Int) (r : (Int × (List (List Int)) × (List Int)) ⊕ (Int × (List (List Int)))) (e : Ex) (σ' : St) : Prop := (Sum.elim (fun o0 => e = (.exit 4) ∧ σ'.get 0 = (.ptr 1 4 0) ∧ σ'.get 7 = (.row 0 1 0 o0.2.2.length 1) ∧ σ'.obj 1 0 = oB0 a1 ∧ σ'.obj 1 1 = oB5 a2 a3.length a4.length ∧ (∃ gr_0_2, σ'.obj 1 2 = some (.rw 1 (a3.map (eL 1 eI)) gr_0_2)) ∧ (∃ gr_0_3, σ'.obj 1 3 = some (.rw 1 (a4.map (eL 1 eI)) gr_0_3)) ∧ σ'.obj 1 4 = oB6 o0.1 a6.length o0.2.1.length ∧ (∃ gr_0_5, σ'.obj 1 5 = some (.rw 1 (a6.map (eL 1 eI)) gr_0_5)) ∧ (∃ gr_0_6, σ'.obj 1 6 = some (.rw 1 (o0.2.1.map (eL 1 eI)) gr_0_6)) ∧ (∃ gr_0_7, σ'.obj 1 7 = some (.rw 1 (a8.map eI) gr_0_7)) ∧ (∃ gr_1_1, σ'.obj 0 1 = some (.rw 1 (o0.2.2.map eI) gr_1_1)) ∧ σ'.obj 1 10 = none ∧ σ'.obj 0 3 = none ∧ σ'.obj 0 5 = none ∧ σ'.obj 0 8 = none ∧ σ'.obj 0 12 = none ∧ σ'.obj 0 13 = none ∧ σ'.up.length = 1) (fun o1 => e = .ret ∧ σ'.get 6 = (.d true (.bool false)) ∧ σ'.obj 1 0 = oB0 a1 ∧ σ'.obj 1 1 = oB5 a2 a3.length a4.length ∧ (∃ gr_0_2, σ'.obj 1 2 = some (.rw 1 (a3.map (eL 1 eI)) gr_0_2)) ∧ (∃ gr_0_3, σ'.obj 1 3 = some (.rw 1 (a4.map (eL 1 eI)) gr_0_3)) ∧ σ'.obj 1 4 = oB6 o1.1 a6.length o1.2.length ∧ (∃ gr_0_5, σ'.obj 1 5 = some (.rw 1 (a6.map (eL 1 eI)) gr_0_5)) ∧ (∃ gr_0_6, σ'.obj 1 6 = some (.rw 1 (o1.2.map (eL 1 eI)) gr_0_6)) ∧ (∃ gr_0_7, σ'.obj 1 7 = some (.rw 1 (a8.map eI) gr_0_7)) ∧ σ'.obj 1 10 = none ∧ σ'.obj 0 3 = none ∧ σ'.obj 0 5 = none ∧ σ'.obj 0 8 = none ∧ σ'.obj 0 12 = none ∧ σ'.obj 0 13 = none ∧ σ'.up.length = 1)) r
theorem L_unroll_frames_frame_u1_L2 (a0 : S_Circuit) (a1 : S_Circuit) (a2 : Int) (a3 : List (List Int)) (a4 : List (List Int)) (a6 : List (List Int)) (a8 : List Int) {s : Int × (List (List Int)) × (List Int) × Int} {r : (Int × (List (List Int)) × (List Int)) ⊕ (Int × (List (List Int)))} (h : Lp (b_unroll_frames_frame_u1_L2 a0 a1 a2 a3 a4 a6 a8) s = some r) {σ : St} {Q : Ex → St → Prop} (hI : I_unroll_frames_frame_u1_L2 a0 a1 a2 a3 a4 a6 a8 s σ) (hQ : ∀ e σ', J_unroll_frames_frame_u1_L2 a0 a1 a2 a3 a4 a6 a8 r e σ' → Q e σ') : WC env (.loop c_unroll_frames_frame_l3) σ Q :=
 WC_Lp (I_unroll_frames_frame_u1_L2 a0 a1 a2 a3 a4 a6 a8) (J_unroll_frames_frame_u1_L2 a0 a1 a2 a3 a4 a6 a8) (by
  clear h hI hQ
  clear s r σ Q
  intro s2 σ x hI h
  obtain ⟨f58, f59, f60, f61, f62, f63, f64, ⟨gr_0_2, f65⟩, ⟨gr_0_3, f66⟩, f67, ⟨gr_0_5, f68⟩, ⟨gr_0_6, f69⟩, ⟨gr_0_7, f70⟩, ⟨gr_1_1, f71⟩, f72, f73, f74, f75, f76, f77, f78⟩ := hI
  unfold b_unroll_frames_frame_u1_L2 at h
  replace h := itb h; rcases h with ⟨c0, h⟩ | ⟨c0, h⟩
  ·replace h := bsome h; obtain ⟨x2, H2, h⟩ := h
   have n0 := idx_n H2; have q0 := idx_q H2; have y0 := idx_x H2
   replace h := itb h; rcases h with ⟨c1, h⟩ | ⟨c1, h⟩
   ·cases h
    simp only [go_sem, LQ_inr, J_unroll_frames_frame_u1_L2, c_unroll_frames_frame_l3, *]
   ·replace h := bsome h; obtain ⟨r0, H3, h⟩ := h
    have k0 := AtCall_all (s_unroll_lit_ok H3); try dsimp only at k0
    replace h := bsome h; obtain ⟨r1, H4, h⟩ := h
    have k1 := AtCall_all (s_unroll_lit_ok H4); try dsimp only at k1
    replace h := need h; obtain ⟨H5, h⟩ := h
    replace h := bsome h; obtain ⟨x3, H6, h⟩ := h
    try simp only [go_sem, c_unroll_frames_frame_l3, *, fn_unroll_frames_add, n_unroll_frames_add]
    refine E_unroll_frames_add_u3 a1 a2 a3 a4 (IntKind.wrap .i64 (s2.1 + 1)) a6 s2.2.1 a8 (s2.2.2.1 ++ ([(IntKind.wrap .i64 (2 * (IntKind.wrap .i64 (s2.1 + 1))))] : List Int)) ([(xorI .i64 (IntKind.wrap .i64 (2 * (IntKind.wrap .i64 (s2.1 + 1)))) 1), r0] : List Int) H6 (fun xs => ?_) ?_
    ·clear h
     simp only [go_sem, c_unroll_frames_frame_l3, *, fn_unroll_frames_add, n_unroll_frames_add]
    ·intro v τ hJ
     obtain ⟨rfl, f79, f80, ⟨gr_0_2, f81⟩, ⟨gr_0_3, f82⟩, f83, ⟨gr_0_5, f84⟩, ⟨gr_0_6, f85⟩, ⟨gr_0_7, f86⟩, ⟨gr_1_1, f87⟩, ⟨gr_1_9, f88⟩, f89, f90, f91, f92, f93, f94, f95⟩ := hJ
     replace h := bsome h; obtain ⟨x4, H7, h⟩ := h
     try simp only [go_sem, c_unroll_frames_frame_l3, *, fn_unroll_frames_add, n_unroll_frames_add]
     refine E_unroll_frames_add_u4 a1 a2 a3 a4 (IntKind.wrap .i64 (s2.1 + 1)) a6 x3 a8 (s2.2.2.1 ++ ([(IntKind.wrap .i64 (2 * (IntKind.wrap .i64 (s2.1 + 1))))] : List Int)) ([(xorI .i64 (IntKind.wrap .i64 (2 * (IntKind.wrap .i64 (s2.1 + 1)))) 1), r1] : List Int) H7 (fun xs => ?_) ?_
     ·clear h
      simp only [go_sem, c_unroll_frames_frame_l3, *, fn_unroll_frames_add, n_unroll_frames_add]
     ·intro v τ hJ
      obtain ⟨rfl, f96, f97, ⟨gr_0_2, f98⟩, ⟨gr_0_3, f99⟩, f100, ⟨gr_0_5, f101⟩, ⟨gr_0_6, f102⟩, ⟨gr_0_7, f103⟩, ⟨gr_1_1, f104⟩, ⟨gr_1_10, f105⟩, f106, f107, f108, f109, f110, f111, f112⟩ := hJ
      replace h := bsome h; obtain ⟨x5, H8, h⟩ := h
      try simp only [go_sem, c_unroll_frames_frame_l3, *, fn_unroll_frames_add, n_unroll_frames_add]
      refine E_unroll_frames_add_u5 a1 a2 a3 a4 (IntKind.wrap .i64 (s2.1 + 1)) a6 x4 a8 (s2.2.2.1 ++ ([(IntKind.wrap .i64 (2 * (IntKind.wrap .i64 (s2.1 + 1))))] : List Int)) ([(IntKind.wrap .i64 (2 * (IntKind.wrap .i64 (s2.1 + 1)))), (xorI .i64 r0 1), (xorI .i64 r1 1)] : List Int) H8 (fun xs => ?_) ?_
      ·clear h
       simp only [go_sem, c_unroll_frames_frame_l3, *, fn_unroll_frames_add, n_unroll_frames_add]
      ·intro v τ hJ
       obtain ⟨rfl, f113, f114, ⟨gr_0_2, f115⟩, ⟨gr_0_3, f116⟩, f117, ⟨gr_0_5, f118⟩, ⟨gr_0_6, f119⟩, ⟨gr_0_7, f120⟩, ⟨gr_1_1, f121⟩, ⟨gr_1_11, f122⟩, f123, f124, f125, f126, f127, f128, f129⟩ := hJ
       cases h
       simp only [go_sem, LQ_inl, I_unroll_frames_frame_u1_L2, c_unroll_frames_frame_l3, *]
  ·cases h
   simp only [go_sem, LQ_inr, J_unroll_frames_frame_u1_L2, c_unroll_frames_frame_l3, *]
) h hI hQ
noncomputable def w_unroll_frames_frame_u1 (a0 : S_Circuit) (a1 : S_Circuit) (a2 : Int) (a3 : List (List Int)) (a4 : List (List Int)) (a5 : Int) (a6 : List (List Int)) (a7 : List (List Int)) (a8 : List Int) : Option (Int × (List (List Int)) × (List (List Int)) × Bool) :=
 (Lp (b_unroll_frames_frame_u1_L0 a0 a1 a2 a3 a4 a6 a7 a8) (a5, ([0] : List Int), 0)).bind fun x0 =>
 (Lp (b_unroll_frames_frame_u1_L1 a0 a1 a2 a3 a4 a6 a7 a8) (x0.1, x0.2, 0)).bind fun x1 =>
 (Lp (b_unroll_frames_frame_u1_L2 a0 a1 a2 a3 a4 a6 a8) (x1.1, a7, x1.2, 0)).bind fun x2 =>
 match x2 with
 | .inl x2' =>
  if a6.length + 1 ≤ big then
   (if (decide (x2'.1 ≤ 4000)) = true then
     some (decide ((x2'.2.1.length : Int) ≤ 20000))
    else
     some false).bind fun x3 =>
   some (x2'.1, (a6 ++ ([x2'.2.2] : List (List Int))), x2'.2.1, x3)
  else none
 | .inr x2' =>
  some (x2'.1, a6, x2'.2, false)
theorem E_unroll_frames_frame_u1 (a0 : S_Circuit) (a1 : S_Circuit) (a2 : Int) (a3 : List (List Int)) (a4 : List (List Int)) (a5 : Int) (a6 : List (List Int)) (a7 : List (List Int)) (a8 : List Int) {r : Int × (List (List Int)) × (List (List Int)) × Bool} (h : w_unroll_frames_frame_u1 a0 a1 a2 a3 a4 a5 a6 a7 a8 = some r) {up : List Lv} {K : V → St → Prop} (hI : ∀ xs, (St.ini xs up).obj 1 0 = oB0 a1 ∧ (St.ini xs up).obj 1 1 = oB5 a2 a3.length a4.length ∧ (∃ gr_0_2, (St.ini xs up).obj 1 2 = some (.rw 1 (a3.map (eL 1 eI)) gr_0_2)) ∧ (∃ gr_0_3, (St.ini xs up).obj 1 3 = some (.rw 1 (a4.map (eL 1 eI)) gr_0_3)) ∧ (St.ini xs up).obj 1 4 = oB6 a5 a6.length a7.length ∧ (∃ gr_0_5, (St.ini xs up).obj 1 5 = some (.rw 1 (a6.map (eL 1 eI)) gr_0_5)) ∧ (∃ gr_0_6, (St.ini xs up).obj 1 6 = some (.rw 1 (a7.map (eL 1 eI)) gr_0_6)) ∧ (∃ gr_0_7, (St.ini xs up).obj 1 7 = some (.rw 1 (a8.map eI) gr_0_7)) ∧ (St.ini xs up).obj 1 10 = none ∧ (St.ini xs up).obj 0 0 = none ∧ (St.ini xs up).obj 0 1 = none ∧ (St.ini xs up).obj 0 3 = none ∧ (St.ini xs up).obj 0 5 = none ∧ (St.ini xs up).obj 0 8 = none ∧ (St.ini xs up).obj 0 12 = none ∧ (St.ini xs up).obj 0 13 = none ∧ (St.ini xs up).up.length = 1)
  (hK : ∀ v σ', v = (.d true (.bool r.2.2.2)) ∧ σ'.obj 1 0 = oB0 a1 ∧ σ'.obj 1 1 = oB5 a2 a3.length a4.length ∧ (∃ gr_0_2, σ'.obj 1 2 = some (.rw 1 (a3.map (eL 1 eI)) gr_0_2)) ∧ (∃ gr_0_3, σ'.obj 1 3 = some (.rw 1 (a4.map (eL 1 eI)) gr_0_3)) ∧ σ'.obj 1 4 = oB6 r.1 r.2.1.length r.2.2.1.length ∧ (∃ gr_0_5, σ'.obj 1 5 = some (.rw 1 (r.2.1.map (eL 1 eI)) gr_0_5)) ∧ (∃ gr_0_6, σ'.obj 1 6 = some (.rw 1 (r.2.2.1.map (eL 1 eI)) gr_0_6)) ∧ (∃ gr_0_7, σ'.obj 1 7 = some (.rw 1 (a8.map eI) gr_0_7)) ∧ σ'.obj 1 10 = none ∧ σ'.up.length = 1 → K v σ') : AtFn env k_unroll_frames_frame [(.ptr 1 4 0), (.ag [(.d true (.int .i64 a0.Inputs)), (.d false (.lst 2 (a0.Latches.map eS_Latch))), (.d false (.lst 2 (a0.Ands.map eS_And))), (.d false (.lst 1 (a0.Bads.map eI))), (.d false (.lst 1 (a0.Constraints.map eI)))]), (.row 1 7 0 a8.length 1)] up K := by
 obtain ⟨f0, f1, ⟨gr_0_2, f2⟩, ⟨gr_0_3, f3⟩, f4, ⟨gr_0_5, f5⟩, ⟨gr_0_6, f6⟩, ⟨gr_0_7, f7⟩, f8, f9, f10, f11, f12, f13, f14, f15, hup⟩ := hI [(.ptr 1 4 0), (.ag [(.d true (.int .i64 a0.Inputs)), (.d false (.lst 2 (a0.Latches.map eS_Latch))), (.d false (.lst 2 (a0.Ands.map eS_And))), (.d false (.lst 1 (a0.Bads.map eI))), (.d false (.lst 1 (a0.Constraints.map eI)))]), (.row 1 7 0 a8.length 1)]
 have hu : up.length = 1 := hup
 clear hI
 refine AtFn_mono ?_ hK
 clear hK
 unfold w_unroll_frames_frame_u1 at h
 rw [AtF fn_unroll_frames_frame]
 simp only [n_unroll_frames_frame]
 replace h := bsome h; obtain ⟨x0, H0, h⟩ := h
 try simp only [go_sem, *]
 refine L_unroll_frames_frame_u1_L0 a0 a1 a2 a3 a4 a6 a7 a8 H0 ?_ ?_
 ·clear h
  simp only [go_sem, I_unroll_frames_frame_u1_L0, *]
 ·intro e τ hJ
  obtain ⟨rfl, f17, f18, f19, f20, f21, f22, ⟨gr_0_2, f23⟩, ⟨gr_0_3, f24⟩, f25, ⟨gr_0_5, f26⟩, ⟨gr_0_6, f27⟩, ⟨gr_0_7, f28⟩, f29, ⟨gr_1_1, f30⟩, f31, f32, f33, f34, f35, f36, f37⟩ := hJ
  replace h := bsome h; obtain ⟨x1, H1, h⟩ := h
  try simp only [go_sem, *]
  refine L_unroll_frames_frame_u1_L1 a0 a1 a2 a3 a4 a6 a7 a8 H1 ?_ ?_
  ·clear h
   simp only [go_sem, I_unroll_frames_frame_u1_L1, *]
  ·intro e τ hJ
   obtain ⟨rfl, f38, f39, f40, f41, f42, ⟨gr_0_2, f43⟩, ⟨gr_0_3, f44⟩, f45, ⟨gr_0_5, f46⟩, ⟨gr_0_6, f47⟩, ⟨gr_0_7, f48⟩, f49, ⟨gr_1_1, f50⟩, f51, f52, f53, f54, f55, f56, f57⟩ := hJ
   replace h := bsome h; obtain ⟨x2, H2, h⟩ := h
   try simp only [go_sem, *]
   refine L_unroll_frames_frame_u1_L2 a0 a1 a2 a3 a4 a6 a8 H2 ?_ ?_
   ·clear h
    simp only [go_sem, I_unroll_frames_frame_u1_L2, *]
   ·intro e τ hJ
    rcases x2 with x2' | x2'
    ·obtain ⟨rfl, f58, f59, f60, f61, ⟨gr_0_2, f62⟩, ⟨gr_0_3, f63⟩, f64, ⟨gr_0_5, f65⟩, ⟨gr_0_6, f66⟩, ⟨gr_0_7, f67⟩, ⟨gr_1_1, f68⟩, f69, f70, f71, f72, f73, f74, f75⟩ := hJ
     replace h := need h; obtain ⟨H3, h⟩ := h
     replace h := bsome h; obtain ⟨x3, H4, h⟩ := h
     try simp only [go_sem, *]
     refine WC.mono (Q := fun e σ' => e = .normal ∧ σ'.get 6 = (.d true (.bool x3)) ∧ σ'.obj 1 0 = oB0 a1 ∧ σ'.obj 1 1 = oB5 a2 a3.length a4.length ∧ (∃ gr_0_2, σ'.obj 1 2 = some (.rw 1 (a3.map (eL 1 eI)) gr_0_2)) ∧ (∃ gr_0_3, σ'.obj 1 3 = some (.rw 1 (a4.map (eL 1 eI)) gr_0_3)) ∧ σ'.obj 1 4 = oB6 x2'.1 ((a6 ++ ([x2'.2.2] : List (List Int))).length) x2'.2.1.length ∧ σ'.obj 1 5 = some (.rw 1 ((a6 ++ ([x2'.2.2] : List (List Int))).map (eL 1 eI)) true) ∧ (∃ gr_0_6, σ'.obj 1 6 = some (.rw 1 (x2'.2.1.map (eL 1 eI)) gr_0_6)) ∧ (∃ gr_0_7, σ'.obj 1 7 = some (.rw 1 (a8.map eI) gr_0_7)) ∧ σ'.obj 1 10 = none ∧ σ'.obj 0 3 = none ∧ σ'.obj 0 5 = none ∧ σ'.obj 0 8 = none ∧ σ'.obj 0 13 = none ∧ σ'.up.length = 1) ?_ ?_
     ·replace h := H4
      clear H4
      replace h := itb h; rcases h with ⟨c0, h⟩ | ⟨c0, h⟩
      ·cases h
       simp only [go_sem, c_unroll_frames_frame_p2, *]
      ·cases h
       simp only [go_sem, c_unroll_frames_frame_p2, *]
     ·intro e τ hJ
      obtain ⟨rfl, f76, f77, f78, ⟨gr_0_2, f79⟩, ⟨gr_0_3, f80⟩, f81, f82, ⟨gr_0_6, f83⟩, ⟨gr_0_7, f84⟩, f85, f86, f87, f88, f89, f90⟩ := hJ
      cases h
      simp only [go_sem, *]
    ·obtain ⟨rfl, f91, f92, f93, ⟨gr_0_2, f94⟩, ⟨gr_0_3, f95⟩, f96, ⟨gr_0_5, f97⟩, ⟨gr_0_6, f98⟩, ⟨gr_0_7, f99⟩, f100, f101, f102, f103, f104, f105, f106⟩ := hJ
     cases h
     simp only [go_sem, *]
noncomputable def b_unroll_made_L2 (p0 : S_Circuit) (p1 : Int) (s1 : Int × (List (List Int)) × (List (List Int)) × (List Int) × Int) (x4 : Int × (List (List Int)) × (List (List Int)) × Bool) (x5 : (List Int)) (s2 : (List Int) × Int) : Option (((List Int) × Int) ⊕ ((List Int))) :=
 if (decide (s2.2 < (p0.Latches.length : Int))) = true then
  (idx p0.Latches s2.2).bind fun x6 =>
  (s_unroll_lit x5 x6.Next).bind fun r0 =>
  if s2.1.length + 1 ≤ big then
   some (Sum.inl ((s2.1 ++ ([r0] : List Int)), (IntKind.wrap .i64 (s2.2 + 1))))
  else none
 else
  some (Sum.inr s2.1)
def I_unroll_made_L2 (p0 : S_Circuit) (p1 : Int) (s1 : Int × (List (List Int)) × (List (List Int)) × (List Int) × Int) (x4 : Int × (List (List Int)) × (List (List Int)) × Bool) (x5 : (List Int)) (s2 : (List Int) × Int) (σ : St) : Prop := σ.get 2 = (.row 0 7 0 s2.1.length 1) ∧ σ.get 3 = (.ptr 0 0 0) ∧ σ.get 6 = (.ptr 0 1 0) ∧ σ.get 8 = (.ptr 0 4 0) ∧ σ.get 9 = (.d true (.lst 1 (x5.map eI))) ∧ σ.get 19 = (.d true (.int .i64 p1)) ∧ σ.get 20 = (.d true (.int .i64 s1.2.2.2.2)) ∧ σ.get 38 = (.d false (.lst 2 (p0.Latches.map eS_Latch))) ∧ σ.get 39 = (.d true (.int .i64 (p0.Latches.length : Int))) ∧ σ.get 40 = (.d true (.int .i64 s2.2)) ∧ σ.obj 0 0 = oB0 p0 ∧ σ.obj 0 1 = oB4 (([] : List (List Int)).length) (([] : List (List Int)).length) ∧ (∃ gr_0_2, σ.obj 0 2 = some (.rw 1 (([] : List (List Int)).map (eL 1 eI)) gr_0_2)) ∧ (∃ gr_0_3, σ.obj 0 3 = some (.rw 1 (([] : List (List Int)).map (eL 1 eI)) gr_0_3)) ∧ σ.obj 0 4 = oB6 x4.1 x4.2.1.length x4.2.2.1.length ∧ (∃ gr_0_5, σ.obj 0 5 = some (.rw 1 (x4.2.1.map (eL 1 eI)) gr_0_5)) ∧ (∃ gr_0_6, σ.obj 0 6 = some (.rw 1 (x4.2.2.1.map (eL 1 eI)) gr_0_6)) ∧ (∃ gr_0_7, σ.obj 0 7 = some (.rw 1 (s2.1.map eI) gr_0_7)) ∧ σ.obj 0 10 = none ∧ σ.up.length = 0
def J_unroll_made_L2 (p0 : S_Circuit) (p1 : Int) (s1 : Int × (List (List Int)) × (List (List Int)) × (List Int) × Int) (x4 : Int × (List (List Int)) × (List (List Int)) × Bool) (x5 : (List Int)) (r : (List Int)) (e : Ex) (σ' : St) : Prop := e = (.exit 2) ∧ σ'.get 2 = (.row 0 7 0 r.length 1) ∧ σ'.get 3 = (.ptr 0 0 0) ∧ σ'.get 6 = (.ptr 0 1 0) ∧ σ'.get 8 = (.ptr 0 4 0) ∧ σ'.get 19 = (.d true (.int .i64 p1)) ∧ σ'.get 20 = (.d true (.int .i64 s1.2.2.2.2)) ∧ σ'.obj 0 0 = oB0 p0 ∧ σ'.obj 0 1 = oB4 (([] : List (List Int)).length) (([] : List (List Int)).length) ∧ (∃ gr_0_2, σ'.obj 0 2 = some (.rw 1 (([] : List (List Int)).map (eL 1 eI)) gr_0_2)) ∧ (∃ gr_0_3, σ'.obj 0 3 = some (.rw 1 (([] : List (List Int)).map (eL 1 eI)) gr_0_3)) ∧ σ'.obj 0 4 = oB6 x4.1 x4.2.1.length x4.2.2.1.length ∧ (∃ gr_0_5, σ'.obj 0 5 = some (.rw 1 (x4.2.1.map (eL 1 eI)) gr_0_5)) ∧ (∃ gr_0_6, σ'.obj 0 6 = some (.rw 1 (x4.2.2.1.map (eL 1 eI)) gr_0_6)) ∧ (∃ gr_0_7, σ'.obj 0 7 = some (.rw 1 (r.map eI) gr_0_7)) ∧ σ'.obj 0 10 = none ∧ σ'.up.length = 0
theorem L_unroll_made_L2 (p0 : S_Circuit) (p1 : Int) (s1 : Int × (List (List Int)) × (List (List Int)) × (List Int) × Int) (x4 : Int × (List (List Int)) × (List (List Int)) × Bool) (x5 : (List Int)) {s : (List Int) × Int} {r : (List Int)} (h : Lp (b_unroll_made_L2 p0 p1 s1 x4 x5) s = some r) {σ : St} {Q : Ex → St → Prop} (hI : I_unroll_made_L2 p0 p1 s1 x4 x5 s σ) (hQ : ∀ e σ', J_unroll_made_L2 p0 p1 s1 x4 x5 r e σ' → Q e σ') : WC env (.loop c_unroll_made_l1) σ Q :=
 WC_Lp (I_unroll_made_L2 p0 p1 s1 x4 x5) (J_unroll_made_L2 p0 p1 s1 x4 x5) (by
  clear h hI hQ
  clear s r σ Q
  intro s2 σ x hI h
  obtain ⟨f65, f66, f67, f68, f69, f70, f71, f72, f73, f74, f75, f76, ⟨gr_0_2, f77⟩, ⟨gr_0_3, f78⟩, f79, ⟨gr_0_5, f80⟩, ⟨gr_0_6, f81⟩, ⟨gr_0_7, f82⟩, f83, f84⟩ := hI
  unfold b_unroll_made_L2 at h
  replace h := itb h; rcases h with ⟨c6, h⟩ | ⟨c6, h⟩
  ·replace h := bsome h; obtain ⟨x6, H6, h⟩ := h
   have n2 := idx_n H6; have q2 := idx_q H6; have y2 := idx_x H6
   replace h := bsome h; obtain ⟨r0, H7, h⟩ := h
   have k0 := AtCall_all (s_unroll_lit_ok H7); try dsimp only at k0
   replace h := need h; obtain ⟨H8, h⟩ := h
   cases h
   simp only [go_sem, LQ_inl, I_unroll_made_L2, c_unroll_made_l1, c_unroll_made_l2, *]
  ·cases h
   simp only [go_sem, LQ_inr, J_unroll_made_L2, c_unroll_made_l1, c_unroll_made_l2, *]
) h hI hQ
noncomputable def b_unroll_made_L1 (p0 : S_Circuit) (p1 : Int) (s1 : Int × (List (List Int)) × (List (List Int)) × (List Int) × Int) : Option ((Int × (List (List Int)) × (List (List Int)) × (List Int) × Int) ⊕ ((Int × (List (List Int)) × (List (List Int))) ⊕ (Unit))) :=
 if (decide (s1.2.2.2.2 < p1)) = true then
  (w_unroll_frames_frame_u1 p0 p0 0 ([] : List (List Int)) ([] : List (List Int)) s1.1 s1.2.1 s1.2.2.1 s1.2.2.2.1).bind fun x4 =>
  if x4.2.2.2 = true then
   (idx x4.2.1 (IntKind.wrap .i64 ((x4.2.1.length : Int) - 1))).bind fun x5 =>
   (Lp (b_unroll_made_L2 p0 p1 s1 x4 x5) (([] : List Int), 0)).bind fun x6 =>
   some (Sum.inl (x4.1, x4.2.1, x4.2.2.1, x6, (IntKind.wrap .i64 (s1.2.2.2.2 + 1))))
  else
   some (Sum.inr (Sum.inr ()))
 else
  some (Sum.inr (Sum.inl (s1.1, s1.2.1, s1.2.2.1)))
def I_unroll_made_L1 (p0 : S_Circuit) (p1 : Int) (s1 : Int × (List (List Int)) × (List (List Int)) × (List Int) × Int) (σ : St) : Prop := σ.get 2 = (.row 0 7 0 s1.2.2.2.1.length 1) ∧ σ.get 3 = (.ptr 0 0 0) ∧ σ.get 6 = (.ptr 0 1 0) ∧ σ.get 8 = (.ptr 0 4 0) ∧ σ.get 19 = (.d true (.int .i64 p1)) ∧ σ.get 20 = (.d true (.int .i64 s1.2.2.2.2)) ∧ σ.obj 0 0 = oB0 p0 ∧ σ.obj 0 1 = oB4 (([] : List (List Int)).length) (([] : List (List Int)).length) ∧ (∃ gr_0_2, σ.obj 0 2 = some (.rw 1 (([] : List (List Int)).map (eL 1 eI)) gr_0_2)) ∧ (∃ gr_0_3, σ.obj 0 3 = some (.rw 1 (([] : List (List Int)).map (eL 1 eI)) gr_0_3)) ∧ σ.obj 0 4 = oB6 s1.1 s1.2.1.length s1.2.2.1.length ∧ (∃ gr_0_5, σ.obj 0 5 = some (.rw 1 (s1.2.1.map (eL 1 eI)) gr_0_5)) ∧ (∃ gr_0_6, σ.obj 0 6 = some (.rw 1 (s1.2.2.1.map (eL 1 eI)) gr_0_6)) ∧ (∃ gr_0_7, σ.obj 0 7 = some (.rw 1 (s1.2.2.2.1.map eI) gr_0_7)) ∧ σ.obj 0 10 = none ∧ σ.up.length = 0
def J_unroll_made_L1 (p0 : S_Circuit) (p1 : Int) (r : (Int × (List (List Int)) × (List (List Int))) ⊕ (Unit)) (e : Ex) (σ' : St) : Prop := (Sum.elim (fun o0 => e = (.exit 0) ∧ σ'.get 6 = (.ptr 0 1 0) ∧ σ'.get 8 = (.ptr 0 4 0) ∧ σ'.obj 0 1 = oB4 (([] : List (List Int)).length) (([] : List (List Int)).length) ∧ (∃ gr_0_2, σ'.obj 0 2 = some (.rw 1 (([] : List (List Int)).map (eL 1 eI)) gr_0_2)) ∧ (∃ gr_0_3, σ'.obj 0 3 = some (.rw 1 (([] : List (List Int)).map (eL 1 eI)) gr_0_3)) ∧ σ'.obj 0 4 = oB6 o0.1 o0.2.1.length o0.2.2.length ∧ (∃ gr_0_5, σ'.obj 0 5 = some (.rw 1 (o0.2.1.map (eL 1 eI)) gr_0_5)) ∧ (∃ gr_0_6, σ'.obj 0 6 = some (.rw 1 (o0.2.2.map (eL 1 eI)) gr_0_6)) ∧ σ'.obj 0 10 = none ∧ σ'.up.length = 0) (fun o1 => e = .ret ∧ σ'.get 6 = (.ptr 0 1 0) ∧ σ'.get 7 = (.d true (.int .i64 4)) ∧ σ'.obj 0 1 = oB7 ∧ σ'.obj 0 10 = none ∧ σ'.up.length = 0)) r
theorem L_unroll_made_L1 (p0 : S_Circuit) (p1 : Int) {s : Int × (List (List Int)) × (List (List Int)) × (List Int) × Int} {r : (Int × (List (List Int)) × (List (List Int))) ⊕ (Unit)} (h : Lp (b_unroll_made_L1 p0 p1) s = some r) {σ : St} {Q : Ex → St → Prop} (hI : I_unroll_made_L1 p0 p1 s σ) (hQ : ∀ e σ', J_unroll_made_L1 p0 p1 r e σ' → Q e σ') : WC env (.loop c_unroll_made_l2) σ Q :=
 WC_Lp (I_unroll_made_L1 p0 p1) (J_unroll_made_L1 p0 p1) (by
  clear h hI hQ
  clear s r σ Q
  intro s1 σ x hI h
  obtain ⟨f39, f40, f41, f42, f43, f44, f45, f46, ⟨gr_0_2, f47⟩, ⟨gr_0_3, f48⟩, f49, ⟨gr_0_5, f50⟩, ⟨gr_0_6, f51⟩, ⟨gr_0_7, f52⟩, f53, f54⟩ := hI
  unfold b_unroll_made_L1 at h
  replace h := itb h; rcases h with ⟨c4, h⟩ | ⟨c4, h⟩
  ·replace h := bsome h; obtain ⟨x4, H4, h⟩ := h
   try simp only [go_sem, c_unroll_made_l2, *, fn_unroll_frames_frame, n_unroll_frames_frame]
   refine E_unroll_frames_frame_u1 p0 p0 0 ([] : List (List Int)) ([] : List (List Int)) s1.1 s1.2.1 s1.2.2.1 s1.2.2.2.1 H4 (fun xs => ?_) ?_
   ·clear h
    simp only [go_sem, c_unroll_made_l2, *, fn_unroll_frames_frame, n_unroll_frames_frame]
   ·intro v τ hJ
    obtain ⟨rfl, f55, f56, ⟨gr_0_2, f57⟩, ⟨gr_0_3, f58⟩, f59, ⟨gr_0_5, f60⟩, ⟨gr_0_6, f61⟩, ⟨gr_0_7, f62⟩, f63, f64⟩ := hJ
    replace h := itb h; rcases h with ⟨c5, h⟩ | ⟨c5, h⟩
    ·replace h := bsome h; obtain ⟨x5, H5, h⟩ := h
     have n1 := idx_n H5; have q1 := idx_q H5; have y1 := idx_x H5
     replace h := bsome h; obtain ⟨x6, H6, h⟩ := h
     try simp only [go_sem, c_unroll_made_l2, *]
     refine L_unroll_made_L2 p0 p1 s1 x4 x5 H6 ?_ ?_
     ·clear h
      simp only [go_sem, I_unroll_made_L2, c_unroll_made_l2, *]
     ·intro e τ hJ
      obtain ⟨rfl, f65, f66, f67, f68, f69, f70, f71, f72, ⟨gr_0_2, f73⟩, ⟨gr_0_3, f74⟩, f75, ⟨gr_0_5, f76⟩, ⟨gr_0_6, f77⟩, ⟨gr_0_7, f78⟩, f79, f80⟩ := hJ
      cases h
      simp only [go_sem, LQ_inl, I_unroll_made_L1, c_unroll_made_l2, *]
    ·cases h
     simp only [go_sem, LQ_inr, J_unroll_made_L1, c_unroll_made_l2, *]
  ·cases h
   simp only [go_sem, LQ_inr, J_unroll_made_L1, c_unroll_made_l2, *]
) h hI hQ
noncomputable def s_unroll_made (p0 : S_Circuit) (p1 : Int) (p2 : (List Int)) : Option (S_Cnf × Int) :=
 (if (decide (p1 < 1)) = true then
   some true
  else
   some (decide (p1 > 100))).bind fun x0 =>
 if x0 = true then
  some ((S_Cnf.mk 0 ([] : List (List Int)) ([] : List (List Int))), 2)
 else
  if (decide (0 < p1)) = true then
   (w_unroll_frames_frame_u0 p0 p2 p0 0 ([] : List (List Int)) ([] : List (List Int)) 0 ([] : List (List Int)) ([] : List (List Int))).bind fun x1 =>
   if x1.2.2.2 = true then
    (idx x1.2.1 (IntKind.wrap .i64 ((x1.2.1.length : Int) - 1))).bind fun x2 =>
    (Lp (b_unroll_made_L0 p0 p1 x1 x2) (([] : List Int), 0)).bind fun x3 =>
    (Lp (b_unroll_made_L1 p0 p1) (x1.1, x1.2.1, x1.2.2.1, x3, (IntKind.wrap .i64 (0 + 1)))).bind fun x4 =>
    match x4 with
    | .inl x4' =>
     some ((S_Cnf.mk x4'.1 x4'.2.1 x4'.2.2), 0)
    | .inr x4' =>
     some ((S_Cnf.mk 0 ([] : List (List Int)) ([] : List (List Int))), 4)
   else
    some ((S_Cnf.mk 0 ([] : List (List Int)) ([] : List (List Int))), 4)
  else
   some ((S_Cnf.mk 0 ([] : List (List Int)) ([] : List (List Int))), 0)
theorem s_unroll_made_tk {p0 : S_Circuit} {p1 : Int} {p2 : (List Int)} {r : S_Cnf × Int} (h : s_unroll_made p0 p1 p2 = some r) : AnsT env k_unroll_made [(.ag [(.d true (.int .i64 p0.Inputs)), (.d false (.lst 2 (p0.Latches.map eS_Latch))), (.d false (.lst 2 (p0.Ands.map eS_And))), (.d false (.lst 1 (p0.Bads.map eI))), (.d false (.lst 1 (p0.Constraints.map eI)))]), (.d true (.int .i64 p1)), (.d false (.lst 1 (p2.map eI)))] (.tp [(.ag [(.d true (.int .i64 r.1.Vars)), (.row 0 0 0 r.1.Lits.length 1), (.row 0 1 0 r.1.Clauses.length 1)]), (.d true (.int .i64 r.2))]) [(1, r.1.Lits.map (eL 1 eI)), (1, r.1.Clauses.map (eL 1 eI))] := by
 unfold s_unroll_made at h
 unfold AnsT
 rw [AtF fn_unroll_made]
 simp only [n_unroll_made]
 replace h := bsome h; obtain ⟨x0, H0, h⟩ := h
 try simp only [go_sem, *]
 refine WC.mono (Q := fun e σ' => e = .normal ∧ σ'.get 1 = (.d true (.int .i64 p1)) ∧ σ'.get 2 = (.d false (.lst 1 (p2.map eI))) ∧ σ'.get 3 = (.ptr 0 0 0) ∧ σ'.get 6 = (.ptr 0 1 0) ∧ σ'.get 17 = (.d true (.bool x0)) ∧ σ'.obj 0 0 = oB0 p0 ∧ σ'.obj 0 1 = oB4 (([] : List (List Int)).length) (([] : List (List Int)).length) ∧ σ'.obj 0 2 = some (.rw 1 (([] : List (List Int)).map (eL 1 eI)) false) ∧ σ'.obj 0 3 = some (.rw 1 (([] : List (List Int)).map (eL 1 eI)) false) ∧ σ'.obj 0 4 = none ∧ σ'.obj 0 5 = none ∧ σ'.obj 0 6 = none ∧ σ'.obj 0 10 = none ∧ σ'.up.length = 0) ?_ ?_
 ·replace h := H0
  clear H0
  replace h := itb h; rcases h with ⟨c0, h⟩ | ⟨c0, h⟩
  ·cases h
   simp only [go_sem, c_unroll_made_p1, *]
  ·cases h
   simp only [go_sem, c_unroll_made_p1, *]
 ·intro e τ hJ
  obtain ⟨rfl, f0, f1, f2, f3, f4, f5, f6, f7, f8, f9, f10, f11, f12, f13⟩ := hJ
  replace h := itb h; rcases h with ⟨c1, h⟩ | ⟨c1, h⟩
  ·cases h
   simp only [go_sem, *]
   exact ⟨_, rfl⟩
  ·try simp only [go_sem, *]
   rw [WC_loop' c_unroll_made_l2.eq_1]
   replace h := itb h; rcases h with ⟨c2, h⟩ | ⟨c2, h⟩
   ·replace h := bsome h; obtain ⟨x1, H1, h⟩ := h
    try simp only [go_sem, *, fn_unroll_frames_frame, n_unroll_frames_frame]
    refine E_unroll_frames_frame_u0 p0 p2 p0 0 ([] : List (List Int)) ([] : List (List Int)) 0 ([] : List (List Int)) ([] : List (List Int)) H1 (fun xs => ?_) ?_
    ·clear h
     simp only [go_sem, *, fn_unroll_frames_frame, n_unroll_frames_frame]
    ·intro v τ hJ
     obtain ⟨rfl, f14, f15, ⟨gr_0_2, f16⟩, ⟨gr_0_3, f17⟩, f18, ⟨gr_0_5, f19⟩, ⟨gr_0_6, f20⟩, f21, f22⟩ := hJ
     replace h := itb h; rcases h with ⟨c3, h⟩ | ⟨c3, h⟩
     ·replace h := bsome h; obtain ⟨x2, H2, h⟩ := h
      have n0 := idx_n H2; have q0 := idx_q H2; have y0 := idx_x H2
      replace h := bsome h; obtain ⟨x3, H3, h⟩ := h
      try simp only [go_sem, *]
      refine L_unroll_made_L0 p0 p1 x1 x2 H3 ?_ ?_
      ·clear h
       simp only [go_sem, I_unroll_made_L0, *]
      ·intro e τ hJ
       obtain ⟨rfl, f23, f24, f25, f26, f27, f28, f29, f30, ⟨gr_0_2, f31⟩, ⟨gr_0_3, f32⟩, f33, ⟨gr_0_5, f34⟩, ⟨gr_0_6, f35⟩, ⟨gr_0_7, f36⟩, f37, f38⟩ := hJ
       replace h := bsome h; obtain ⟨x4, H4, h⟩ := h
       try simp only [go_sem, *]
       refine L_unroll_made_L1 p0 p1 H4 ?_ ?_
       ·clear h
        simp only [go_sem, I_unroll_made_L1, *]
       ·intro e τ hJ
        rcases x4 with x4' | x4'
        ·obtain ⟨rfl, f39, f40, f41, ⟨gr_0_2, f42⟩, ⟨gr_0_3, f43⟩, f44, ⟨gr_0_5, f45⟩, ⟨gr_0_6, f46⟩, f47, f48⟩ := hJ
         cases h
         simp only [go_sem, *]
         exact ⟨_, rfl⟩
        ·obtain ⟨rfl, f49, f50, f51, f52, f53⟩ := hJ
         cases h
         simp only [go_sem, *]
         exact ⟨_, rfl⟩
     ·cases h
      simp only [go_sem, *]
      exact ⟨_, rfl⟩
   ·cases h
    simp only [go_sem, *]
    exact ⟨_, rfl⟩
end Go.Proofs.Ytbmhmfcjjhjkgaa.Vm
