/- Walks over the code of functions. Printed. -/
import Derived.Test.YtkhgnkfdpabflaaVmH1
namespace Go.Proofs.Ytkhgnkfdpabflaa.Vm
open Go
set_option linter.unusedSimpArgs false
set_option linter.unusedVariables false
set_option maxRecDepth 4000
set_option maxHeartbeats 4000000
attribute [local go_sem] WC_skip WC_exit WC_ret WC_seq WC_block WC_cond WC_rg KSeq_normal KSeq_ret KSeq_exit KBlock_normal KBlock_ret KBlock_exit KN_eq KRg_eq KSt_eq KSet_eq KLen_eq KPick_eq KG_eq KCond_eq boolP_d biteC_true biteC_false biteO_true biteO_false WO_nil WO_mv WO_nilr WO_pick WO_bin WO_beq WO_eqs WO_un WO_cvt WO_alloc WO_box WO_load WO_store WO_fad WO_fval WO_ix WO_ixb WO_ixa WO_bld WO_bsl WO_mks WO_slc WO_len WO_mx WO_mn WO_app WO_cpy WO_clr WO_xt WO_fn WO_chk WO_g
 WO_call WO_callv callK KHand KCallv KRes KBack_ret KRet_eq KAns env_fn St.hand St.lend St.lends St.lend1 St.vals St.frz fr1_obj fr1_get fr1_upl frO_rw frO_fz frO_none St.rowOf List.foldl_nil List.foldl_cons List.map_cons List.map_nil
 optP_some optP_none
 St.get_set St.obj_set St.get_setObj St.obj_setObj St.get_kill St.obj_kill0 St.obj_killS St.get_ini St.obj_ini0 gt_nil gt_zero gt_succ St.val_t St.val_c
 stl_get stl_obj0 stl_objS stl_upl stv_d stv_dx stv_nil stv_row0 stv_rowS stv_ptr stv_rel0 stv_pd stv_ag stv_tp stv_cl stvs_nil stvs_cons obs_box obs_rw obs_fz
 ret_get ret_obj ret_up ini_objS ini_upl ini_upl0 set_upl kill_upl setObj_upl0 setObj_uplS
 kill_d kill_dx kill_nil kill_row0 kill_rowS kill_ptr0 kill_ptrS kill_rel0 kill_relS kill_pd kill_ag kill_tp kill_cl kills_nil kills_cons obk_box obk_rw obk_fz
 pre step bin_int bin_shr bin_shl beq_bool arith_add arith_sub arith_mul arith_and arith_or arith_xor arith_eql arith_neq arith_lss arith_leq arith_gtr arith_geq arith_quo2 arith_rem2 arith_shr1 arith_shl1 maxOf_two minOf_two un lenOf cellsOf ofCells wid sub? slice_map slice_head slice_full' slice_z slice_c slice_s put St.new zcells St.load St.store Vm.fad St.ix St.slc St.els St.app St.wants St.skip I.dst resVal resVals Z.v Z.t? ofT T.cells V.shift V.shifts V.down V.downs downL chkV eqs eqFlat fill fillT flatFill T.noL T.flat
 dat dat2 dat1 dats1 dats2 Fn.pure FreeRows_nil FreeRows_cons setRows ren ren2 ren1 KTk take takes2 take2 takes1 take1 take0 rowsOb Vm.st Option.isNone_none Option.isNone_some List.mem_cons List.not_mem_nil not_or
 Option.map_some Option.map_none Option.bind_some List.length_cons List.length_nil List.length_append List.length_set cpl_length List.length_map List.length_replicate List.map_append List.map_set List.map_replicate List.getElem?_map List.getElem?_cons_zero List.getElem?_cons_succ List.drop_zero List.take_zero List.drop_succ_cons List.take_succ_cons List.take_nil List.drop_nil List.zip_cons_cons List.zip_nil_left List.zip_nil_right List.mapM_cons List.mapM_nil Option.pure_def Option.bind_eq_bind List.all_cons List.all_nil List.append_eq_nil_iff List.cons_ne_nil List.map_eq_nil_iff List.set_cons_zero List.set_cons_succ List.replicate_succ List.replicate_zero
 Nat.reduceEqDiff Nat.reduceLeDiff Nat.reduceAdd Nat.reduceSub Nat.reduceLT Nat.reduceMul Nat.reduceBEq Nat.ble_eq reduceIte reduceCtorEq Nat.add_zero Nat.sub_zero Nat.zero_add and_true true_and and_false false_and and_self or_true true_or false_or or_false if_true if_false Nat.one_ne_zero not_true not_false_eq_true not_false_iff Bool.false_eq_true forall_const true_implies false_implies implies_true BEq.rfl Bool.not_true Bool.not_false Bool.and_true Bool.true_and Bool.and_false Bool.false_and Bool.and_self Bool.true_bne Bool.false_bne not_true_eq_false List.nil_append List.append_nil List.cons_append dInt dBool Nat.le_refl Nat.le_add_right St.toT St.toTs ne_eq
 ff_set ff_setObj ff_setObjl ff_ini0 ff_iniS ff_ret ff_frz1 mg_get mg_obj0 mg_objS mg_up KBack_mg mrv_d mrv_nil mrv_ptr0 mrv_ptrS mrv_row0 mrv_rowS mrv_ag mrv_tp mrv_cl mrvs_nil mrvs_cons obm_box obm_rw obm_fz
 Sum.elim_inl Sum.elim_inr Option.some.injEq Ob.rw.injEq exists_eq2 eI eU8 eU64 eB eL eS_Wait eS_Latch eS_Obligation eS_And eS_Circuit eA4_Int eS_Trace oB0 oB1 oB2 oB3 oB4 oB5 oB6 c_law38_QueueNames c_law38_alive fn_law38_alive fn_law38_popped fn_law38_pushed fn_queue_Chain fn_queue_Check fn_queue_Pop fn_queue_Push fn_queue_Right fn_queue_Trace fn_ref06_Same fn_ref13_Same fn_ref38_Same n_law38_alive n_law38_popped n_law38_pushed n_queue_Chain n_queue_Check n_queue_Pop n_queue_Push n_queue_Right n_queue_Trace n_ref06_Same n_ref13_Same n_ref38_Same
noncomputable def s_law38_alive : Option (Bool) :=
 (s_law38_pushed ([(S_Wait.mk 2 1), (S_Wait.mk 1 0), (S_Wait.mk 1 3)] : List S_Wait)).bind fun r0 =>
 (s_law38_popped r0.1).bind fun r1 =>
 (s_queue_Chain (S_Circuit.mk 0 ([] : List S_Latch) ([] : List S_And) ([] : List Int) ([] : List Int)) ([(S_Obligation.mk [] [] (-1)), (S_Obligation.mk [] [] 0), (S_Obligation.mk [] [] 1)] : List S_Obligation) 2).bind fun r2 =>
 (if (r0.2 == 0) = true then
   if r1.2 = true then
    (s_ref38_Same r1.1 ([(S_Wait.mk 1 0), (S_Wait.mk 1 3), (S_Wait.mk 2 1)] : List S_Wait)).bind fun r3 =>
    if r3 = true then
     if (r2.2 == 0) = true then
      (s_ref13_Same r2.1 ([2, 1, 0] : List Int)).bind fun r4 =>
      some r4
     else
      some false
    else
     some false
   else
    some false
  else
   some false).bind fun x0 =>
 some x0
theorem s_law38_alive_ok {r : Bool} (h : s_law38_alive = some r) : Ans env k_law38_alive [] (.d true (.bool r)) := by
 unfold s_law38_alive at h
 unfold Ans
 rw [AtF fn_law38_alive]
 simp only [n_law38_alive]
 replace h := bsome h; obtain ⟨r0, H0, h⟩ := h
 have k0 := AtCall_all (s_law38_pushed_ok H0); try dsimp only at k0
 try simp only [List.map_cons, List.map_nil, List.map_append, List.map_set, List.nil_append, List.map_replicate, eI, eU8, eB, eL, eS_Wait, eS_Latch, eS_Obligation, eS_And, eS_Circuit, eA4_Int, eS_Trace] at k0
 replace h := bsome h; obtain ⟨r1, H1, h⟩ := h
 have k1 := AtCall_all (s_law38_popped_ok H1); try dsimp only at k1
 replace h := bsome h; obtain ⟨r2, H2, h⟩ := h
 have k2 := AtCall_all (s_queue_Chain_ok H2); try dsimp only at k2
 try simp only [List.map_cons, List.map_nil, List.map_append, List.map_set, List.nil_append, List.map_replicate, eI, eU8, eB, eL, eS_Wait, eS_Latch, eS_Obligation, eS_And, eS_Circuit, eA4_Int, eS_Trace] at k2
 replace h := bsome h; obtain ⟨x0, H3, h⟩ := h
 try simp only [go_sem, *]
 refine WC.mono (Q := fun e σ' => e = .normal ∧ σ'.get 0 = (.d true (.bool x0)) ∧ σ'.up.length = 0) ?_ ?_
 ·replace h := H3
  clear H3
  replace h := itb h; rcases h with ⟨c0, h⟩ | ⟨c0, h⟩
  ·replace h := itb h; rcases h with ⟨c1, h⟩ | ⟨c1, h⟩
   ·replace h := bsome h; obtain ⟨r3, H4, h⟩ := h
    have k3 := AtCall_all (s_ref38_Same_ok H4); try dsimp only at k3
    try simp only [List.map_cons, List.map_nil, List.map_append, List.map_set, List.nil_append, List.map_replicate, eI, eU8, eB, eL, eS_Wait, eS_Latch, eS_Obligation, eS_And, eS_Circuit, eA4_Int, eS_Trace] at k3
    replace h := itb h; rcases h with ⟨c2, h⟩ | ⟨c2, h⟩
    ·replace h := itb h; rcases h with ⟨c3, h⟩ | ⟨c3, h⟩
     ·replace h := bsome h; obtain ⟨r4, H5, h⟩ := h
      have k4 := AtCall_all (s_ref13_Same_ok H5); try dsimp only at k4
      try simp only [List.map_cons, List.map_nil, List.map_append, List.map_set, List.nil_append, List.map_replicate, eI, eU8, eB, eL, eS_Wait, eS_Latch, eS_Obligation, eS_And, eS_Circuit, eA4_Int, eS_Trace] at k4
      cases h
      simp only [go_sem, c_law38_alive_p1, *]
     ·cases h
      simp only [go_sem, c_law38_alive_p1, *]
    ·cases h
     simp only [go_sem, c_law38_alive_p1, *]
   ·cases h
    simp only [go_sem, c_law38_alive_p1, *]
  ·cases h
   simp only [go_sem, c_law38_alive_p1, *]
 ·intro e τ hJ
  obtain ⟨rfl, f0, f1⟩ := hJ
  cases h
  simp only [go_sem, *]
  exact ⟨_, rfl⟩
def lit_law38_QueueNames_0 : (List (List S_Wait)) := ([([(S_Wait.mk (-1) 0)] : List S_Wait), ([(S_Wait.mk 61 0)] : List S_Wait), ([(S_Wait.mk 0 (-1))] : List S_Wait), ([(S_Wait.mk 0 1000)] : List S_Wait), ([(S_Wait.mk 1 0), (S_Wait.mk 0 0)] : List S_Wait), ([(S_Wait.mk 0 2), (S_Wait.mk 0 1)] : List S_Wait)] : List (List S_Wait))
noncomputable def b_law38_QueueNames_L0 (s0 : Int) : Option ((Int) ⊕ ((Unit) ⊕ (Unit))) :=
 if (decide (s0 < (lit_law38_QueueNames_0.length : Int))) = true then
  ((idx lit_law38_QueueNames_0 s0).bind fun x1 =>
   (s_queue_Push x1 (S_Wait.mk (-1) 0)).bind fun r0 =>
   (s_queue_Pop x1).bind fun r1 =>
   ((s_queue_Check x1).bind fun r2 =>
    if (r2 != 8) = true then
     some true
    else
     if (r0.2 != 8) = true then
      some true
     else
      some (r1.2.2 != 8)).bind fun x2 =>
   if x2 = true then
    some (Sum.inr ())
   else
    if ((x1.length : Int) == 1) = true then
     (idx x1 0).bind fun x3 =>
     (s_queue_Push [] x3).bind fun r3 =>
     if (r3.2 != 2) = true then
      some (Sum.inr ())
     else
      some (Sum.inl ())
    else
     some (Sum.inl ())).bind fun x0 =>
  match x0 with
  | .inl x0' =>
   some (Sum.inl (IntKind.wrap .i64 (s0 + 1)))
  | .inr x0' =>
   some (Sum.inr (Sum.inr ()))
 else
  some (Sum.inr (Sum.inl ()))
def I_law38_QueueNames_L0 (s0 : Int) (σ : St) : Prop := σ.get 1 = (.row 0 6 0 lit_law38_QueueNames_0.length 1) ∧ σ.get 2 = (.d true (.int .i64 s0)) ∧ σ.obj 0 6 = some (.rw 1 (lit_law38_QueueNames_0.map (eL 2 eS_Wait)) false) ∧ σ.obj 0 8 = none ∧ σ.obj 0 9 = none ∧ σ.obj 0 10 = none ∧ σ.obj 0 11 = none ∧ σ.obj 0 12 = none ∧ σ.obj 0 13 = none ∧ σ.obj 0 14 = none ∧ σ.obj 0 15 = none ∧ σ.obj 0 16 = none ∧ σ.obj 0 17 = none ∧ σ.obj 0 18 = none ∧ σ.obj 0 19 = none ∧ σ.obj 0 20 = none ∧ σ.obj 0 21 = none ∧ σ.obj 0 22 = none ∧ σ.obj 0 24 = none ∧ σ.obj 0 25 = none ∧ σ.obj 0 26 = none ∧ σ.obj 0 27 = none ∧ σ.obj 0 28 = none ∧ σ.obj 0 29 = none ∧ σ.obj 0 30 = none ∧ σ.obj 0 31 = none ∧ σ.obj 0 33 = none ∧ σ.obj 0 34 = none ∧ σ.obj 0 35 = none ∧ σ.obj 0 36 = none ∧ σ.obj 0 37 = none ∧ σ.obj 0 38 = none ∧ σ.up.length = 0
def J_law38_QueueNames_L0 (r : (Unit) ⊕ (Unit)) (e : Ex) (σ' : St) : Prop := (Sum.elim (fun o0 => e = (.exit 0) ∧ σ'.obj 0 8 = none ∧ σ'.obj 0 9 = none ∧ σ'.obj 0 10 = none ∧ σ'.obj 0 11 = none ∧ σ'.obj 0 12 = none ∧ σ'.obj 0 13 = none ∧ σ'.obj 0 14 = none ∧ σ'.obj 0 15 = none ∧ σ'.obj 0 16 = none ∧ σ'.obj 0 17 = none ∧ σ'.obj 0 18 = none ∧ σ'.obj 0 19 = none ∧ σ'.obj 0 20 = none ∧ σ'.obj 0 21 = none ∧ σ'.obj 0 22 = none ∧ σ'.obj 0 24 = none ∧ σ'.obj 0 25 = none ∧ σ'.obj 0 26 = none ∧ σ'.obj 0 27 = none ∧ σ'.obj 0 28 = none ∧ σ'.obj 0 29 = none ∧ σ'.obj 0 30 = none ∧ σ'.obj 0 31 = none ∧ σ'.obj 0 33 = none ∧ σ'.obj 0 34 = none ∧ σ'.obj 0 35 = none ∧ σ'.obj 0 36 = none ∧ σ'.obj 0 37 = none ∧ σ'.obj 0 38 = none ∧ σ'.up.length = 0) (fun o1 => e = .ret ∧ σ'.get 0 = (.d true (.bool false)) ∧ σ'.obj 0 8 = none ∧ σ'.obj 0 9 = none ∧ σ'.obj 0 10 = none ∧ σ'.obj 0 11 = none ∧ σ'.obj 0 12 = none ∧ σ'.obj 0 13 = none ∧ σ'.obj 0 14 = none ∧ σ'.obj 0 15 = none ∧ σ'.obj 0 16 = none ∧ σ'.obj 0 17 = none ∧ σ'.obj 0 18 = none ∧ σ'.obj 0 19 = none ∧ σ'.obj 0 20 = none ∧ σ'.obj 0 21 = none ∧ σ'.obj 0 22 = none ∧ σ'.obj 0 24 = none ∧ σ'.obj 0 25 = none ∧ σ'.obj 0 26 = none ∧ σ'.obj 0 27 = none ∧ σ'.obj 0 28 = none ∧ σ'.obj 0 29 = none ∧ σ'.obj 0 30 = none ∧ σ'.obj 0 31 = none ∧ σ'.obj 0 33 = none ∧ σ'.obj 0 34 = none ∧ σ'.obj 0 35 = none ∧ σ'.obj 0 36 = none ∧ σ'.obj 0 37 = none ∧ σ'.obj 0 38 = none ∧ σ'.up.length = 0)) r
theorem L_law38_QueueNames_L0 {s : Int} {r : (Unit) ⊕ (Unit)} (h : Lp (b_law38_QueueNames_L0) s = some r) {σ : St} {Q : Ex → St → Prop} (hI : I_law38_QueueNames_L0 s σ) (hQ : ∀ e σ', J_law38_QueueNames_L0 r e σ' → Q e σ') : WC env (.loop c_law38_QueueNames_l1) σ Q :=
 WC_Lp (I_law38_QueueNames_L0) (J_law38_QueueNames_L0) (by
  clear h hI hQ
  clear s r σ Q
  intro s0 σ x hI h
  obtain ⟨f0, f1, f2, f3, f4, f5, f6, f7, f8, f9, f10, f11, f12, f13, f14, f15, f16, f17, f18, f19, f20, f21, f22, f23, f24, f25, f26, f27, f28, f29, f30, f31, f32⟩ := hI
  unfold b_law38_QueueNames_L0 at h
  replace h := itb h; rcases h with ⟨c0, h⟩ | ⟨c0, h⟩
  ·replace h := bsome h; obtain ⟨x0, H0, h⟩ := h
   try simp only [go_sem, c_law38_QueueNames_l1, *]
   refine WC.mono (Q := fun e σ' => (Sum.elim (fun o0 => e = .normal ∧ σ'.get 1 = (.row 0 6 0 lit_law38_QueueNames_0.length 1) ∧ σ'.get 2 = (.d true (.int .i64 s0)) ∧ σ'.obj 0 6 = some (.rw 1 (lit_law38_QueueNames_0.map (eL 2 eS_Wait)) false) ∧ σ'.obj 0 8 = none ∧ σ'.obj 0 9 = none ∧ σ'.obj 0 10 = none ∧ σ'.obj 0 11 = none ∧ σ'.obj 0 12 = none ∧ σ'.obj 0 13 = none ∧ σ'.obj 0 14 = none ∧ σ'.obj 0 15 = none ∧ σ'.obj 0 16 = none ∧ σ'.obj 0 17 = none ∧ σ'.obj 0 18 = none ∧ σ'.obj 0 19 = none ∧ σ'.obj 0 20 = none ∧ σ'.obj 0 21 = none ∧ σ'.obj 0 22 = none ∧ σ'.obj 0 24 = none ∧ σ'.obj 0 25 = none ∧ σ'.obj 0 26 = none ∧ σ'.obj 0 27 = none ∧ σ'.obj 0 28 = none ∧ σ'.obj 0 29 = none ∧ σ'.obj 0 30 = none ∧ σ'.obj 0 31 = none ∧ σ'.obj 0 33 = none ∧ σ'.obj 0 34 = none ∧ σ'.obj 0 35 = none ∧ σ'.obj 0 36 = none ∧ σ'.obj 0 37 = none ∧ σ'.obj 0 38 = none ∧ σ'.up.length = 0) (fun o1 => e = .ret ∧ σ'.get 0 = (.d true (.bool false)) ∧ σ'.obj 0 8 = none ∧ σ'.obj 0 9 = none ∧ σ'.obj 0 10 = none ∧ σ'.obj 0 11 = none ∧ σ'.obj 0 12 = none ∧ σ'.obj 0 13 = none ∧ σ'.obj 0 14 = none ∧ σ'.obj 0 15 = none ∧ σ'.obj 0 16 = none ∧ σ'.obj 0 17 = none ∧ σ'.obj 0 18 = none ∧ σ'.obj 0 19 = none ∧ σ'.obj 0 20 = none ∧ σ'.obj 0 21 = none ∧ σ'.obj 0 22 = none ∧ σ'.obj 0 24 = none ∧ σ'.obj 0 25 = none ∧ σ'.obj 0 26 = none ∧ σ'.obj 0 27 = none ∧ σ'.obj 0 28 = none ∧ σ'.obj 0 29 = none ∧ σ'.obj 0 30 = none ∧ σ'.obj 0 31 = none ∧ σ'.obj 0 33 = none ∧ σ'.obj 0 34 = none ∧ σ'.obj 0 35 = none ∧ σ'.obj 0 36 = none ∧ σ'.obj 0 37 = none ∧ σ'.obj 0 38 = none ∧ σ'.up.length = 0)) x0) ?_ ?_
   ·replace h := H0
    clear H0
    replace h := bsome h; obtain ⟨x1, H1, h⟩ := h
    have n0 := idx_n H1; have q0 := idx_q H1; have y0 := idx_x H1
    replace h := bsome h; obtain ⟨r0, H2, h⟩ := h
    have k0 := AtCall_all (s_queue_Push_ok H2); try dsimp only at k0
    replace h := bsome h; obtain ⟨r1, H3, h⟩ := h
    have k1 := AtCall_all (s_queue_Pop_ok H3); try dsimp only at k1
    replace h := bsome h; obtain ⟨x2, H4, h⟩ := h
    try simp only [go_sem, c_law38_QueueNames_l1, c_law38_QueueNames_p2, *]
    refine WC.mono (Q := fun e σ' => e = .normal ∧ σ'.get 1 = (.row 0 6 0 lit_law38_QueueNames_0.length 1) ∧ σ'.get 2 = (.d true (.int .i64 s0)) ∧ σ'.get 98 = (.d true (.bool x2)) ∧ σ'.obj 0 6 = some (.rw 1 (lit_law38_QueueNames_0.map (eL 2 eS_Wait)) false) ∧ σ'.obj 0 8 = none ∧ σ'.obj 0 9 = none ∧ σ'.obj 0 10 = none ∧ σ'.obj 0 11 = none ∧ σ'.obj 0 12 = none ∧ σ'.obj 0 13 = none ∧ σ'.obj 0 14 = none ∧ σ'.obj 0 15 = none ∧ σ'.obj 0 16 = none ∧ σ'.obj 0 17 = none ∧ σ'.obj 0 18 = none ∧ σ'.obj 0 19 = none ∧ σ'.obj 0 20 = none ∧ σ'.obj 0 21 = none ∧ σ'.obj 0 22 = none ∧ σ'.obj 0 24 = none ∧ σ'.obj 0 25 = none ∧ σ'.obj 0 26 = none ∧ σ'.obj 0 27 = none ∧ σ'.obj 0 28 = none ∧ σ'.obj 0 29 = none ∧ σ'.obj 0 30 = none ∧ σ'.obj 0 31 = none ∧ σ'.obj 0 33 = none ∧ σ'.obj 0 34 = none ∧ σ'.obj 0 35 = none ∧ σ'.obj 0 36 = none ∧ σ'.obj 0 37 = none ∧ σ'.obj 0 38 = none ∧ σ'.up.length = 0) ?_ ?_
    ·replace h := H4
     clear H4
     replace h := bsome h; obtain ⟨r2, H5, h⟩ := h
     have k2 := AtCall_all (s_queue_Check_ok H5); try dsimp only at k2
     replace h := itb h; rcases h with ⟨c1, h⟩ | ⟨c1, h⟩
     ·cases h
      simp only [go_sem, c_law38_QueueNames_l1, c_law38_QueueNames_p2, c_law38_QueueNames_p1, *]
     ·replace h := itb h; rcases h with ⟨c2, h⟩ | ⟨c2, h⟩
      ·cases h
       simp only [go_sem, c_law38_QueueNames_l1, c_law38_QueueNames_p2, c_law38_QueueNames_p1, *]
      ·cases h
       simp only [go_sem, c_law38_QueueNames_l1, c_law38_QueueNames_p2, c_law38_QueueNames_p1, *]
    ·intro e τ hJ
     obtain ⟨rfl, f33, f34, f35, f36, f37, f38, f39, f40, f41, f42, f43, f44, f45, f46, f47, f48, f49, f50, f51, f52, f53, f54, f55, f56, f57, f58, f59, f60, f61, f62, f63, f64, f65, f66⟩ := hJ
     replace h := itb h; rcases h with ⟨c3, h⟩ | ⟨c3, h⟩
     ·cases h
      simp only [go_sem, c_law38_QueueNames_l1, c_law38_QueueNames_p2, *]
     ·replace h := itb h; rcases h with ⟨c4, h⟩ | ⟨c4, h⟩
      ·replace h := bsome h; obtain ⟨x3, H6, h⟩ := h
       have n1 := idx_n H6; have q1 := idx_q H6; have y1 := idx_x H6
       simp only [Int.toNat_zero] at n1 q1 y1
       replace h := bsome h; obtain ⟨r3, H7, h⟩ := h
       have k3 := AtCall_all (s_queue_Push_ok H7); try dsimp only at k3
       try simp only [List.map_cons, List.map_nil, List.map_append, List.map_set, List.nil_append, List.map_replicate, eI, eU8, eB, eL, eS_Wait, eS_Latch, eS_Obligation, eS_And, eS_Circuit, eA4_Int, eS_Trace] at k3
       replace h := itb h; rcases h with ⟨c5, h⟩ | ⟨c5, h⟩
       ·cases h
        simp only [go_sem, c_law38_QueueNames_l1, c_law38_QueueNames_p2, *]
       ·cases h
        simp only [go_sem, c_law38_QueueNames_l1, c_law38_QueueNames_p2, *]
      ·cases h
       simp only [go_sem, c_law38_QueueNames_l1, c_law38_QueueNames_p2, *]
   ·intro e τ hJ
    rcases x0 with x0' | x0'
    ·obtain ⟨rfl, f67, f68, f69, f70, f71, f72, f73, f74, f75, f76, f77, f78, f79, f80, f81, f82, f83, f84, f85, f86, f87, f88, f89, f90, f91, f92, f93, f94, f95, f96, f97, f98, f99⟩ := hJ
     cases h
     simp only [go_sem, LQ_inl, I_law38_QueueNames_L0, c_law38_QueueNames_l1, *]
    ·obtain ⟨rfl, f100, f101, f102, f103, f104, f105, f106, f107, f108, f109, f110, f111, f112, f113, f114, f115, f116, f117, f118, f119, f120, f121, f122, f123, f124, f125, f126, f127, f128, f129, f130⟩ := hJ
     cases h
     simp only [go_sem, LQ_inr, J_law38_QueueNames_L0, c_law38_QueueNames_l1, *]
  ·cases h
   simp only [go_sem, LQ_inr, J_law38_QueueNames_L0, c_law38_QueueNames_l1, *]
) h hI hQ
def lit_law38_QueueNames_1 : (List (List S_Obligation)) := ([([(S_Obligation.mk [] ([true] : List Bool) 0)] : List S_Obligation), ([(S_Obligation.mk [] ([true] : List Bool) (-2))] : List S_Obligation), ([(S_Obligation.mk [] [] (-1))] : List S_Obligation), ([(S_Obligation.mk ([4] : List Int) ([true] : List Bool) (-1))] : List S_Obligation), ([(S_Obligation.mk [] ([true] : List Bool) (-1)), (S_Obligation.mk [] ([true] : List Bool) 1)] : List S_Obligation)] : List (List S_Obligation))
noncomputable def b_law38_QueueNames_L1 (r0 : (List S_Wait) × Int) (r1 : S_Wait × (List S_Wait) × Int) (r2 : (List S_Wait) × Int) (r3 : S_Wait × (List S_Wait) × Int) (s1 : Int) : Option ((Int) ⊕ ((Unit) ⊕ (Unit))) :=
 if (decide (s1 < (lit_law38_QueueNames_1.length : Int))) = true then
  (idx lit_law38_QueueNames_1 s1).bind fun x1 =>
  (s_queue_Chain (S_Circuit.mk 1 ([(S_Latch.mk 0 0)] : List S_Latch) ([] : List S_And) ([] : List Int) ([] : List Int)) x1 0).bind fun r4 =>
  (s_queue_Trace (S_Circuit.mk 1 ([(S_Latch.mk 0 0)] : List S_Latch) ([] : List S_And) ([] : List Int) ([] : List Int)) x1 0 [] []).bind fun r5 =>
  ((s_queue_Right (S_Circuit.mk 1 ([(S_Latch.mk 0 0)] : List S_Latch) ([] : List S_And) ([] : List Int) ([] : List Int)) x1).bind fun r6 =>
   if (r6 != 8) = true then
    some true
   else
    if (r4.2 != 8) = true then
     some true
    else
     some (r5.2 != 8)).bind fun x2 =>
  if x2 = true then
   some (Sum.inr (Sum.inr ()))
  else
   some (Sum.inl (IntKind.wrap .i64 (s1 + 1)))
 else
  some (Sum.inr (Sum.inl ()))
def I_law38_QueueNames_L1 (r0 : (List S_Wait) × Int) (r1 : S_Wait × (List S_Wait) × Int) (r2 : (List S_Wait) × Int) (r3 : S_Wait × (List S_Wait) × Int) (s1 : Int) (σ : St) : Prop := σ.get 12 = (.d true (.int .i64 r0.2)) ∧ σ.get 14 = (.d true (.lst 2 (r1.2.1.map eS_Wait))) ∧ σ.get 15 = (.d true (.int .i64 r1.2.2)) ∧ σ.get 17 = (.d true (.int .i64 r2.2)) ∧ σ.get 20 = (.d true (.int .i64 r3.2.2)) ∧ σ.get 21 = (.ptr 0 14 0) ∧ σ.get 22 = (.row 0 15 0 (([true] : List Bool).length) 1) ∧ σ.get 23 = (.row 0 22 0 lit_law38_QueueNames_1.length 1) ∧ σ.get 24 = (.d true (.int .i64 s1)) ∧ σ.obj 0 13 = some (.rw 2 (([(S_Latch.mk 0 0)] : List S_Latch).map eS_Latch) false) ∧ σ.obj 0 14 = oB5 (([(S_Latch.mk 0 0)] : List S_Latch).length) ∧ σ.obj 0 15 = some (.fz 1 (([true] : List Bool).map eB)) ∧ σ.obj 0 22 = some (.rw 1 (lit_law38_QueueNames_1.map (eL 3 eS_Obligation)) false) ∧ σ.obj 0 11 = none ∧ σ.obj 0 24 = none ∧ σ.obj 0 25 = none ∧ σ.obj 0 26 = none ∧ σ.obj 0 27 = none ∧ σ.obj 0 28 = none ∧ σ.obj 0 29 = none ∧ σ.obj 0 30 = none ∧ σ.obj 0 31 = none ∧ σ.obj 0 33 = none ∧ σ.obj 0 34 = none ∧ σ.obj 0 35 = none ∧ σ.obj 0 36 = none ∧ σ.obj 0 37 = none ∧ σ.obj 0 38 = none ∧ σ.up.length = 0
def J_law38_QueueNames_L1 (r0 : (List S_Wait) × Int) (r1 : S_Wait × (List S_Wait) × Int) (r2 : (List S_Wait) × Int) (r3 : S_Wait × (List S_Wait) × Int) (r : (Unit) ⊕ (Unit)) (e : Ex) (σ' : St) : Prop := (Sum.elim (fun o0 => e = (.exit 2) ∧ σ'.get 12 = (.d true (.int .i64 r0.2)) ∧ σ'.get 14 = (.d true (.lst 2 (r1.2.1.map eS_Wait))) ∧ σ'.get 15 = (.d true (.int .i64 r1.2.2)) ∧ σ'.get 17 = (.d true (.int .i64 r2.2)) ∧ σ'.get 20 = (.d true (.int .i64 r3.2.2)) ∧ σ'.get 21 = (.ptr 0 14 0) ∧ σ'.get 22 = (.row 0 15 0 (([true] : List Bool).length) 1) ∧ σ'.obj 0 13 = some (.rw 2 (([(S_Latch.mk 0 0)] : List S_Latch).map eS_Latch) false) ∧ σ'.obj 0 14 = oB5 (([(S_Latch.mk 0 0)] : List S_Latch).length) ∧ σ'.obj 0 15 = some (.fz 1 (([true] : List Bool).map eB)) ∧ σ'.obj 0 11 = none ∧ σ'.obj 0 24 = none ∧ σ'.obj 0 25 = none ∧ σ'.obj 0 26 = none ∧ σ'.obj 0 27 = none ∧ σ'.obj 0 28 = none ∧ σ'.obj 0 29 = none ∧ σ'.obj 0 30 = none ∧ σ'.obj 0 31 = none ∧ σ'.obj 0 33 = none ∧ σ'.obj 0 34 = none ∧ σ'.obj 0 35 = none ∧ σ'.obj 0 36 = none ∧ σ'.obj 0 37 = none ∧ σ'.obj 0 38 = none ∧ σ'.up.length = 0) (fun o1 => e = .ret ∧ σ'.get 0 = (.d true (.bool false)) ∧ σ'.obj 0 11 = none ∧ σ'.obj 0 24 = none ∧ σ'.obj 0 25 = none ∧ σ'.obj 0 26 = none ∧ σ'.obj 0 27 = none ∧ σ'.obj 0 28 = none ∧ σ'.obj 0 29 = none ∧ σ'.obj 0 30 = none ∧ σ'.obj 0 31 = none ∧ σ'.obj 0 33 = none ∧ σ'.obj 0 34 = none ∧ σ'.obj 0 35 = none ∧ σ'.obj 0 36 = none ∧ σ'.obj 0 37 = none ∧ σ'.obj 0 38 = none ∧ σ'.up.length = 0)) r
theorem L_law38_QueueNames_L1 (r0 : (List S_Wait) × Int) (r1 : S_Wait × (List S_Wait) × Int) (r2 : (List S_Wait) × Int) (r3 : S_Wait × (List S_Wait) × Int) {s : Int} {r : (Unit) ⊕ (Unit)} (h : Lp (b_law38_QueueNames_L1 r0 r1 r2 r3) s = some r) {σ : St} {Q : Ex → St → Prop} (hI : I_law38_QueueNames_L1 r0 r1 r2 r3 s σ) (hQ : ∀ e σ', J_law38_QueueNames_L1 r0 r1 r2 r3 r e σ' → Q e σ') : WC env (.loop c_law38_QueueNames_l2) σ Q :=
 WC_Lp (I_law38_QueueNames_L1 r0 r1 r2 r3) (J_law38_QueueNames_L1 r0 r1 r2 r3) (by
  clear h hI hQ
  clear s r σ Q
  intro s1 σ x hI h
  obtain ⟨f30, f31, f32, f33, f34, f35, f36, f37, f38, f39, f40, f41, f42, f43, f44, f45, f46, f47, f48, f49, f50, f51, f52, f53, f54, f55, f56, f57, f58⟩ := hI
  unfold b_law38_QueueNames_L1 at h
  replace h := itb h; rcases h with ⟨c0, h⟩ | ⟨c0, h⟩
  ·replace h := bsome h; obtain ⟨x1, H7, h⟩ := h
   have n0 := idx_n H7; have q0 := idx_q H7; have y0 := idx_x H7
   replace h := bsome h; obtain ⟨r4, H8, h⟩ := h
   have k4 := AtCall_all (s_queue_Chain_ok H8); try dsimp only at k4
   try simp only [List.map_cons, List.map_nil, List.map_append, List.map_set, List.nil_append, List.map_replicate, eI, eU8, eB, eL, eS_Wait, eS_Latch, eS_Obligation, eS_And, eS_Circuit, eA4_Int, eS_Trace] at k4
   replace h := bsome h; obtain ⟨r5, H9, h⟩ := h
   have k5 := AtCall_all (s_queue_Trace_ok H9); try dsimp only at k5
   try simp only [List.map_cons, List.map_nil, List.map_append, List.map_set, List.nil_append, List.map_replicate, eI, eU8, eB, eL, eS_Wait, eS_Latch, eS_Obligation, eS_And, eS_Circuit, eA4_Int, eS_Trace] at k5
   replace h := bsome h; obtain ⟨x2, H10, h⟩ := h
   try simp only [go_sem, c_law38_QueueNames_l2, *]
   refine WC.mono (Q := fun e σ' => e = .normal ∧ σ'.get 12 = (.d true (.int .i64 r0.2)) ∧ σ'.get 14 = (.d true (.lst 2 (r1.2.1.map eS_Wait))) ∧ σ'.get 15 = (.d true (.int .i64 r1.2.2)) ∧ σ'.get 17 = (.d true (.int .i64 r2.2)) ∧ σ'.get 20 = (.d true (.int .i64 r3.2.2)) ∧ σ'.get 21 = (.ptr 0 14 0) ∧ σ'.get 22 = (.row 0 15 0 (([true] : List Bool).length) 1) ∧ σ'.get 23 = (.row 0 22 0 lit_law38_QueueNames_1.length 1) ∧ σ'.get 24 = (.d true (.int .i64 s1)) ∧ σ'.get 204 = (.d true (.bool x2)) ∧ σ'.obj 0 13 = some (.rw 2 (([(S_Latch.mk 0 0)] : List S_Latch).map eS_Latch) false) ∧ σ'.obj 0 14 = oB5 (([(S_Latch.mk 0 0)] : List S_Latch).length) ∧ σ'.obj 0 15 = some (.fz 1 (([true] : List Bool).map eB)) ∧ σ'.obj 0 22 = some (.rw 1 (lit_law38_QueueNames_1.map (eL 3 eS_Obligation)) false) ∧ σ'.obj 0 11 = none ∧ σ'.obj 0 24 = none ∧ σ'.obj 0 25 = none ∧ σ'.obj 0 26 = none ∧ σ'.obj 0 27 = none ∧ σ'.obj 0 28 = none ∧ σ'.obj 0 29 = none ∧ σ'.obj 0 30 = none ∧ σ'.obj 0 31 = none ∧ σ'.obj 0 33 = none ∧ σ'.obj 0 34 = none ∧ σ'.obj 0 35 = none ∧ σ'.obj 0 36 = none ∧ σ'.obj 0 37 = none ∧ σ'.obj 0 38 = none ∧ σ'.up.length = 0) ?_ ?_
   ·replace h := H10
    clear H10
    replace h := bsome h; obtain ⟨r6, H11, h⟩ := h
    have k6 := AtCall_all (s_queue_Right_ok H11); try dsimp only at k6
    try simp only [List.map_cons, List.map_nil, List.map_append, List.map_set, List.nil_append, List.map_replicate, eI, eU8, eB, eL, eS_Wait, eS_Latch, eS_Obligation, eS_And, eS_Circuit, eA4_Int, eS_Trace] at k6
    replace h := itb h; rcases h with ⟨c1, h⟩ | ⟨c1, h⟩
    ·cases h
     simp only [go_sem, c_law38_QueueNames_l2, c_law38_QueueNames_p3, *]
    ·replace h := itb h; rcases h with ⟨c2, h⟩ | ⟨c2, h⟩
     ·cases h
      simp only [go_sem, c_law38_QueueNames_l2, c_law38_QueueNames_p3, *]
     ·cases h
      simp only [go_sem, c_law38_QueueNames_l2, c_law38_QueueNames_p3, *]
   ·intro e τ hJ
    obtain ⟨rfl, f59, f60, f61, f62, f63, f64, f65, f66, f67, f68, f69, f70, f71, f72, f73, f74, f75, f76, f77, f78, f79, f80, f81, f82, f83, f84, f85, f86, f87, f88⟩ := hJ
    replace h := itb h; rcases h with ⟨c3, h⟩ | ⟨c3, h⟩
    ·cases h
     simp only [go_sem, LQ_inr, J_law38_QueueNames_L1, c_law38_QueueNames_l2, *]
    ·cases h
     simp only [go_sem, LQ_inl, I_law38_QueueNames_L1, c_law38_QueueNames_l2, *]
  ·cases h
   simp only [go_sem, LQ_inr, J_law38_QueueNames_L1, c_law38_QueueNames_l2, *]
) h hI hQ
def b_law38_QueueNames_L2 (r0 : (List S_Wait) × Int) (r1 : S_Wait × (List S_Wait) × Int) (r2 : (List S_Wait) × Int) (r3 : S_Wait × (List S_Wait) × Int) (r4 : (List Int) × Int) (r5 : (List Int) × Int) (r6 : S_Trace × Int) (r7 : S_Trace × Int) (r8 : S_Trace × Int) (s2 : (List S_Obligation) × Int) : Option (((List S_Obligation) × Int) ⊕ ((List S_Obligation))) :=
 if (decide (s2.2 < 100)) = true then
  if s2.1.length + 1 ≤ big then
   some (Sum.inl ((s2.1 ++ ([(S_Obligation.mk [] [] (IntKind.wrap .i64 (s2.2 - 1)))] : List S_Obligation)), (IntKind.wrap .i64 (s2.2 + 1))))
  else none
 else
  some (Sum.inr s2.1)
def I_law38_QueueNames_L2 (r0 : (List S_Wait) × Int) (r1 : S_Wait × (List S_Wait) × Int) (r2 : (List S_Wait) × Int) (r3 : S_Wait × (List S_Wait) × Int) (r4 : (List Int) × Int) (r5 : (List Int) × Int) (r6 : S_Trace × Int) (r7 : S_Trace × Int) (r8 : S_Trace × Int) (s2 : (List S_Obligation) × Int) (σ : St) : Prop := σ.get 12 = (.d true (.int .i64 r0.2)) ∧ σ.get 14 = (.d true (.lst 2 (r1.2.1.map eS_Wait))) ∧ σ.get 15 = (.d true (.int .i64 r1.2.2)) ∧ σ.get 17 = (.d true (.int .i64 r2.2)) ∧ σ.get 20 = (.d true (.int .i64 r3.2.2)) ∧ σ.get 22 = (.row 0 15 0 (([true] : List Bool).length) 1) ∧ σ.get 31 = (.d true (.int .i64 r4.2)) ∧ σ.get 33 = (.d true (.int .i64 r5.2)) ∧ σ.get 35 = (.d true (.int .i64 r6.2)) ∧ σ.get 37 = (.d true (.int .i64 r7.2)) ∧ σ.get 38 = (.ptr 0 30 0) ∧ σ.get 39 = (.d true (.int .i64 r8.2)) ∧ σ.get 40 = (.row 0 31 0 s2.1.length 3) ∧ σ.get 41 = (.d true (.int .i64 s2.2)) ∧ σ.obj 0 15 = some (.fz 1 (([true] : List Bool).map eB)) ∧ σ.obj 0 30 = oB6 r8.1 ∧ (∃ gr_0_31, σ.obj 0 31 = some (.rw 3 (s2.1.map eS_Obligation) gr_0_31)) ∧ σ.obj 0 11 = none ∧ σ.obj 0 33 = none ∧ σ.obj 0 34 = none ∧ σ.obj 0 35 = none ∧ σ.obj 0 36 = none ∧ σ.obj 0 37 = none ∧ σ.obj 0 38 = none ∧ σ.up.length = 0
def J_law38_QueueNames_L2 (r0 : (List S_Wait) × Int) (r1 : S_Wait × (List S_Wait) × Int) (r2 : (List S_Wait) × Int) (r3 : S_Wait × (List S_Wait) × Int) (r4 : (List Int) × Int) (r5 : (List Int) × Int) (r6 : S_Trace × Int) (r7 : S_Trace × Int) (r8 : S_Trace × Int) (r : (List S_Obligation)) (e : Ex) (σ' : St) : Prop := e = (.exit 4) ∧ σ'.get 12 = (.d true (.int .i64 r0.2)) ∧ σ'.get 14 = (.d true (.lst 2 (r1.2.1.map eS_Wait))) ∧ σ'.get 15 = (.d true (.int .i64 r1.2.2)) ∧ σ'.get 17 = (.d true (.int .i64 r2.2)) ∧ σ'.get 20 = (.d true (.int .i64 r3.2.2)) ∧ σ'.get 22 = (.row 0 15 0 (([true] : List Bool).length) 1) ∧ σ'.get 31 = (.d true (.int .i64 r4.2)) ∧ σ'.get 33 = (.d true (.int .i64 r5.2)) ∧ σ'.get 35 = (.d true (.int .i64 r6.2)) ∧ σ'.get 37 = (.d true (.int .i64 r7.2)) ∧ σ'.get 38 = (.ptr 0 30 0) ∧ σ'.get 39 = (.d true (.int .i64 r8.2)) ∧ σ'.get 40 = (.row 0 31 0 r.length 3) ∧ σ'.obj 0 15 = some (.fz 1 (([true] : List Bool).map eB)) ∧ σ'.obj 0 30 = oB6 r8.1 ∧ (∃ gr_0_31, σ'.obj 0 31 = some (.rw 3 (r.map eS_Obligation) gr_0_31)) ∧ σ'.obj 0 11 = none ∧ σ'.obj 0 33 = none ∧ σ'.obj 0 34 = none ∧ σ'.obj 0 35 = none ∧ σ'.obj 0 36 = none ∧ σ'.obj 0 37 = none ∧ σ'.obj 0 38 = none ∧ σ'.up.length = 0
theorem L_law38_QueueNames_L2 (r0 : (List S_Wait) × Int) (r1 : S_Wait × (List S_Wait) × Int) (r2 : (List S_Wait) × Int) (r3 : S_Wait × (List S_Wait) × Int) (r4 : (List Int) × Int) (r5 : (List Int) × Int) (r6 : S_Trace × Int) (r7 : S_Trace × Int) (r8 : S_Trace × Int) {s : (List S_Obligation) × Int} {r : (List S_Obligation)} (h : Lp (b_law38_QueueNames_L2 r0 r1 r2 r3 r4 r5 r6 r7 r8) s = some r) {σ : St} {Q : Ex → St → Prop} (hI : I_law38_QueueNames_L2 r0 r1 r2 r3 r4 r5 r6 r7 r8 s σ) (hQ : ∀ e σ', J_law38_QueueNames_L2 r0 r1 r2 r3 r4 r5 r6 r7 r8 r e σ' → Q e σ') : WC env (.loop c_law38_QueueNames_l3) σ Q :=
 WC_Lp (I_law38_QueueNames_L2 r0 r1 r2 r3 r4 r5 r6 r7 r8) (J_law38_QueueNames_L2 r0 r1 r2 r3 r4 r5 r6 r7 r8) (by
  clear h hI hQ
  clear s r σ Q
  intro s2 σ x hI h
  obtain ⟨f56, f57, f58, f59, f60, f61, f62, f63, f64, f65, f66, f67, f68, f69, f70, f71, ⟨gr_0_31, f72⟩, f73, f74, f75, f76, f77, f78, f79, f80⟩ := hI
  unfold b_law38_QueueNames_L2 at h
  replace h := itb h; rcases h with ⟨c0, h⟩ | ⟨c0, h⟩
  ·replace h := need h; obtain ⟨H13, h⟩ := h
   cases h
   simp only [go_sem, LQ_inl, I_law38_QueueNames_L2, c_law38_QueueNames_l3, *]
  ·cases h
   simp only [go_sem, LQ_inr, J_law38_QueueNames_L2, c_law38_QueueNames_l3, *]
) h hI hQ
noncomputable def s_law38_QueueNames : Option (Bool) :=
 (Lp (b_law38_QueueNames_L0) 0).bind fun x0 =>
 match x0 with
 | .inl x0' =>
  (mkn 1000).bind fun m0 =>
  (s_queue_Push (List.replicate m0 (S_Wait.mk 0 0)) (S_Wait.mk 0 0)).bind fun r0 =>
  (s_queue_Pop (List.replicate m0 (S_Wait.mk 0 0))).bind fun r1 =>
  if (List.replicate m0 (S_Wait.mk 0 0)).length + 1 ≤ big then
   (s_queue_Push ((List.replicate m0 (S_Wait.mk 0 0)) ++ ([(S_Wait.mk 0 0)] : List S_Wait)) (S_Wait.mk 0 0)).bind fun r2 =>
   (s_queue_Pop []).bind fun r3 =>
   (Lp (b_law38_QueueNames_L1 r0 r1 r2 r3) 0).bind fun x1 =>
   match x1 with
   | .inl x1' =>
    (s_queue_Chain (S_Circuit.mk 1 ([(S_Latch.mk 0 0)] : List S_Latch) ([] : List S_And) ([] : List Int) ([] : List Int)) ([(S_Obligation.mk ([2] : List Int) ([true] : List Bool) (-1)), (S_Obligation.mk ([3] : List Int) ([false] : List Bool) 0)] : List S_Obligation) 2).bind fun r4 =>
    (s_queue_Chain (S_Circuit.mk 1 ([(S_Latch.mk 0 0)] : List S_Latch) ([] : List S_And) ([] : List Int) ([] : List Int)) ([(S_Obligation.mk ([2] : List Int) ([true] : List Bool) (-1)), (S_Obligation.mk ([3] : List Int) ([false] : List Bool) 0)] : List S_Obligation) (-1)).bind fun r5 =>
    (s_queue_Trace (S_Circuit.mk 1 ([(S_Latch.mk 0 0)] : List S_Latch) ([] : List S_And) ([] : List Int) ([] : List Int)) ([(S_Obligation.mk ([2] : List Int) ([true] : List Bool) (-1)), (S_Obligation.mk ([3] : List Int) ([false] : List Bool) 0)] : List S_Obligation) 1 [] ([true] : List Bool)).bind fun r6 =>
    (s_queue_Trace (S_Circuit.mk 1 ([(S_Latch.mk 0 0)] : List S_Latch) ([] : List S_And) ([] : List Int) ([] : List Int)) ([(S_Obligation.mk ([2] : List Int) ([true] : List Bool) (-1)), (S_Obligation.mk ([3] : List Int) ([false] : List Bool) 0)] : List S_Obligation) 1 ([true] : List Bool) []).bind fun r7 =>
    (s_queue_Trace (S_Circuit.mk 1 ([(S_Latch.mk 0 0)] : List S_Latch) ([] : List S_And) ([] : List Int) ([] : List Int)) ([(S_Obligation.mk ([2] : List Int) ([true] : List Bool) (-1)), (S_Obligation.mk ([3] : List Int) ([false] : List Bool) 0)] : List S_Obligation) 1 ([true] : List Bool) ([true] : List Bool)).bind fun r8 =>
    (Lp (b_law38_QueueNames_L2 r0 r1 r2 r3 r4 r5 r6 r7 r8) (([] : List S_Obligation), 0)).bind fun x2 =>
    (s_queue_Trace (S_Circuit.mk 0 ([] : List S_Latch) ([] : List S_And) ([] : List Int) ([] : List Int)) x2 99 [] []).bind fun r9 =>
    (s_queue_Trace (S_Circuit.mk 0 ([] : List S_Latch) ([] : List S_And) ([] : List Int) ([] : List Int)) x2 98 [] []).bind fun r10 =>
    (if (r0.2 == 4) = true then
      if (r1.2.2 == 0) = true then
       if ((r1.2.1.length : Int) == 999) = true then
        if (r2.2 == 4) = true then
         if (r3.2.2 == 6) = true then
          if (r4.2 == 2) = true then
           if (r5.2 == 2) = true then
            if (r6.2 == 2) = true then
             if (r7.2 == 2) = true then
              if (r8.2 == 0) = true then
               (s_ref06_Same r8.1 (S_Trace.mk ([true] : List Bool) ([([true] : List Bool), ([false] : List Bool), ([true] : List Bool)] : List (List Bool)))).bind fun r11 =>
               if r11 = true then
                if (r9.2 == 4) = true then
                 if (r10.2 == 0) = true then
                  if ((r10.1.Inputs.length : Int) == 100) = true then
                   (mkn 1001).bind fun m1 =>
                   (s_queue_Right (S_Circuit.mk 0 ([] : List S_Latch) ([] : List S_And) ([] : List Int) ([] : List Int)) (List.replicate m1 (S_Obligation.mk ([] : List Int) ([] : List Bool) 0))).bind fun r12 =>
                   if (r12 == 4) = true then
                    (s_queue_Right (S_Circuit.mk (-1) ([] : List S_Latch) ([] : List S_And) ([] : List Int) ([] : List Int)) []).bind fun r13 =>
                    if (r13 == 8) = true then
                     (s_law38_alive ).bind fun r14 =>
                     some r14
                    else
                     some false
                   else
                    some false
                  else
                   some false
                 else
                  some false
                else
                 some false
               else
                some false
              else
               some false
             else
              some false
            else
             some false
           else
            some false
          else
           some false
         else
          some false
        else
         some false
       else
        some false
      else
       some false
     else
      some false).bind fun x3 =>
    some x3
   | .inr x1' =>
    some false
  else none
 | .inr x0' =>
  some false
theorem s_law38_QueueNames_ok {r : Bool} (h : s_law38_QueueNames = some r) : AnsL env k_law38_QueueNames [] (.d true (.bool r)) := by
 unfold s_law38_QueueNames at h
 unfold AnsL
 rw [AtF fn_law38_QueueNames]
 simp only [n_law38_QueueNames]
 replace h := bsome h; obtain ⟨x0, H0, h⟩ := h
 try simp only [go_sem, *]
 refine L_law38_QueueNames_L0 H0 ?_ ?_
 ·clear h
  simp only [go_sem, I_law38_QueueNames_L0, lit_law38_QueueNames_0, *]
 ·intro e τ hJ
  rcases x0 with x0' | x0'
  ·obtain ⟨rfl, f0, f1, f2, f3, f4, f5, f6, f7, f8, f9, f10, f11, f12, f13, f14, f15, f16, f17, f18, f19, f20, f21, f22, f23, f24, f25, f26, f27, f28, f29⟩ := hJ
   replace h := bsome h; obtain ⟨m0, H1, h⟩ := h
   have zH1 := bnd_mkn H1
   replace h := bsome h; obtain ⟨r0, H2, h⟩ := h
   have k0 := AtCall_all (s_queue_Push_ok H2); try dsimp only at k0
   try simp only [List.map_cons, List.map_nil, List.map_append, List.map_set, List.nil_append, List.map_replicate, eI, eU8, eB, eL, eS_Wait, eS_Latch, eS_Obligation, eS_And, eS_Circuit, eA4_Int, eS_Trace] at k0
   replace h := bsome h; obtain ⟨r1, H3, h⟩ := h
   have k1 := AtCall_all (s_queue_Pop_ok H3); try dsimp only at k1
   try simp only [List.map_cons, List.map_nil, List.map_append, List.map_set, List.nil_append, List.map_replicate, eI, eU8, eB, eL, eS_Wait, eS_Latch, eS_Obligation, eS_And, eS_Circuit, eA4_Int, eS_Trace] at k1
   replace h := need h; obtain ⟨H4, h⟩ := h
   try simp only [List.length_cons, List.length_nil, cpl_length, List.length_append, List.length_set, List.length_replicate, Nat.zero_add, Nat.reduceAdd] at H4
   replace h := bsome h; obtain ⟨r2, H5, h⟩ := h
   have k2 := AtCall_all (s_queue_Push_ok H5); try dsimp only at k2
   try simp only [List.map_cons, List.map_nil, List.map_append, List.map_set, List.nil_append, List.map_replicate, eI, eU8, eB, eL, eS_Wait, eS_Latch, eS_Obligation, eS_And, eS_Circuit, eA4_Int, eS_Trace] at k2
   replace h := bsome h; obtain ⟨r3, H6, h⟩ := h
   have k3 := AtCall_all (s_queue_Pop_ok H6); try dsimp only at k3
   try simp only [List.map_cons, List.map_nil, List.map_append, List.map_set, List.nil_append, List.map_replicate, eI, eU8, eB, eL, eS_Wait, eS_Latch, eS_Obligation, eS_And, eS_Circuit, eA4_Int, eS_Trace] at k3
   replace h := bsome h; obtain ⟨x1, H7, h⟩ := h
   try simp only [go_sem, *]
   refine L_law38_QueueNames_L1 r0 r1 r2 r3 H7 ?_ ?_
   ·clear h
    simp only [go_sem, I_law38_QueueNames_L1, lit_law38_QueueNames_1, *]
   ·intro e τ hJ
    rcases x1 with x1' | x1'
    ·obtain ⟨rfl, f30, f31, f32, f33, f34, f35, f36, f37, f38, f39, f40, f41, f42, f43, f44, f45, f46, f47, f48, f49, f50, f51, f52, f53, f54, f55⟩ := hJ
     replace h := bsome h; obtain ⟨r4, H8, h⟩ := h
     have k4 := AtCall_all (s_queue_Chain_ok H8); try dsimp only at k4
     try simp only [List.map_cons, List.map_nil, List.map_append, List.map_set, List.nil_append, List.map_replicate, eI, eU8, eB, eL, eS_Wait, eS_Latch, eS_Obligation, eS_And, eS_Circuit, eA4_Int, eS_Trace] at k4
     replace h := bsome h; obtain ⟨r5, H9, h⟩ := h
     have k5 := AtCall_all (s_queue_Chain_ok H9); try dsimp only at k5
     try simp only [List.map_cons, List.map_nil, List.map_append, List.map_set, List.nil_append, List.map_replicate, eI, eU8, eB, eL, eS_Wait, eS_Latch, eS_Obligation, eS_And, eS_Circuit, eA4_Int, eS_Trace] at k5
     replace h := bsome h; obtain ⟨r6, H10, h⟩ := h
     have k6 := AtCall_all (s_queue_Trace_ok H10); try dsimp only at k6
     try simp only [List.map_cons, List.map_nil, List.map_append, List.map_set, List.nil_append, List.map_replicate, eI, eU8, eB, eL, eS_Wait, eS_Latch, eS_Obligation, eS_And, eS_Circuit, eA4_Int, eS_Trace] at k6
     replace h := bsome h; obtain ⟨r7, H11, h⟩ := h
     have k7 := AtCall_all (s_queue_Trace_ok H11); try dsimp only at k7
     try simp only [List.map_cons, List.map_nil, List.map_append, List.map_set, List.nil_append, List.map_replicate, eI, eU8, eB, eL, eS_Wait, eS_Latch, eS_Obligation, eS_And, eS_Circuit, eA4_Int, eS_Trace] at k7
     replace h := bsome h; obtain ⟨r8, H12, h⟩ := h
     have k8 := AtCall_all (s_queue_Trace_ok H12); try dsimp only at k8
     try simp only [List.map_cons, List.map_nil, List.map_append, List.map_set, List.nil_append, List.map_replicate, eI, eU8, eB, eL, eS_Wait, eS_Latch, eS_Obligation, eS_And, eS_Circuit, eA4_Int, eS_Trace] at k8
     replace h := bsome h; obtain ⟨x2, H13, h⟩ := h
     try simp only [go_sem, *]
     refine L_law38_QueueNames_L2 r0 r1 r2 r3 r4 r5 r6 r7 r8 H13 ?_ ?_
     ·clear h
      simp only [go_sem, I_law38_QueueNames_L2, *]
     ·intro e τ hJ
      obtain ⟨rfl, f56, f57, f58, f59, f60, f61, f62, f63, f64, f65, f66, f67, f68, f69, f70, ⟨gr_0_31, f71⟩, f72, f73, f74, f75, f76, f77, f78, f79⟩ := hJ
      replace h := bsome h; obtain ⟨r9, H14, h⟩ := h
      have k9 := AtCall_all (s_queue_Trace_ok H14); try dsimp only at k9
      try simp only [List.map_cons, List.map_nil, List.map_append, List.map_set, List.nil_append, List.map_replicate, eI, eU8, eB, eL, eS_Wait, eS_Latch, eS_Obligation, eS_And, eS_Circuit, eA4_Int, eS_Trace] at k9
      replace h := bsome h; obtain ⟨r10, H15, h⟩ := h
      have k10 := AtCall_all (s_queue_Trace_ok H15); try dsimp only at k10
      try simp only [List.map_cons, List.map_nil, List.map_append, List.map_set, List.nil_append, List.map_replicate, eI, eU8, eB, eL, eS_Wait, eS_Latch, eS_Obligation, eS_And, eS_Circuit, eA4_Int, eS_Trace] at k10
      replace h := bsome h; obtain ⟨x3, H16, h⟩ := h
      try simp only [go_sem, *]
      refine WC.mono (Q := fun e σ' => e = .normal ∧ σ'.get 0 = (.d true (.bool x3)) ∧ σ'.obj 0 11 = none ∧ σ'.obj 0 33 = none ∧ σ'.up.length = 0) ?_ ?_
      ·replace h := H16
       clear H16
       replace h := itb h; rcases h with ⟨c0, h⟩ | ⟨c0, h⟩
       ·replace h := itb h; rcases h with ⟨c1, h⟩ | ⟨c1, h⟩
        ·replace h := itb h; rcases h with ⟨c2, h⟩ | ⟨c2, h⟩
         ·replace h := itb h; rcases h with ⟨c3, h⟩ | ⟨c3, h⟩
          ·replace h := itb h; rcases h with ⟨c4, h⟩ | ⟨c4, h⟩
           ·replace h := itb h; rcases h with ⟨c5, h⟩ | ⟨c5, h⟩
            ·replace h := itb h; rcases h with ⟨c6, h⟩ | ⟨c6, h⟩
             ·replace h := itb h; rcases h with ⟨c7, h⟩ | ⟨c7, h⟩
              ·replace h := itb h; rcases h with ⟨c8, h⟩ | ⟨c8, h⟩
               ·replace h := itb h; rcases h with ⟨c9, h⟩ | ⟨c9, h⟩
                ·replace h := bsome h; obtain ⟨r11, H17, h⟩ := h
                 have k11 := AtCall_all (s_ref06_Same_ok H17); try dsimp only at k11
                 try simp only [List.map_cons, List.map_nil, List.map_append, List.map_set, List.nil_append, List.map_replicate, eI, eU8, eB, eL, eS_Wait, eS_Latch, eS_Obligation, eS_And, eS_Circuit, eA4_Int, eS_Trace] at k11
                 replace h := itb h; rcases h with ⟨c10, h⟩ | ⟨c10, h⟩
                 ·replace h := itb h; rcases h with ⟨c11, h⟩ | ⟨c11, h⟩
                  ·replace h := itb h; rcases h with ⟨c12, h⟩ | ⟨c12, h⟩
                   ·replace h := itb h; rcases h with ⟨c13, h⟩ | ⟨c13, h⟩
                    ·replace h := bsome h; obtain ⟨m1, H18, h⟩ := h
                     have zH18 := bnd_mkn H18
                     replace h := bsome h; obtain ⟨r12, H19, h⟩ := h
                     have k12 := AtCall_all (s_queue_Right_ok H19); try dsimp only at k12
                     try simp only [List.map_cons, List.map_nil, List.map_append, List.map_set, List.nil_append, List.map_replicate, eI, eU8, eB, eL, eS_Wait, eS_Latch, eS_Obligation, eS_And, eS_Circuit, eA4_Int, eS_Trace] at k12
                     replace h := itb h; rcases h with ⟨c14, h⟩ | ⟨c14, h⟩
                     ·replace h := bsome h; obtain ⟨r13, H20, h⟩ := h
                      have k13 := AtCall_all (s_queue_Right_ok H20); try dsimp only at k13
                      try simp only [List.map_cons, List.map_nil, List.map_append, List.map_set, List.nil_append, List.map_replicate, eI, eU8, eB, eL, eS_Wait, eS_Latch, eS_Obligation, eS_And, eS_Circuit, eA4_Int, eS_Trace] at k13
                      replace h := itb h; rcases h with ⟨c15, h⟩ | ⟨c15, h⟩
                      ·replace h := bsome h; obtain ⟨r14, H21, h⟩ := h
                       have k14 := AtCall_all (s_law38_alive_ok H21); try dsimp only at k14
                       cases h
                       simp only [go_sem, c_law38_QueueNames_p4, *]
                      ·cases h
                       simp only [go_sem, c_law38_QueueNames_p4, *]
                     ·cases h
                      simp only [go_sem, c_law38_QueueNames_p4, *]
                    ·cases h
                     simp only [go_sem, c_law38_QueueNames_p4, *]
                   ·cases h
                    simp only [go_sem, c_law38_QueueNames_p4, *]
                  ·cases h
                   simp only [go_sem, c_law38_QueueNames_p4, *]
                 ·cases h
                  simp only [go_sem, c_law38_QueueNames_p4, *]
                ·cases h
                 simp only [go_sem, c_law38_QueueNames_p4, *]
               ·cases h
                simp only [go_sem, c_law38_QueueNames_p4, *]
              ·cases h
               simp only [go_sem, c_law38_QueueNames_p4, *]
             ·cases h
              simp only [go_sem, c_law38_QueueNames_p4, *]
            ·cases h
             simp only [go_sem, c_law38_QueueNames_p4, *]
           ·cases h
            simp only [go_sem, c_law38_QueueNames_p4, *]
          ·cases h
           simp only [go_sem, c_law38_QueueNames_p4, *]
         ·cases h
          simp only [go_sem, c_law38_QueueNames_p4, *]
        ·cases h
         simp only [go_sem, c_law38_QueueNames_p4, *]
       ·cases h
        simp only [go_sem, c_law38_QueueNames_p4, *]
      ·intro e τ hJ
       obtain ⟨rfl, f80, f81, f82, f83⟩ := hJ
       cases h
       simp only [go_sem, KLaw, *]
    ·obtain ⟨rfl, f84, f85, f86, f87, f88, f89, f90, f91, f92, f93, f94, f95, f96, f97, f98, f99, f100⟩ := hJ
     cases h
     simp only [go_sem, KLaw, *]
  ·obtain ⟨rfl, f101, f102, f103, f104, f105, f106, f107, f108, f109, f110, f111, f112, f113, f114, f115, f116, f117, f118, f119, f120, f121, f122, f123, f124, f125, f126, f127, f128, f129, f130, f131⟩ := hJ
   cases h
   simp only [go_sem, KLaw, *]
end Go.Proofs.Ytkhgnkfdpabflaa.Vm
