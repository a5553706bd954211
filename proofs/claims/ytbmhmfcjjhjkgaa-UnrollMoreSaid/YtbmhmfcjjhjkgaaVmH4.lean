/- Walks over the code of functions. Printed. -/
import Derived.Test.YtbmhmfcjjhjkgaaVmH3
namespace Go.Proofs.Ytbmhmfcjjhjkgaa.Vm
open Go
set_option linter.unusedSimpArgs false
set_option linter.unusedVariables false
set_option maxRecDepth 4000
set_option maxHeartbeats 4000000
attribute [local go_sem] WC_skip WC_exit WC_ret WC_seq WC_block WC_cond WC_rg KSeq_normal KSeq_ret KSeq_exit KBlock_normal KBlock_ret KBlock_exit KN_eq KRg_eq KSt_eq KSet_eq KLen_eq KPick_eq KG_eq KCond_eq boolP_d biteC_true biteC_false biteO_true biteO_false WO_nil WO_mv WO_nilr WO_pick WO_bin WO_beq WO_eqs WO_un WO_cvt WO_alloc WO_box WO_load WO_store WO_fad WO_fval WO_ix WO_ixb WO_ixa WO_bld WO_bsl WO_mks WO_slc WO_len WO_mx WO_mn WO_app WO_cpy WO_clr WO_xt WO_fn WO_chk WO_g
  WO_call WO_callv callK KHand KCallv KRes KBack_ret KRet_eq KAns env_fn St.hand St.lend St.lends St.lend1 St.vals St.frz St.frz1 St.rowOf List.foldl_nil List.foldl_cons List.map_cons List.map_nil
  optP_some optP_none
  St.get_set St.obj_set St.get_setObj St.obj_setObj St.get_kill St.obj_kill0 St.obj_killS St.get_ini St.obj_ini0 gt_nil gt_zero gt_succ St.val_t St.val_c
  stl_get stl_obj0 stl_objS stl_upl stv_d stv_dx stv_nil stv_row0 stv_rowS stv_ptr stv_rel0 stv_pd stv_ag stv_tp stv_cl stvs_nil stvs_cons obs_box obs_rw obs_fz
  ret_get ret_obj ret_up ini_objS ini_upl ini_upl0 set_upl kill_upl setObj_upl0 setObj_uplS
  kill_d kill_dx kill_nil kill_row0 kill_rowS kill_ptr0 kill_ptrS kill_rel0 kill_relS kill_pd kill_ag kill_tp kill_cl kills_nil kills_cons obk_box obk_rw obk_fz
  pre step bin_int bin_shr bin_shl beq_bool arith_add arith_sub arith_mul arith_and arith_or arith_xor arith_eql arith_neq arith_lss arith_leq arith_gtr arith_geq arith_quo2 arith_rem2 arith_shr1 arith_shl1 maxOf_two minOf_two un lenOf cellsOf ofCells wid sub? slice_map slice_head slice_full' slice_z slice_c slice_s put St.new zcells St.load St.store Vm.fad St.ix St.slc St.els St.app St.wants St.skip I.dst resVal resVals Z.v Z.t? ofT T.cells V.shift V.shifts V.down V.downs downL chkV eqs eqFlat fill fillT flatFill T.noL T.flat
  dat dat2 dat1 dats1 dats2 Fn.pure
  Option.map_some Option.map_none Option.bind_some List.length_cons List.length_nil List.length_append List.length_set List.length_map List.length_replicate List.map_append List.map_set List.map_replicate List.getElem?_map List.getElem?_cons_zero List.getElem?_cons_succ List.drop_zero List.take_zero List.drop_succ_cons List.take_succ_cons List.take_nil List.drop_nil List.zip_cons_cons List.zip_nil_left List.zip_nil_right List.mapM_cons List.mapM_nil Option.pure_def Option.bind_eq_bind List.all_cons List.all_nil List.append_eq_nil_iff List.cons_ne_nil List.map_eq_nil_iff List.set_cons_zero List.set_cons_succ List.replicate_succ List.replicate_zero
  Nat.reduceEqDiff Nat.reduceLeDiff Nat.reduceAdd Nat.reduceSub Nat.reduceLT Nat.reduceMul Nat.reduceBEq Nat.ble_eq reduceIte reduceCtorEq Nat.add_zero Nat.sub_zero Nat.zero_add and_true true_and and_false false_and and_self or_true true_or false_or or_false if_true if_false Nat.one_ne_zero not_true not_false_eq_true not_false_iff Bool.false_eq_true forall_const true_implies false_implies implies_true BEq.rfl Bool.not_true Bool.not_false Bool.and_true Bool.true_and Bool.and_false Bool.false_and Bool.and_self not_true_eq_false List.nil_append List.append_nil List.cons_append dInt dBool Nat.le_refl Nat.le_add_right St.toT St.toTs ne_eq
  Sum.elim_inl Sum.elim_inr Option.some.injEq Ob.rw.injEq exists_eq2 eI eU8 eU64 eB eL eS_Latch eS_And eS_Circuit eS_Cnf eA4_Int oB0 oB1 oB2 oB3 oB4 oB5 oB6 oB7 oB8 oB9 oB10 oB11 oB12 oB13 c_law23_alive c_law23_great c_ref02_Great c_ref02_Size c_ref02_literals c_ref13_Same c_ref13_SameAll c_ref22_Same c_unroll_Free c_unroll_Of fn_gates_Check fn_law23_turns fn_ref02_Great fn_ref02_Size fn_ref13_Same fn_ref13_SameAll fn_ref22_Same fn_unroll_Free fn_unroll_Of fn_unroll_made n_gates_Check n_law23_turns n_ref02_Great n_ref02_Size n_ref13_Same n_ref13_SameAll n_ref22_Same n_unroll_Free n_unroll_Of n_unroll_made
def b_unroll_Of_L0 (p0 : S_Circuit) (p1 : Int) (s0 : (List Int) × Int) : Option (((List Int) × Int) ⊕ ((List Int))) :=
  if (decide (s0.2 < (p0.Latches.length : Int))) = true then
    (idx p0.Latches s0.2).bind fun x0 =>
    (if (x0.Reset == 2) = true then
        some (-1)
      else
        some x0.Reset).bind fun x1 =>
    if s0.1.length + 1 ≤ big then
      some (Sum.inl ((s0.1 ++ ([x1] : List Int)), (IntKind.wrap .i64 (s0.2 + 1))))
    else none
  else
    some (Sum.inr s0.1)
def I_unroll_Of_L0 (p0 : S_Circuit) (p1 : Int) (s0 : (List Int) × Int) (σ : St) : Prop := σ.get 1 = (.d true (.int .i64 p1)) ∧ σ.get 2 = (.ptr 0 0 0) ∧ σ.get 4 = (.ptr 0 1 0) ∧ σ.get 7 = (.row 0 4 0 s0.1.length 1) ∧ σ.get 18 = (.d false (.lst 2 (p0.Latches.map eS_Latch))) ∧ σ.get 19 = (.d true (.int .i64 (p0.Latches.length : Int))) ∧ σ.get 20 = (.d true (.int .i64 s0.2)) ∧ σ.obj 0 0 = oB0 p0 ∧ σ.obj 0 1 = oB3 (([] : List (List Int)).length) (([] : List (List Int)).length) ∧ σ.obj 0 2 = some (.rw 1 (([] : List (List Int)).map (eL 1 eI)) false) ∧ σ.obj 0 3 = some (.rw 1 (([] : List (List Int)).map (eL 1 eI)) false) ∧ (∃ gr_0_4, σ.obj 0 4 = some (.rw 1 (s0.1.map eI) gr_0_4)) ∧ σ.obj 0 7 = none ∧ σ.up.length = 0
def J_unroll_Of_L0 (p0 : S_Circuit) (p1 : Int) (r : (List Int)) (e : Ex) (σ' : St) : Prop := e = (.exit 0) ∧ σ'.get 1 = (.d true (.int .i64 p1)) ∧ σ'.get 2 = (.ptr 0 0 0) ∧ σ'.get 4 = (.ptr 0 1 0) ∧ σ'.get 7 = (.row 0 4 0 r.length 1) ∧ σ'.obj 0 0 = oB0 p0 ∧ σ'.obj 0 1 = oB3 (([] : List (List Int)).length) (([] : List (List Int)).length) ∧ σ'.obj 0 2 = some (.rw 1 (([] : List (List Int)).map (eL 1 eI)) false) ∧ σ'.obj 0 3 = some (.rw 1 (([] : List (List Int)).map (eL 1 eI)) false) ∧ (∃ gr_0_4, σ'.obj 0 4 = some (.rw 1 (r.map eI) gr_0_4)) ∧ σ'.obj 0 7 = none ∧ σ'.up.length = 0
theorem L_unroll_Of_L0 (p0 : S_Circuit) (p1 : Int) {s : (List Int) × Int} {r : (List Int)} (h : Lp (b_unroll_Of_L0 p0 p1) s = some r) {σ : St} {Q : Ex → St → Prop} (hI : I_unroll_Of_L0 p0 p1 s σ) (hQ : ∀ e σ', J_unroll_Of_L0 p0 p1 r e σ' → Q e σ') : WC env (.loop c_unroll_Of_l1) σ Q :=
  WC_Lp (I_unroll_Of_L0 p0 p1) (J_unroll_Of_L0 p0 p1) (by
    clear h hI hQ
    clear s r σ Q
    intro s0 σ x hI h
    obtain ⟨f0, f1, f2, f3, f4, f5, f6, f7, f8, f9, f10, ⟨gr_0_4, f11⟩, f12, f13⟩ := hI
    unfold b_unroll_Of_L0 at h
    replace h := itb h; rcases h with ⟨c1, h⟩ | ⟨c1, h⟩
    · replace h := bsome h; obtain ⟨x0, H1, h⟩ := h
      have n0 := idx_n H1; have q0 := idx_q H1; have y0 := idx_x H1
      replace h := bsome h; obtain ⟨x1, H2, h⟩ := h
      try simp only [go_sem, c_unroll_Of_l1, *]
      refine WC.mono (Q := fun e σ' => e = .normal ∧ σ'.get 1 = (.d true (.int .i64 p1)) ∧ σ'.get 2 = (.ptr 0 0 0) ∧ σ'.get 4 = (.ptr 0 1 0) ∧ σ'.get 7 = (.row 0 4 0 s0.1.length 1) ∧ σ'.get 10 = (.d true (.int .i64 x1)) ∧ σ'.get 18 = (.d false (.lst 2 (p0.Latches.map eS_Latch))) ∧ σ'.get 19 = (.d true (.int .i64 (p0.Latches.length : Int))) ∧ σ'.get 20 = (.d true (.int .i64 s0.2)) ∧ σ'.obj 0 0 = oB0 p0 ∧ σ'.obj 0 1 = oB3 (([] : List (List Int)).length) (([] : List (List Int)).length) ∧ σ'.obj 0 2 = some (.rw 1 (([] : List (List Int)).map (eL 1 eI)) false) ∧ σ'.obj 0 3 = some (.rw 1 (([] : List (List Int)).map (eL 1 eI)) false) ∧ (∃ gr_0_4, σ'.obj 0 4 = some (.rw 1 (s0.1.map eI) gr_0_4)) ∧ σ'.obj 0 7 = none ∧ σ'.up.length = 0) ?_ ?_
      · replace h := H2
        clear H2
        replace h := itb h; rcases h with ⟨c2, h⟩ | ⟨c2, h⟩
        · cases h
          simp only [go_sem, c_unroll_Of_l1, c_unroll_Of_p1, *]
        · cases h
          simp only [go_sem, c_unroll_Of_l1, c_unroll_Of_p1, *]
      · intro e τ hJ
        obtain ⟨rfl, f14, f15, f16, f17, f18, f19, f20, f21, f22, f23, f24, f25, ⟨gr_0_4, f26⟩, f27, f28⟩ := hJ
        replace h := need h; obtain ⟨H3, h⟩ := h
        cases h
        simp only [go_sem, LQ_inl, I_unroll_Of_L0, c_unroll_Of_l1, *]
    · cases h
      simp only [go_sem, LQ_inr, J_unroll_Of_L0, c_unroll_Of_l1, *]
) h hI hQ
/-- spiritlevel/unroll.Of -/
noncomputable def s_unroll_Of (p0 : S_Circuit) (p1 : Int) : Option (S_Cnf × Int) :=
  (s_gates_Check p0).bind fun r0 =>
  if (r0 != 0) = true then
    some ((S_Cnf.mk 0 ([] : List (List Int)) ([] : List (List Int))), r0)
  else
    (Lp (b_unroll_Of_L0 p0 p1) (([] : List Int), 0)).bind fun x0 =>
    (s_unroll_made p0 p1 x0).bind fun r1 =>
    some (r1.1, r1.2)
theorem s_unroll_Of_ok {p0 : S_Circuit} {p1 : Int} {r : S_Cnf × Int} (h : s_unroll_Of p0 p1 = some r) : Ans env k_unroll_Of [(.ag [(.d true (.int .i64 p0.Inputs)), (.d false (.lst 2 (p0.Latches.map eS_Latch))), (.d false (.lst 2 (p0.Ands.map eS_And))), (.d false (.lst 1 (p0.Bads.map eI))), (.d false (.lst 1 (p0.Constraints.map eI)))]), (.d true (.int .i64 p1))] (.tp [(.ag [(.d true (.int .i64 r.1.Vars)), (.d true (.lst 1 (r.1.Lits.map (eL 1 eI)))), (.d true (.lst 1 (r.1.Clauses.map (eL 1 eI))))]), (.d true (.int .i64 r.2))]) := by
  unfold s_unroll_Of at h
  unfold Ans
  rw [AtF fn_unroll_Of]
  simp only [n_unroll_Of]
  replace h := bsome h; obtain ⟨r0, H0, h⟩ := h
  have k0 := AtCall_all (s_gates_Check_ok H0); try dsimp only at k0
  replace h := itb h; rcases h with ⟨c0, h⟩ | ⟨c0, h⟩
  · cases h
    simp only [go_sem, *]
    exact ⟨_, rfl⟩
  · replace h := bsome h; obtain ⟨x0, H1, h⟩ := h
    try simp only [go_sem, *]
    refine L_unroll_Of_L0 p0 p1 H1 ?_ ?_
    · clear h
      simp only [go_sem, I_unroll_Of_L0, *]
    · intro e τ hJ
      obtain ⟨rfl, f0, f1, f2, f3, f4, f5, f6, f7, ⟨gr_0_4, f8⟩, f9, f10⟩ := hJ
      replace h := bsome h; obtain ⟨r1, H2, h⟩ := h
      have k1 := AtCall_all (s_unroll_made_ok H2); try dsimp only at k1
      cases h
      simp only [go_sem, *]
      exact ⟨_, rfl⟩
def b_unroll_Free_L0 (p0 : S_Circuit) (p1 : Int) (s0 : (List Int) × Int) : Option (((List Int) × Int) ⊕ ((List Int))) :=
  if (decide (s0.2 < (p0.Latches.length : Int))) = true then
    if s0.1.length + 1 ≤ big then
      some (Sum.inl ((s0.1 ++ ([(-1)] : List Int)), (IntKind.wrap .i64 (s0.2 + 1))))
    else none
  else
    some (Sum.inr s0.1)
def I_unroll_Free_L0 (p0 : S_Circuit) (p1 : Int) (s0 : (List Int) × Int) (σ : St) : Prop := σ.get 1 = (.d true (.int .i64 p1)) ∧ σ.get 2 = (.ptr 0 0 0) ∧ σ.get 4 = (.ptr 0 1 0) ∧ σ.get 7 = (.row 0 4 0 s0.1.length 1) ∧ σ.get 16 = (.d true (.int .i64 (p0.Latches.length : Int))) ∧ σ.get 17 = (.d true (.int .i64 s0.2)) ∧ σ.obj 0 0 = oB0 p0 ∧ σ.obj 0 1 = oB3 (([] : List (List Int)).length) (([] : List (List Int)).length) ∧ σ.obj 0 2 = some (.rw 1 (([] : List (List Int)).map (eL 1 eI)) false) ∧ σ.obj 0 3 = some (.rw 1 (([] : List (List Int)).map (eL 1 eI)) false) ∧ (∃ gr_0_4, σ.obj 0 4 = some (.rw 1 (s0.1.map eI) gr_0_4)) ∧ σ.obj 0 6 = none ∧ σ.up.length = 0
def J_unroll_Free_L0 (p0 : S_Circuit) (p1 : Int) (r : (List Int)) (e : Ex) (σ' : St) : Prop := e = (.exit 0) ∧ σ'.get 1 = (.d true (.int .i64 p1)) ∧ σ'.get 2 = (.ptr 0 0 0) ∧ σ'.get 4 = (.ptr 0 1 0) ∧ σ'.get 7 = (.row 0 4 0 r.length 1) ∧ σ'.obj 0 0 = oB0 p0 ∧ σ'.obj 0 1 = oB3 (([] : List (List Int)).length) (([] : List (List Int)).length) ∧ σ'.obj 0 2 = some (.rw 1 (([] : List (List Int)).map (eL 1 eI)) false) ∧ σ'.obj 0 3 = some (.rw 1 (([] : List (List Int)).map (eL 1 eI)) false) ∧ (∃ gr_0_4, σ'.obj 0 4 = some (.rw 1 (r.map eI) gr_0_4)) ∧ σ'.obj 0 6 = none ∧ σ'.up.length = 0
theorem L_unroll_Free_L0 (p0 : S_Circuit) (p1 : Int) {s : (List Int) × Int} {r : (List Int)} (h : Lp (b_unroll_Free_L0 p0 p1) s = some r) {σ : St} {Q : Ex → St → Prop} (hI : I_unroll_Free_L0 p0 p1 s σ) (hQ : ∀ e σ', J_unroll_Free_L0 p0 p1 r e σ' → Q e σ') : WC env (.loop c_unroll_Free_l1) σ Q :=
  WC_Lp (I_unroll_Free_L0 p0 p1) (J_unroll_Free_L0 p0 p1) (by
    clear h hI hQ
    clear s r σ Q
    intro s0 σ x hI h
    obtain ⟨f0, f1, f2, f3, f4, f5, f6, f7, f8, f9, ⟨gr_0_4, f10⟩, f11, f12⟩ := hI
    unfold b_unroll_Free_L0 at h
    replace h := itb h; rcases h with ⟨c1, h⟩ | ⟨c1, h⟩
    · replace h := need h; obtain ⟨H1, h⟩ := h
      cases h
      simp only [go_sem, LQ_inl, I_unroll_Free_L0, c_unroll_Free_l1, *]
    · cases h
      simp only [go_sem, LQ_inr, J_unroll_Free_L0, c_unroll_Free_l1, *]
) h hI hQ
/-- spiritlevel/unroll.Free -/
noncomputable def s_unroll_Free (p0 : S_Circuit) (p1 : Int) : Option (S_Cnf × Int) :=
  (s_gates_Check p0).bind fun r0 =>
  if (r0 != 0) = true then
    some ((S_Cnf.mk 0 ([] : List (List Int)) ([] : List (List Int))), r0)
  else
    (Lp (b_unroll_Free_L0 p0 p1) (([] : List Int), 0)).bind fun x0 =>
    (s_unroll_made p0 p1 x0).bind fun r1 =>
    some (r1.1, r1.2)
theorem s_unroll_Free_ok {p0 : S_Circuit} {p1 : Int} {r : S_Cnf × Int} (h : s_unroll_Free p0 p1 = some r) : Ans env k_unroll_Free [(.ag [(.d true (.int .i64 p0.Inputs)), (.d false (.lst 2 (p0.Latches.map eS_Latch))), (.d false (.lst 2 (p0.Ands.map eS_And))), (.d false (.lst 1 (p0.Bads.map eI))), (.d false (.lst 1 (p0.Constraints.map eI)))]), (.d true (.int .i64 p1))] (.tp [(.ag [(.d true (.int .i64 r.1.Vars)), (.d true (.lst 1 (r.1.Lits.map (eL 1 eI)))), (.d true (.lst 1 (r.1.Clauses.map (eL 1 eI))))]), (.d true (.int .i64 r.2))]) := by
  unfold s_unroll_Free at h
  unfold Ans
  rw [AtF fn_unroll_Free]
  simp only [n_unroll_Free]
  replace h := bsome h; obtain ⟨r0, H0, h⟩ := h
  have k0 := AtCall_all (s_gates_Check_ok H0); try dsimp only at k0
  replace h := itb h; rcases h with ⟨c0, h⟩ | ⟨c0, h⟩
  · cases h
    simp only [go_sem, *]
    exact ⟨_, rfl⟩
  · replace h := bsome h; obtain ⟨x0, H1, h⟩ := h
    try simp only [go_sem, *]
    refine L_unroll_Free_L0 p0 p1 H1 ?_ ?_
    · clear h
      simp only [go_sem, I_unroll_Free_L0, *]
    · intro e τ hJ
      obtain ⟨rfl, f0, f1, f2, f3, f4, f5, f6, f7, ⟨gr_0_4, f8⟩, f9, f10⟩ := hJ
      replace h := bsome h; obtain ⟨r1, H2, h⟩ := h
      have k1 := AtCall_all (s_unroll_made_ok H2); try dsimp only at k1
      cases h
      simp only [go_sem, *]
      exact ⟨_, rfl⟩
def b_ref13_Same_L0 (p0 : (List Int)) (p1 : (List Int)) (s0 : Int) : Option ((Int) ⊕ ((Unit) ⊕ (Unit))) :=
  if (decide (s0 < (p0.length : Int))) = true then
    (idx p0 s0).bind fun x0 =>
    (idx p1 s0).bind fun x1 =>
    if (x0 != x1) = true then
      some (Sum.inr (Sum.inr ()))
    else
      some (Sum.inl (IntKind.wrap .i64 (s0 + 1)))
  else
    some (Sum.inr (Sum.inl ()))
def I_ref13_Same_L0 (p0 : (List Int)) (p1 : (List Int)) (s0 : Int) (σ : St) : Prop := σ.get 0 = (.d false (.lst 1 (p0.map eI))) ∧ σ.get 1 = (.d false (.lst 1 (p1.map eI))) ∧ σ.get 5 = (.d true (.int .i64 s0)) ∧ σ.up.length = 0
def J_ref13_Same_L0 (p0 : (List Int)) (p1 : (List Int)) (r : (Unit) ⊕ (Unit)) (e : Ex) (σ' : St) : Prop := (Sum.elim (fun o0 => e = (.exit 0) ∧ σ'.up.length = 0) (fun o1 => e = .ret ∧ σ'.get 4 = (.d true (.bool false)) ∧ σ'.up.length = 0)) r
theorem L_ref13_Same_L0 (p0 : (List Int)) (p1 : (List Int)) {s : Int} {r : (Unit) ⊕ (Unit)} (h : Lp (b_ref13_Same_L0 p0 p1) s = some r) {σ : St} {Q : Ex → St → Prop} (hI : I_ref13_Same_L0 p0 p1 s σ) (hQ : ∀ e σ', J_ref13_Same_L0 p0 p1 r e σ' → Q e σ') : WC env (.loop c_ref13_Same_l1) σ Q :=
  WC_Lp (I_ref13_Same_L0 p0 p1) (J_ref13_Same_L0 p0 p1) (by
    clear h hI hQ
    clear s r σ Q
    intro s0 σ x hI h
    obtain ⟨f0, f1, f2, f3⟩ := hI
    unfold b_ref13_Same_L0 at h
    replace h := itb h; rcases h with ⟨c1, h⟩ | ⟨c1, h⟩
    · replace h := bsome h; obtain ⟨x0, H0, h⟩ := h
      have n0 := idx_n H0; have q0 := idx_q H0; have y0 := idx_x H0
      replace h := bsome h; obtain ⟨x1, H1, h⟩ := h
      have n1 := idx_n H1; have q1 := idx_q H1; have y1 := idx_x H1
      replace h := itb h; rcases h with ⟨c2, h⟩ | ⟨c2, h⟩
      · cases h
        simp only [go_sem, LQ_inr, J_ref13_Same_L0, c_ref13_Same_l1, *]
      · cases h
        simp only [go_sem, LQ_inl, I_ref13_Same_L0, c_ref13_Same_l1, *]
    · cases h
      simp only [go_sem, LQ_inr, J_ref13_Same_L0, c_ref13_Same_l1, *]
) h hI hQ
/-- spiritlevel/spiritlevelref13.Same -/
noncomputable def s_ref13_Same (p0 : (List Int)) (p1 : (List Int)) : Option (Bool) :=
  if ((p0.length : Int) != (p1.length : Int)) = true then
    some false
  else
    (Lp (b_ref13_Same_L0 p0 p1) 0).bind fun x0 =>
    match x0 with
    | .inl x0' =>
      some true
    | .inr x0' =>
      some false
theorem s_ref13_Same_ok {p0 : (List Int)} {p1 : (List Int)} {r : Bool} (h : s_ref13_Same p0 p1 = some r) : Ans env k_ref13_Same [(.d false (.lst 1 (p0.map eI))), (.d false (.lst 1 (p1.map eI)))] (.d true (.bool r)) := by
  unfold s_ref13_Same at h
  unfold Ans
  rw [AtF fn_ref13_Same]
  simp only [n_ref13_Same]
  replace h := itb h; rcases h with ⟨c0, h⟩ | ⟨c0, h⟩
  · cases h
    simp only [go_sem, *]
    exact ⟨_, rfl⟩
  · replace h := bsome h; obtain ⟨x0, H0, h⟩ := h
    try simp only [go_sem, *]
    refine L_ref13_Same_L0 p0 p1 H0 ?_ ?_
    · clear h
      simp only [go_sem, I_ref13_Same_L0, *]
    · intro e τ hJ
      rcases x0 with x0' | x0'
      · obtain ⟨rfl, f0⟩ := hJ
        cases h
        simp only [go_sem, *]
        exact ⟨_, rfl⟩
      · obtain ⟨rfl, f1, f2⟩ := hJ
        cases h
        simp only [go_sem, *]
        exact ⟨_, rfl⟩
noncomputable def b_ref13_SameAll_L0 (p0 : (List (List Int))) (p1 : (List (List Int))) (s0 : Int) : Option ((Int) ⊕ ((Unit) ⊕ (Unit))) :=
  if (decide (s0 < (p0.length : Int))) = true then
    (idx p0 s0).bind fun x0 =>
    (idx p1 s0).bind fun x1 =>
    (s_ref13_Same x0 x1).bind fun r0 =>
    if r0 = true then
      some (Sum.inl (IntKind.wrap .i64 (s0 + 1)))
    else
      some (Sum.inr (Sum.inr ()))
  else
    some (Sum.inr (Sum.inl ()))
def I_ref13_SameAll_L0 (p0 : (List (List Int))) (p1 : (List (List Int))) (s0 : Int) (σ : St) : Prop := σ.get 0 = (.d false (.lst 1 (p0.map (eL 1 eI)))) ∧ σ.get 1 = (.d false (.lst 1 (p1.map (eL 1 eI)))) ∧ σ.get 5 = (.d true (.int .i64 s0)) ∧ σ.up.length = 0
def J_ref13_SameAll_L0 (p0 : (List (List Int))) (p1 : (List (List Int))) (r : (Unit) ⊕ (Unit)) (e : Ex) (σ' : St) : Prop := (Sum.elim (fun o0 => e = (.exit 0) ∧ σ'.up.length = 0) (fun o1 => e = .ret ∧ σ'.get 4 = (.d true (.bool false)) ∧ σ'.up.length = 0)) r
theorem L_ref13_SameAll_L0 (p0 : (List (List Int))) (p1 : (List (List Int))) {s : Int} {r : (Unit) ⊕ (Unit)} (h : Lp (b_ref13_SameAll_L0 p0 p1) s = some r) {σ : St} {Q : Ex → St → Prop} (hI : I_ref13_SameAll_L0 p0 p1 s σ) (hQ : ∀ e σ', J_ref13_SameAll_L0 p0 p1 r e σ' → Q e σ') : WC env (.loop c_ref13_SameAll_l1) σ Q :=
  WC_Lp (I_ref13_SameAll_L0 p0 p1) (J_ref13_SameAll_L0 p0 p1) (by
    clear h hI hQ
    clear s r σ Q
    intro s0 σ x hI h
    obtain ⟨f0, f1, f2, f3⟩ := hI
    unfold b_ref13_SameAll_L0 at h
    replace h := itb h; rcases h with ⟨c1, h⟩ | ⟨c1, h⟩
    · replace h := bsome h; obtain ⟨x0, H0, h⟩ := h
      have n0 := idx_n H0; have q0 := idx_q H0; have y0 := idx_x H0
      replace h := bsome h; obtain ⟨x1, H1, h⟩ := h
      have n1 := idx_n H1; have q1 := idx_q H1; have y1 := idx_x H1
      replace h := bsome h; obtain ⟨r0, H2, h⟩ := h
      have k0 := AtCall_all (s_ref13_Same_ok H2); try dsimp only at k0
      replace h := itb h; rcases h with ⟨c2, h⟩ | ⟨c2, h⟩
      · cases h
        simp only [go_sem, LQ_inl, I_ref13_SameAll_L0, c_ref13_SameAll_l1, *]
      · cases h
        simp only [go_sem, LQ_inr, J_ref13_SameAll_L0, c_ref13_SameAll_l1, *]
    · cases h
      simp only [go_sem, LQ_inr, J_ref13_SameAll_L0, c_ref13_SameAll_l1, *]
) h hI hQ
/-- spiritlevel/spiritlevelref13.SameAll -/
noncomputable def s_ref13_SameAll (p0 : (List (List Int))) (p1 : (List (List Int))) : Option (Bool) :=
  if ((p0.length : Int) != (p1.length : Int)) = true then
    some false
  else
    (Lp (b_ref13_SameAll_L0 p0 p1) 0).bind fun x0 =>
    match x0 with
    | .inl x0' =>
      some true
    | .inr x0' =>
      some false
theorem s_ref13_SameAll_ok {p0 : (List (List Int))} {p1 : (List (List Int))} {r : Bool} (h : s_ref13_SameAll p0 p1 = some r) : Ans env k_ref13_SameAll [(.d false (.lst 1 (p0.map (eL 1 eI)))), (.d false (.lst 1 (p1.map (eL 1 eI))))] (.d true (.bool r)) := by
  unfold s_ref13_SameAll at h
  unfold Ans
  rw [AtF fn_ref13_SameAll]
  simp only [n_ref13_SameAll]
  replace h := itb h; rcases h with ⟨c0, h⟩ | ⟨c0, h⟩
  · cases h
    simp only [go_sem, *]
    exact ⟨_, rfl⟩
  · replace h := bsome h; obtain ⟨x0, H0, h⟩ := h
    try simp only [go_sem, *]
    refine L_ref13_SameAll_L0 p0 p1 H0 ?_ ?_
    · clear h
      simp only [go_sem, I_ref13_SameAll_L0, *]
    · intro e τ hJ
      rcases x0 with x0' | x0'
      · obtain ⟨rfl, f0⟩ := hJ
        cases h
        simp only [go_sem, *]
        exact ⟨_, rfl⟩
      · obtain ⟨rfl, f1, f2⟩ := hJ
        cases h
        simp only [go_sem, *]
        exact ⟨_, rfl⟩
/-- spiritlevel/spiritlevelref22.Same -/
noncomputable def s_ref22_Same (p0 : S_Cnf) (p1 : S_Cnf) : Option (Bool) :=
  (if (p0.Vars == p1.Vars) = true then
      (s_ref13_SameAll p0.Lits p1.Lits).bind fun r0 =>
      if r0 = true then
        (s_ref13_SameAll p0.Clauses p1.Clauses).bind fun r1 =>
        some r1
      else
        some false
    else
      some false).bind fun x0 =>
  some x0
theorem s_ref22_Same_ok {p0 : S_Cnf} {p1 : S_Cnf} {r : Bool} (h : s_ref22_Same p0 p1 = some r) : Ans env k_ref22_Same [(.ag [(.d true (.int .i64 p0.Vars)), (.d false (.lst 1 (p0.Lits.map (eL 1 eI)))), (.d false (.lst 1 (p0.Clauses.map (eL 1 eI))))]), (.ag [(.d true (.int .i64 p1.Vars)), (.d false (.lst 1 (p1.Lits.map (eL 1 eI)))), (.d false (.lst 1 (p1.Clauses.map (eL 1 eI))))])] (.d true (.bool r)) := by
  unfold s_ref22_Same at h
  unfold Ans
  rw [AtF fn_ref22_Same]
  simp only [n_ref22_Same]
  replace h := bsome h; obtain ⟨x0, H0, h⟩ := h
  try simp only [go_sem, *]
  refine WC.mono (Q := fun e σ' => e = .normal ∧ σ'.get 4 = (.d true (.bool x0)) ∧ σ'.up.length = 0) ?_ ?_
  · replace h := H0
    clear H0
    replace h := itb h; rcases h with ⟨c0, h⟩ | ⟨c0, h⟩
    · replace h := bsome h; obtain ⟨r0, H1, h⟩ := h
      have k0 := AtCall_all (s_ref13_SameAll_ok H1); try dsimp only at k0
      replace h := itb h; rcases h with ⟨c1, h⟩ | ⟨c1, h⟩
      · replace h := bsome h; obtain ⟨r1, H2, h⟩ := h
        have k1 := AtCall_all (s_ref13_SameAll_ok H2); try dsimp only at k1
        cases h
        simp only [go_sem, c_ref22_Same_p1, *]
      · cases h
        simp only [go_sem, c_ref22_Same_p1, *]
    · cases h
      simp only [go_sem, c_ref22_Same_p1, *]
  · intro e τ hJ
    obtain ⟨rfl, f0, f1⟩ := hJ
    cases h
    simp only [go_sem, *]
    exact ⟨_, rfl⟩
/-- spiritlevel/spiritlevellaw23.alive -/
noncomputable def s_law23_alive : Option (Bool) :=
  (s_law23_turns ).bind fun r0 =>
  (s_unroll_Of r0 3).bind fun r1 =>
  (s_unroll_Free r0 3).bind fun r2 =>
  (s_unroll_Of (S_Circuit.mk 1 ([(S_Latch.mk 2 0)] : List S_Latch) ([] : List S_And) ([] : List Int) ([] : List Int)) 3).bind fun r3 =>
  (if (r1.2 == 0) = true then
      (s_ref22_Same r1.1 (S_Cnf.mk 0 ([([0, 0] : List Int), ([0, 1] : List Int), ([0, 0] : List Int)] : List (List Int)) ([] : List (List Int)))).bind fun r4 =>
      if r4 = true then
        if (r2.2 == 0) = true then
          (s_ref22_Same r2.1 (S_Cnf.mk 1 ([([0, 2] : List Int), ([0, 3] : List Int), ([0, 2] : List Int)] : List (List Int)) ([] : List (List Int)))).bind fun r5 =>
          if r5 = true then
            if (r3.2 == 0) = true then
              (s_ref22_Same r3.1 (S_Cnf.mk 3 ([([0, 2, 0] : List Int), ([0, 4, 2] : List Int), ([0, 6, 4] : List Int)] : List (List Int)) ([] : List (List Int)))).bind fun r6 =>
              some r6
            else
              some false
          else
            some false
        else
          some false
      else
        some false
    else
      some false).bind fun x0 =>
  some x0
theorem s_law23_alive_ok {r : Bool} (h : s_law23_alive = some r) : Ans env k_law23_alive [] (.d true (.bool r)) := by
  unfold s_law23_alive at h
  unfold Ans
  rw [AtF fn_law23_alive]
  simp only [n_law23_alive]
  replace h := bsome h; obtain ⟨r0, H0, h⟩ := h
  have k0 := AtCall_all (s_law23_turns_ok H0); try dsimp only at k0
  replace h := bsome h; obtain ⟨r1, H1, h⟩ := h
  have k1 := AtCall_all (s_unroll_Of_ok H1); try dsimp only at k1
  replace h := bsome h; obtain ⟨r2, H2, h⟩ := h
  have k3 := AtCall_all (s_unroll_Free_ok H2); try dsimp only at k3
  replace h := bsome h; obtain ⟨r3, H3, h⟩ := h
  have k4 := AtCall_all (s_unroll_Of_ok H3); try dsimp only at k4
  try simp only [List.map_cons, List.map_nil, List.map_append, List.map_set, List.nil_append, List.map_replicate, eI, eU8, eB, eL, eS_Latch, eS_And, eS_Circuit, eS_Cnf, eA4_Int] at k4
  replace h := bsome h; obtain ⟨x0, H4, h⟩ := h
  try simp only [go_sem, *]
  refine WC.mono (Q := fun e σ' => e = .normal ∧ σ'.get 0 = (.d true (.bool x0)) ∧ σ'.up.length = 0) ?_ ?_
  · replace h := H4
    clear H4
    replace h := itb h; rcases h with ⟨c0, h⟩ | ⟨c0, h⟩
    · replace h := bsome h; obtain ⟨r4, H5, h⟩ := h
      have k5 := AtCall_all (s_ref22_Same_ok H5); try dsimp only at k5
      try simp only [List.map_cons, List.map_nil, List.map_append, List.map_set, List.nil_append, List.map_replicate, eI, eU8, eB, eL, eS_Latch, eS_And, eS_Circuit, eS_Cnf, eA4_Int] at k5
      replace h := itb h; rcases h with ⟨c1, h⟩ | ⟨c1, h⟩
      · replace h := itb h; rcases h with ⟨c2, h⟩ | ⟨c2, h⟩
        · replace h := bsome h; obtain ⟨r5, H6, h⟩ := h
          have k6 := AtCall_all (s_ref22_Same_ok H6); try dsimp only at k6
          try simp only [List.map_cons, List.map_nil, List.map_append, List.map_set, List.nil_append, List.map_replicate, eI, eU8, eB, eL, eS_Latch, eS_And, eS_Circuit, eS_Cnf, eA4_Int] at k6
          replace h := itb h; rcases h with ⟨c3, h⟩ | ⟨c3, h⟩
          · replace h := itb h; rcases h with ⟨c4, h⟩ | ⟨c4, h⟩
            · replace h := bsome h; obtain ⟨r6, H7, h⟩ := h
              have k7 := AtCall_all (s_ref22_Same_ok H7); try dsimp only at k7
              try simp only [List.map_cons, List.map_nil, List.map_append, List.map_set, List.nil_append, List.map_replicate, eI, eU8, eB, eL, eS_Latch, eS_And, eS_Circuit, eS_Cnf, eA4_Int] at k7
              cases h
              simp only [go_sem, c_law23_alive_p1, *]
            · cases h
              simp only [go_sem, c_law23_alive_p1, *]
          · cases h
            simp only [go_sem, c_law23_alive_p1, *]
        · cases h
          simp only [go_sem, c_law23_alive_p1, *]
      · cases h
        simp only [go_sem, c_law23_alive_p1, *]
    · cases h
      simp only [go_sem, c_law23_alive_p1, *]
  · intro e τ hJ
    obtain ⟨rfl, f0, f1⟩ := hJ
    cases h
    simp only [go_sem, *]
    exact ⟨_, rfl⟩
/-- spiritlevel/spiritlevelref02.Great -/
def s_ref02_Great (p0 : S_Circuit) : Option (Bool) :=
  (if (decide ((p0.Latches.length : Int) > 60)) = true then
      some true
    else
      if (decide ((p0.Ands.length : Int) > 120)) = true then
        some true
      else
        if (decide ((p0.Bads.length : Int) > 110)) = true then
          some true
        else
          if (decide ((p0.Constraints.length : Int) > 110)) = true then
            some true
          else
            if (decide (p0.Inputs > 40)) = true then
              some (decide (p0.Inputs < 996))
            else
              some false).bind fun x0 =>
  some x0
theorem s_ref02_Great_ok {p0 : S_Circuit} {r : Bool} (h : s_ref02_Great p0 = some r) : Ans env k_ref02_Great [(.ag [(.d true (.int .i64 p0.Inputs)), (.d false (.lst 2 (p0.Latches.map eS_Latch))), (.d false (.lst 2 (p0.Ands.map eS_And))), (.d false (.lst 1 (p0.Bads.map eI))), (.d false (.lst 1 (p0.Constraints.map eI)))])] (.d true (.bool r)) := by
  unfold s_ref02_Great at h
  unfold Ans
  rw [AtF fn_ref02_Great]
  simp only [n_ref02_Great]
  replace h := bsome h; obtain ⟨x0, H0, h⟩ := h
  try simp only [go_sem, *]
  refine WC.mono (Q := fun e σ' => e = .normal ∧ σ'.get 2 = (.d true (.bool x0)) ∧ σ'.up.length = 0) ?_ ?_
  · replace h := H0
    clear H0
    replace h := itb h; rcases h with ⟨c0, h⟩ | ⟨c0, h⟩
    · cases h
      simp only [go_sem, c_ref02_Great_p1, *]
    · replace h := itb h; rcases h with ⟨c1, h⟩ | ⟨c1, h⟩
      · cases h
        simp only [go_sem, c_ref02_Great_p1, *]
      · replace h := itb h; rcases h with ⟨c2, h⟩ | ⟨c2, h⟩
        · cases h
          simp only [go_sem, c_ref02_Great_p1, *]
        · replace h := itb h; rcases h with ⟨c3, h⟩ | ⟨c3, h⟩
          · cases h
            simp only [go_sem, c_ref02_Great_p1, *]
          · replace h := itb h; rcases h with ⟨c4, h⟩ | ⟨c4, h⟩
            · cases h
              simp only [go_sem, c_ref02_Great_p1, *]
            · cases h
              simp only [go_sem, c_ref02_Great_p1, *]
  · intro e τ hJ
    obtain ⟨rfl, f0, f1⟩ := hJ
    cases h
    simp only [go_sem, *]
    exact ⟨_, rfl⟩
/-- spiritlevel/spiritlevelref02.Size -/
def s_ref02_Size (p0 : S_Circuit) : Option (Int) :=
  some (IntKind.wrap .i64 ((IntKind.wrap .i64 (p0.Inputs + (p0.Latches.length : Int))) + (p0.Ands.length : Int)))
theorem s_ref02_Size_ok {p0 : S_Circuit} {r : Int} (h : s_ref02_Size p0 = some r) : Ans env k_ref02_Size [(.ag [(.d true (.int .i64 p0.Inputs)), (.d false (.lst 2 (p0.Latches.map eS_Latch))), (.d false (.lst 2 (p0.Ands.map eS_And))), (.d false (.lst 1 (p0.Bads.map eI))), (.d false (.lst 1 (p0.Constraints.map eI)))])] (.d true (.int .i64 r)) := by
  unfold s_ref02_Size at h
  unfold Ans
  rw [AtF fn_ref02_Size]
  simp only [n_ref02_Size]
  cases h
  simp only [go_sem, *]
  exact ⟨_, rfl⟩
/-- spiritlevel/spiritlevellaw23.great -/
noncomputable def s_law23_great (p0 : S_Circuit) : Option (Bool) :=
  ((s_ref02_Great p0).bind fun r0 =>
    if r0 = true then
      some true
    else
      (s_ref02_Size p0).bind fun r1 =>
      some (decide (r1 > 60))).bind fun x0 =>
  some x0
theorem s_law23_great_ok {p0 : S_Circuit} {r : Bool} (h : s_law23_great p0 = some r) : Ans env k_law23_great [(.ag [(.d true (.int .i64 p0.Inputs)), (.d false (.lst 2 (p0.Latches.map eS_Latch))), (.d false (.lst 2 (p0.Ands.map eS_And))), (.d false (.lst 1 (p0.Bads.map eI))), (.d false (.lst 1 (p0.Constraints.map eI)))])] (.d true (.bool r)) := by
  unfold s_law23_great at h
  unfold Ans
  rw [AtF fn_law23_great]
  simp only [n_law23_great]
  replace h := bsome h; obtain ⟨x0, H0, h⟩ := h
  try simp only [go_sem, *]
  refine WC.mono (Q := fun e σ' => e = .normal ∧ σ'.get 2 = (.d true (.bool x0)) ∧ σ'.up.length = 0) ?_ ?_
  · replace h := H0
    clear H0
    replace h := bsome h; obtain ⟨r0, H1, h⟩ := h
    have k0 := AtCall_all (s_ref02_Great_ok H1); try dsimp only at k0
    replace h := itb h; rcases h with ⟨c0, h⟩ | ⟨c0, h⟩
    · cases h
      simp only [go_sem, c_law23_great_p1, *]
    · replace h := bsome h; obtain ⟨r1, H2, h⟩ := h
      have k1 := AtCall_all (s_ref02_Size_ok H2); try dsimp only at k1
      cases h
      simp only [go_sem, c_law23_great_p1, *]
  · intro e τ hJ
    obtain ⟨rfl, f0, f1⟩ := hJ
    cases h
    simp only [go_sem, *]
    exact ⟨_, rfl⟩
def b_ref02_literals_L0 (p0 : (List Int)) (p1 : Int) (s0 : Int) : Option ((Int) ⊕ ((Unit) ⊕ (Unit))) :=
  if (decide (s0 < (p0.length : Int))) = true then
    ((idx p0 s0).bind fun x1 =>
      if (decide (x1 < 0)) = true then
        some true
      else
        some (decide ((IntKind.wrap .i64 (Int.tdiv x1 2)) > p1))).bind fun x0 =>
    if x0 = true then
      some (Sum.inr (Sum.inr ()))
    else
      some (Sum.inl (IntKind.wrap .i64 (s0 + 1)))
  else
    some (Sum.inr (Sum.inl ()))
def I_ref02_literals_L0 (p0 : (List Int)) (p1 : Int) (s0 : Int) (σ : St) : Prop := σ.get 0 = (.d false (.lst 1 (p0.map eI))) ∧ σ.get 1 = (.d true (.int .i64 p1)) ∧ σ.get 5 = (.d true (.int .i64 s0)) ∧ σ.up.length = 0
def J_ref02_literals_L0 (p0 : (List Int)) (p1 : Int) (r : (Unit) ⊕ (Unit)) (e : Ex) (σ' : St) : Prop := (Sum.elim (fun o0 => e = (.exit 0) ∧ σ'.up.length = 0) (fun o1 => e = .ret ∧ σ'.get 4 = (.d true (.bool false)) ∧ σ'.up.length = 0)) r
theorem L_ref02_literals_L0 (p0 : (List Int)) (p1 : Int) {s : Int} {r : (Unit) ⊕ (Unit)} (h : Lp (b_ref02_literals_L0 p0 p1) s = some r) {σ : St} {Q : Ex → St → Prop} (hI : I_ref02_literals_L0 p0 p1 s σ) (hQ : ∀ e σ', J_ref02_literals_L0 p0 p1 r e σ' → Q e σ') : WC env (.loop c_ref02_literals_l1) σ Q :=
  WC_Lp (I_ref02_literals_L0 p0 p1) (J_ref02_literals_L0 p0 p1) (by
    clear h hI hQ
    clear s r σ Q
    intro s0 σ x hI h
    obtain ⟨f0, f1, f2, f3⟩ := hI
    unfold b_ref02_literals_L0 at h
    replace h := itb h; rcases h with ⟨c0, h⟩ | ⟨c0, h⟩
    · replace h := bsome h; obtain ⟨x0, H0, h⟩ := h
      try simp only [go_sem, c_ref02_literals_l1, *]
      refine WC.mono (Q := fun e σ' => e = .normal ∧ σ'.get 0 = (.d false (.lst 1 (p0.map eI))) ∧ σ'.get 1 = (.d true (.int .i64 p1)) ∧ σ'.get 5 = (.d true (.int .i64 s0)) ∧ σ'.get 25 = (.d true (.bool x0)) ∧ σ'.up.length = 0) ?_ ?_
      · replace h := H0
        clear H0
        replace h := bsome h; obtain ⟨x1, H1, h⟩ := h
        have n0 := idx_n H1; have q0 := idx_q H1; have y0 := idx_x H1
        replace h := itb h; rcases h with ⟨c1, h⟩ | ⟨c1, h⟩
        · cases h
          simp only [go_sem, c_ref02_literals_l1, c_ref02_literals_p1, *]
        · cases h
          simp only [go_sem, c_ref02_literals_l1, c_ref02_literals_p1, *]
      · intro e τ hJ
        obtain ⟨rfl, f4, f5, f6, f7, f8⟩ := hJ
        replace h := itb h; rcases h with ⟨c2, h⟩ | ⟨c2, h⟩
        · cases h
          simp only [go_sem, LQ_inr, J_ref02_literals_L0, c_ref02_literals_l1, *]
        · cases h
          simp only [go_sem, LQ_inl, I_ref02_literals_L0, c_ref02_literals_l1, *]
    · cases h
      simp only [go_sem, LQ_inr, J_ref02_literals_L0, c_ref02_literals_l1, *]
) h hI hQ
/-- spiritlevel/spiritlevelref02.literals -/
noncomputable def s_ref02_literals (p0 : (List Int)) (p1 : Int) : Option (Bool) :=
  (Lp (b_ref02_literals_L0 p0 p1) 0).bind fun x0 =>
  match x0 with
  | .inl x0' =>
    some true
  | .inr x0' =>
    some false
theorem s_ref02_literals_ok {p0 : (List Int)} {p1 : Int} {r : Bool} (h : s_ref02_literals p0 p1 = some r) : Ans env k_ref02_literals [(.d false (.lst 1 (p0.map eI))), (.d true (.int .i64 p1))] (.d true (.bool r)) := by
  unfold s_ref02_literals at h
  unfold Ans
  rw [AtF fn_ref02_literals]
  simp only [n_ref02_literals]
  replace h := bsome h; obtain ⟨x0, H0, h⟩ := h
  try simp only [go_sem, *]
  refine L_ref02_literals_L0 p0 p1 H0 ?_ ?_
  · clear h
    simp only [go_sem, I_ref02_literals_L0, *]
  · intro e τ hJ
    rcases x0 with x0' | x0'
    · obtain ⟨rfl, f0⟩ := hJ
      cases h
      simp only [go_sem, *]
      exact ⟨_, rfl⟩
    · obtain ⟨rfl, f1, f2⟩ := hJ
      cases h
      simp only [go_sem, *]
      exact ⟨_, rfl⟩
end Go.Proofs.Ytbmhmfcjjhjkgaa.Vm
