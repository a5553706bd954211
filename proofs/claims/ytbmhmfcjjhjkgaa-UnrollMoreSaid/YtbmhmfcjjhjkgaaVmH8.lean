/- Walks over the code of functions. Printed. -/
import Derived.Test.YtbmhmfcjjhjkgaaVmH7
namespace Go.Proofs.Ytbmhmfcjjhjkgaa.Vm
open Go
set_option linter.unusedSimpArgs false
set_option linter.unusedVariables false
set_option maxRecDepth 4000
set_option maxHeartbeats 4000000
attribute [local go_sem] WC_skip WC_exit WC_ret WC_seq WC_block WC_cond WC_rg KSeq_normal KSeq_ret KSeq_exit KBlock_normal KBlock_ret KBlock_exit KN_eq KRg_eq KSt_eq KSet_eq KLen_eq KPick_eq KG_eq KCond_eq boolP_d biteC_true biteC_false biteO_true biteO_false WO_nil WO_mv WO_nilr WO_pick WO_bin WO_beq WO_eqs WO_un WO_cvt WO_alloc WO_box WO_load WO_store WO_fad WO_fval WO_ix WO_ixb WO_ixa WO_bld WO_bsl WO_mks WO_slc WO_len WO_mx WO_mn WO_app WO_cpy WO_clr WO_xt WO_fn WO_chk WO_g
  WO_call WO_callv callK KHand KCallv KRes KBack_ret KRet_eq KAns env_fn St.hand St.lend St.lends St.lend1 St.vals St.frz St.frz1 St.rowOf List.foldl_nil List.foldl_cons List.map_cons List.map_nil
  optP_some optP_none
  St.get_set St.obj_set St.get_setObj St.obj_setObj St.get_kill St.obj_kill0 St.obj_killS St.get_ini St.obj_ini0 gt_nil gt_zero gt_succ St.val_t St.val_c
  stl_get stl_obj0 stl_objS stl_upl stv_d stv_dx stv_nil stv_row0 stv_rowS stv_ptr stv_rel0 stv_pd stv_ag stv_tp stv_cl stvs_nil stvs_cons obs_box obs_rw obs_fz
  ret_get ret_obj ret_up ini_objS ini_upl ini_upl0 set_upl kill_upl setObj_upl0 setObj_uplS
  kill_d kill_dx kill_nil kill_row0 kill_rowS kill_ptr0 kill_ptrS kill_rel0 kill_relS kill_pd kill_ag kill_tp kill_cl kills_nil kills_cons obk_box obk_rw obk_fz
  pre step bin_int bin_shr bin_shl beq_bool arith_add arith_sub arith_mul arith_and arith_or arith_xor arith_eql arith_neq arith_lss arith_leq arith_gtr arith_geq arith_quo2 arith_rem2 arith_shr1 arith_shl1 maxOf_two minOf_two un lenOf cellsOf ofCells wid sub? slice_map slice_head slice_full' slice_z slice_c slice_s put St.new zcells St.load St.store Vm.fad St.ix St.slc St.els St.app St.wants St.skip I.dst resVal resVals Z.v Z.t? ofT T.cells V.shift V.shifts V.down V.downs downL chkV eqs eqFlat fill fillT flatFill T.noL T.flat
  dat dat2 dat1 dats1 dats2 Fn.pure
  Option.map_some Option.map_none Option.bind_some List.length_cons List.length_nil List.length_append List.length_set List.length_map List.length_replicate List.map_append List.map_set List.map_replicate List.getElem?_map List.getElem?_cons_zero List.getElem?_cons_succ List.drop_zero List.take_zero List.drop_succ_cons List.take_succ_cons List.take_nil List.drop_nil List.zip_cons_cons List.zip_nil_left List.zip_nil_right List.mapM_cons List.mapM_nil Option.pure_def Option.bind_eq_bind List.all_cons List.all_nil List.append_eq_nil_iff List.cons_ne_nil List.map_eq_nil_iff List.set_cons_zero List.set_cons_succ List.replicate_succ List.replicate_zero
  Nat.reduceEqDiff Nat.reduceLeDiff Nat.reduceAdd Nat.reduceSub Nat.reduceLT Nat.reduceMul Nat.reduceBEq Nat.ble_eq reduceIte reduceCtorEq Nat.add_zero Nat.sub_zero Nat.zero_add and_true true_and and_false false_and and_self or_true true_or false_or or_false if_true if_false Nat.one_ne_zero not_true not_false_eq_true not_false_iff Bool.false_eq_true forall_const true_implies false_implies implies_true BEq.rfl Bool.not_true Bool.not_false Bool.and_true Bool.true_and Bool.and_false Bool.false_and Bool.and_self not_true_eq_false List.nil_append List.append_nil List.cons_append dInt dBool Nat.le_refl Nat.le_add_right St.toT St.toTs ne_eq
  Sum.elim_inl Sum.elim_inr Option.some.injEq Ob.rw.injEq exists_eq2 eI eU8 eU64 eB eL eS_Latch eS_And eS_Circuit eS_Cnf eA4_Int oB0 oB1 oB2 oB3 oB4 oB5 oB6 oB7 oB8 oB9 oB10 oB11 oB12 oB13 c_law23_UnrollTells c_ref23_Asked c_ref23_Free c_ref23_Of fn_law23_great fn_ref02_Check fn_ref22_Same fn_ref23_Asked fn_ref23_Free fn_ref23_Made fn_ref23_Of fn_unroll_Free fn_unroll_Of n_law23_great n_ref02_Check n_ref22_Same n_ref23_Asked n_ref23_Free n_ref23_Made n_ref23_Of n_unroll_Free n_unroll_Of
/-- spiritlevel/spiritlevelref23.Asked -/
noncomputable def s_ref23_Asked (p0 : S_Circuit) (p1 : Int) (p2 : Bool) : Option (S_Cnf × Int) :=
  (s_ref02_Check p0).bind fun r0 =>
  if (r0 != 0) = true then
    some ((S_Cnf.mk 0 ([] : List (List Int)) ([] : List (List Int))), r0)
  else
    (if (decide (p1 < 1)) = true then
        some true
      else
        some (decide (p1 > 100))).bind fun x0 =>
    if x0 = true then
      some ((S_Cnf.mk 0 ([] : List (List Int)) ([] : List (List Int))), 2)
    else
      (s_ref23_Made p0 p1 p2).bind fun r1 =>
      if r1.2 = true then
        some (r1.1, 0)
      else
        some ((S_Cnf.mk 0 ([] : List (List Int)) ([] : List (List Int))), 4)
theorem s_ref23_Asked_ok {p0 : S_Circuit} {p1 : Int} {p2 : Bool} {r : S_Cnf × Int} (h : s_ref23_Asked p0 p1 p2 = some r) : Ans env k_ref23_Asked [(.ag [(.d true (.int .i64 p0.Inputs)), (.d false (.lst 2 (p0.Latches.map eS_Latch))), (.d false (.lst 2 (p0.Ands.map eS_And))), (.d false (.lst 1 (p0.Bads.map eI))), (.d false (.lst 1 (p0.Constraints.map eI)))]), (.d true (.int .i64 p1)), (.d true (.bool p2))] (.tp [(.ag [(.d true (.int .i64 r.1.Vars)), (.d true (.lst 1 (r.1.Lits.map (eL 1 eI)))), (.d true (.lst 1 (r.1.Clauses.map (eL 1 eI))))]), (.d true (.int .i64 r.2))]) := by
  unfold s_ref23_Asked at h
  unfold Ans
  rw [AtF fn_ref23_Asked]
  simp only [n_ref23_Asked]
  replace h := bsome h; obtain ⟨r0, H0, h⟩ := h
  have k0 := AtCall_all (s_ref02_Check_ok H0); try dsimp only at k0
  replace h := itb h; rcases h with ⟨c0, h⟩ | ⟨c0, h⟩
  · cases h
    simp only [go_sem, *]
    exact ⟨_, rfl⟩
  · replace h := bsome h; obtain ⟨x0, H1, h⟩ := h
    try simp only [go_sem, *]
    refine WC.mono (Q := fun e σ' => e = .normal ∧ σ'.get 1 = (.d true (.int .i64 p1)) ∧ σ'.get 2 = (.d true (.bool p2)) ∧ σ'.get 3 = (.ptr 0 0 0) ∧ σ'.get 6 = (.ptr 0 1 0) ∧ σ'.get 22 = (.d true (.bool x0)) ∧ σ'.obj 0 0 = oB0 p0 ∧ σ'.obj 0 1 = oB3 (([] : List (List Int)).length) (([] : List (List Int)).length) ∧ σ'.obj 0 2 = some (.rw 1 (([] : List (List Int)).map (eL 1 eI)) false) ∧ σ'.obj 0 3 = some (.rw 1 (([] : List (List Int)).map (eL 1 eI)) false) ∧ σ'.obj 0 4 = none ∧ σ'.up.length = 0) ?_ ?_
    · replace h := H1
      clear H1
      replace h := itb h; rcases h with ⟨c1, h⟩ | ⟨c1, h⟩
      · cases h
        simp only [go_sem, c_ref23_Asked_p1, *]
      · cases h
        simp only [go_sem, c_ref23_Asked_p1, *]
    · intro e τ hJ
      obtain ⟨rfl, f0, f1, f2, f3, f4, f5, f6, f7, f8, f9, f10⟩ := hJ
      replace h := itb h; rcases h with ⟨c2, h⟩ | ⟨c2, h⟩
      · cases h
        simp only [go_sem, *]
        exact ⟨_, rfl⟩
      · replace h := bsome h; obtain ⟨r1, H2, h⟩ := h
        have k1 := AtCall_all (s_ref23_Made_ok H2); try dsimp only at k1
        replace h := itb h; rcases h with ⟨c3, h⟩ | ⟨c3, h⟩
        · cases h
          simp only [go_sem, *]
          exact ⟨_, rfl⟩
        · cases h
          simp only [go_sem, *]
          exact ⟨_, rfl⟩
/-- spiritlevel/spiritlevelref23.Of -/
noncomputable def s_ref23_Of (p0 : S_Circuit) (p1 : Int) : Option (S_Cnf × Int) :=
  (s_ref23_Asked p0 p1 false).bind fun r0 =>
  some (r0.1, r0.2)
theorem s_ref23_Of_ok {p0 : S_Circuit} {p1 : Int} {r : S_Cnf × Int} (h : s_ref23_Of p0 p1 = some r) : Ans env k_ref23_Of [(.ag [(.d true (.int .i64 p0.Inputs)), (.d false (.lst 2 (p0.Latches.map eS_Latch))), (.d false (.lst 2 (p0.Ands.map eS_And))), (.d false (.lst 1 (p0.Bads.map eI))), (.d false (.lst 1 (p0.Constraints.map eI)))]), (.d true (.int .i64 p1))] (.tp [(.ag [(.d true (.int .i64 r.1.Vars)), (.d true (.lst 1 (r.1.Lits.map (eL 1 eI)))), (.d true (.lst 1 (r.1.Clauses.map (eL 1 eI))))]), (.d true (.int .i64 r.2))]) := by
  unfold s_ref23_Of at h
  unfold Ans
  rw [AtF fn_ref23_Of]
  simp only [n_ref23_Of]
  replace h := bsome h; obtain ⟨r0, H0, h⟩ := h
  have k0 := AtCall_all (s_ref23_Asked_ok H0); try dsimp only at k0
  cases h
  simp only [go_sem, *]
  exact ⟨_, rfl⟩
/-- spiritlevel/spiritlevelref23.Free -/
noncomputable def s_ref23_Free (p0 : S_Circuit) (p1 : Int) : Option (S_Cnf × Int) :=
  (s_ref23_Asked p0 p1 true).bind fun r0 =>
  some (r0.1, r0.2)
theorem s_ref23_Free_ok {p0 : S_Circuit} {p1 : Int} {r : S_Cnf × Int} (h : s_ref23_Free p0 p1 = some r) : Ans env k_ref23_Free [(.ag [(.d true (.int .i64 p0.Inputs)), (.d false (.lst 2 (p0.Latches.map eS_Latch))), (.d false (.lst 2 (p0.Ands.map eS_And))), (.d false (.lst 1 (p0.Bads.map eI))), (.d false (.lst 1 (p0.Constraints.map eI)))]), (.d true (.int .i64 p1))] (.tp [(.ag [(.d true (.int .i64 r.1.Vars)), (.d true (.lst 1 (r.1.Lits.map (eL 1 eI)))), (.d true (.lst 1 (r.1.Clauses.map (eL 1 eI))))]), (.d true (.int .i64 r.2))]) := by
  unfold s_ref23_Free at h
  unfold Ans
  rw [AtF fn_ref23_Free]
  simp only [n_ref23_Free]
  replace h := bsome h; obtain ⟨r0, H0, h⟩ := h
  have k0 := AtCall_all (s_ref23_Asked_ok H0); try dsimp only at k0
  cases h
  simp only [go_sem, *]
  exact ⟨_, rfl⟩
/-- spiritlevel/spiritlevellaw23.UnrollTells -/
noncomputable def s_law23_UnrollTells (p0 : S_Circuit) (p1 : Int) : Option (Bool) :=
  ((s_law23_great p0).bind fun r0 =>
    if r0 = true then
      some true
    else
      if (decide (p1 > 8)) = true then
        some (decide (p1 ≤ 100))
      else
        some false).bind fun x0 =>
  if x0 = true then
    some true
  else
    (s_unroll_Of p0 p1).bind fun r1 =>
    (s_ref23_Of p0 p1).bind fun r2 =>
    (s_unroll_Free p0 p1).bind fun r3 =>
    (s_ref23_Free p0 p1).bind fun r4 =>
    ((s_ref22_Same r1.1 r2.1).bind fun r5 =>
      if r5 = true then
        if (r1.2 == r2.2) = true then
          (s_ref22_Same r3.1 r4.1).bind fun r6 =>
          if r6 = true then
            some (r3.2 == r4.2)
          else
            some false
        else
          some false
      else
        some false).bind fun x1 =>
    some x1
theorem s_law23_UnrollTells_ok {p0 : S_Circuit} {p1 : Int} {r : Bool} (h : s_law23_UnrollTells p0 p1 = some r) : AnsL env k_law23_UnrollTells [(.ag [(.d true (.int .i64 p0.Inputs)), (.d true (.lst 2 (p0.Latches.map eS_Latch))), (.d true (.lst 2 (p0.Ands.map eS_And))), (.d true (.lst 1 (p0.Bads.map eI))), (.d true (.lst 1 (p0.Constraints.map eI)))]), (.d true (.int .i64 p1))] (.d true (.bool r)) := by
  unfold s_law23_UnrollTells at h
  unfold AnsL
  rw [AtF fn_law23_UnrollTells]
  simp only [n_law23_UnrollTells]
  replace h := bsome h; obtain ⟨x0, H0, h⟩ := h
  try simp only [go_sem, *]
  refine WC.mono (Q := fun e σ' => e = .normal ∧ σ'.get 1 = (.d true (.int .i64 p1)) ∧ σ'.get 2 = (.ptr 0 0 0) ∧ σ'.get 22 = (.d true (.bool x0)) ∧ σ'.obj 0 0 = oB7 p0 ∧ σ'.obj 0 1 = none ∧ σ'.obj 0 2 = none ∧ σ'.obj 0 3 = none ∧ σ'.obj 0 4 = none ∧ σ'.up.length = 0) ?_ ?_
  · replace h := H0
    clear H0
    replace h := bsome h; obtain ⟨r0, H1, h⟩ := h
    have k0 := AtCall_all (s_law23_great_ok H1); try dsimp only at k0
    replace h := itb h; rcases h with ⟨c0, h⟩ | ⟨c0, h⟩
    · cases h
      simp only [go_sem, c_law23_UnrollTells_p1, *]
    · replace h := itb h; rcases h with ⟨c1, h⟩ | ⟨c1, h⟩
      · cases h
        simp only [go_sem, c_law23_UnrollTells_p1, *]
      · cases h
        simp only [go_sem, c_law23_UnrollTells_p1, *]
  · intro e τ hJ
    obtain ⟨rfl, f0, f1, f2, f3, f4, f5, f6, f7, f8⟩ := hJ
    replace h := itb h; rcases h with ⟨c2, h⟩ | ⟨c2, h⟩
    · cases h
      simp only [go_sem, KLaw, *]
    · replace h := bsome h; obtain ⟨r1, H2, h⟩ := h
      have k1 := AtCall_all (s_unroll_Of_ok H2); try dsimp only at k1
      replace h := bsome h; obtain ⟨r2, H3, h⟩ := h
      have k2 := AtCall_all (s_ref23_Of_ok H3); try dsimp only at k2
      replace h := bsome h; obtain ⟨r3, H4, h⟩ := h
      have k3 := AtCall_all (s_unroll_Free_ok H4); try dsimp only at k3
      replace h := bsome h; obtain ⟨r4, H5, h⟩ := h
      have k4 := AtCall_all (s_ref23_Free_ok H5); try dsimp only at k4
      replace h := bsome h; obtain ⟨x1, H6, h⟩ := h
      try simp only [go_sem, *]
      refine WC.mono (Q := fun e σ' => e = .normal ∧ σ'.get 4 = (.d true (.bool x1)) ∧ σ'.up.length = 0) ?_ ?_
      · replace h := H6
        clear H6
        replace h := bsome h; obtain ⟨r5, H7, h⟩ := h
        have k5 := AtCall_all (s_ref22_Same_ok H7); try dsimp only at k5
        replace h := itb h; rcases h with ⟨c3, h⟩ | ⟨c3, h⟩
        · replace h := itb h; rcases h with ⟨c4, h⟩ | ⟨c4, h⟩
          · replace h := bsome h; obtain ⟨r6, H8, h⟩ := h
            have k6 := AtCall_all (s_ref22_Same_ok H8); try dsimp only at k6
            replace h := itb h; rcases h with ⟨c5, h⟩ | ⟨c5, h⟩
            · cases h
              simp only [go_sem, c_law23_UnrollTells_p2, *]
            · cases h
              simp only [go_sem, c_law23_UnrollTells_p2, *]
          · cases h
            simp only [go_sem, c_law23_UnrollTells_p2, *]
        · cases h
          simp only [go_sem, c_law23_UnrollTells_p2, *]
      · intro e τ hJ
        obtain ⟨rfl, f9, f10⟩ := hJ
        cases h
        simp only [go_sem, KLaw, *]
end Go.Proofs.Ytbmhmfcjjhjkgaa.Vm
