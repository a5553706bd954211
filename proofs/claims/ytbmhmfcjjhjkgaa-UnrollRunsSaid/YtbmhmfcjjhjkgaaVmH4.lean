/- Walks over the code of functions. Printed. -/
import Derived.Test.YtbmhmfcjjhjkgaaVmH3
namespace Go.Proofs.Ytbmhmfcjjhjkgaa.Vm
open Go
set_option linter.unusedSimpArgs false
set_option linter.unusedVariables false
set_option maxRecDepth 4000
set_option maxHeartbeats 4000000
attribute [local go_sem] WC_skip WC_exit WC_ret WC_seq WC_block WC_cond WC_rg KSeq_normal KSeq_ret KSeq_exit KBlock_normal KBlock_ret KBlock_exit KN_eq KRg_eq KSt_eq KSet_eq KLen_eq KPick_eq KG_eq KCond_eq boolP_d biteC_true biteC_false biteO_true biteO_false WO_nil WO_mv WO_nilr WO_pick WO_bin WO_beq WO_eqs WO_un WO_cvt WO_alloc WO_box WO_load WO_store WO_fad WO_fval WO_ix WO_ixb WO_ixa WO_bld WO_bsl WO_mks WO_slc WO_len WO_mx WO_mn WO_app WO_cpy WO_clr WO_xt WO_fn WO_chk WO_g
 WO_call WO_callv callK KHand KCallv KRes KBack_ret KRet_eq KAns env_fn St.hand St.lend St.lends St.lend1 St.vals St.frz fr1_obj fr1_get fr1_upl frO_rw frO_fz frO_none St.rowOf List.foldl_nil List.foldl_cons List.map_cons List.map_nil
 optP_some optP_none
 St.get_set St.obj_set St.get_setObj St.obj_setObj St.get_kill St.obj_kill0 St.obj_killS St.get_ini St.obj_ini0 gt_nil gt_zero gt_succ St.val_t St.val_c
 stl_get stl_obj0 stl_objS stl_upl stv_d stv_dx stv_nil stv_row0 stv_rowS stv_ptr stv_rel0 stv_pd stv_ag stv_tp stv_cl stvs_nil stvs_cons obs_box obs_rw obs_fz
 ret_get ret_obj ret_up ini_objS ini_upl ini_upl0 set_upl kill_upl setObj_upl0 setObj_uplS
 kill_d kill_dx kill_nil kill_row0 kill_rowS kill_ptr0 kill_ptrS kill_rel0 kill_relS kill_pd kill_ag kill_tp kill_cl kills_nil kills_cons obk_box obk_rw obk_fz
 pre step bin_int bin_shr bin_shl beq_bool arith_add arith_sub arith_mul arith_and arith_or arith_xor arith_eql arith_neq arith_lss arith_leq arith_gtr arith_geq arith_quo2 arith_rem2 arith_shr1 arith_shl1 maxOf_two minOf_two un lenOf cellsOf ofCells wid sub? slice_map slice_head slice_full' slice_z slice_c slice_s put St.new zcells St.load St.store Vm.fad St.ix St.slc St.els St.app St.wants St.skip I.dst resVal resVals Z.v Z.t? ofT T.cells V.shift V.shifts V.down V.downs downL chkV eqs eqFlat fill fillT flatFill T.noL T.flat
 dat dat2 dat1 dats1 dats2 Fn.pure
 Option.map_some Option.map_none Option.bind_some List.length_cons List.length_nil List.length_append List.length_set cpl_length List.length_map List.length_replicate List.map_append List.map_set List.map_replicate List.getElem?_map List.getElem?_cons_zero List.getElem?_cons_succ List.drop_zero List.take_zero List.drop_succ_cons List.take_succ_cons List.take_nil List.drop_nil List.zip_cons_cons List.zip_nil_left List.zip_nil_right List.mapM_cons List.mapM_nil Option.pure_def Option.bind_eq_bind List.all_cons List.all_nil List.append_eq_nil_iff List.cons_ne_nil List.map_eq_nil_iff List.set_cons_zero List.set_cons_succ List.replicate_succ List.replicate_zero
 Nat.reduceEqDiff Nat.reduceLeDiff Nat.reduceAdd Nat.reduceSub Nat.reduceLT Nat.reduceMul Nat.reduceBEq Nat.ble_eq reduceIte reduceCtorEq Nat.add_zero Nat.sub_zero Nat.zero_add and_true true_and and_false false_and and_self or_true true_or false_or or_false if_true if_false Nat.one_ne_zero not_true not_false_eq_true not_false_iff Bool.false_eq_true forall_const true_implies false_implies implies_true BEq.rfl Bool.not_true Bool.not_false Bool.and_true Bool.true_and Bool.and_false Bool.false_and Bool.and_self not_true_eq_false List.nil_append List.append_nil List.cons_append dInt dBool Nat.le_refl Nat.le_add_right St.toT St.toTs ne_eq
 Sum.elim_inl Sum.elim_inr Option.some.injEq Ob.rw.injEq exists_eq2 eI eU8 eU64 eB eL eS_Latch eS_And eS_Circuit eS_Trace eS_Cnf eA4_Int oB0 oB1 oB2 oB3 oB4 oB5 oB6 oB7 oB8 oB9 oB10 oB11 oB12 oB13 oB14 oB15 oB16 oB17 oB18 oB19 at_traces_States_1 at_traces_walk c_clause_Check c_clause_True c_law23_named c_ref13_Check c_ref13_Lit c_ref13_Truth c_ref13_Valid c_ref13_Vars c_ref15_Wrong c_ref22_Check c_ref22_True c_solve_Model c_solve_check c_traces_States c_traces_States_1 c_traces_walk c_tseitin_Check c_unroll_value fn_clause_Check fn_clause_True fn_clause_known fn_ref13_Check fn_ref13_Lit fn_ref13_Truth fn_ref13_Valid fn_ref13_Vars fn_ref15_Wrong fn_ref22_True fn_solve_check fn_traces_Check fn_traces_States_1 fn_traces_walk fn_values_All fn_values_Next fn_values_Props n_clause_Check n_clause_True n_clause_known n_ref13_Check n_ref13_Lit n_ref13_Truth n_ref13_Valid n_ref13_Vars n_ref15_Wrong n_ref22_True n_solve_check n_traces_Check n_traces_States_1 n_traces_walk n_values_All n_values_Next n_values_Props
noncomputable def b_traces_States_L0 (p0 : S_Circuit) (p1 : S_Trace) (s0 : (List (List Bool)) × Int × (List Bool)) : Option (((List (List Bool)) × Int × (List Bool)) ⊕ (((List (List Bool))) ⊕ ((List (List Bool)) × Int))) :=
 if (decide (s0.2.1 < (p1.Inputs.length : Int))) = true then
  (idx p1.Inputs s0.2.1).bind fun x2 =>
  (s_values_Props p0 s0.2.2 x2).bind fun r3 =>
  if (r3.2.2 != 0) = true then
   some (Sum.inr (Sum.inr (s0.1, r3.2.2)))
  else
   if s0.1.length + 1 ≤ big then
    (s_values_Next p0 s0.2.2 x2).bind fun r4 =>
    if (r4.2 != 0) = true then
     some (Sum.inr (Sum.inr ((s0.1 ++ ([s0.2.2] : List (List Bool))), r4.2)))
    else
     some (Sum.inl ((s0.1 ++ ([s0.2.2] : List (List Bool))), (IntKind.wrap .i64 (s0.2.1 + 1)), r4.1))
   else none
 else
  some (Sum.inr (Sum.inl s0.1))
def I_traces_States_L0 (p0 : S_Circuit) (p1 : S_Trace) (s0 : (List (List Bool)) × Int × (List Bool)) (σ : St) : Prop := σ.get 2 = (.cl k_traces_States_1 [(.ptr 1 2 0)]) ∧ σ.get 3 = (.ptr 0 0 0) ∧ σ.get 8 = (.d true (.lst 1 (s0.2.2.map eB))) ∧ σ.get 29 = (.d false (.lst 1 (p1.Inputs.map (eL 1 eB)))) ∧ σ.get 30 = (.d true (.int .i64 (p1.Inputs.length : Int))) ∧ σ.get 31 = (.d true (.int .i64 s0.2.1)) ∧ σ.obj 1 2 = some (.box [(.row 0 3 0 s0.1.length 1)]) ∧ σ.obj 1 3 = some (.rw 1 (s0.1.map (eL 1 eB)) true) ∧ σ.obj 0 0 = oB0 p0 ∧ σ.up.length = 1
def J_traces_States_L0 (p0 : S_Circuit) (p1 : S_Trace) (r : ((List (List Bool))) ⊕ ((List (List Bool)) × Int)) (e : Ex) (σ' : St) : Prop := (Sum.elim (fun o0 => e = (.exit 0) ∧ σ'.obj 1 2 = some (.box [(.row 0 3 0 o0.length 1)]) ∧ σ'.obj 1 3 = some (.rw 1 (o0.map (eL 1 eB)) true) ∧ σ'.up.length = 1) (fun o1 => e = .ret ∧ σ'.get 6 = (.d true (.int .i64 o1.2)) ∧ σ'.obj 1 2 = some (.box [(.row 0 3 0 o1.1.length 1)]) ∧ σ'.obj 1 3 = some (.rw 1 (o1.1.map (eL 1 eB)) true) ∧ σ'.up.length = 1)) r
theorem L_traces_States_L0 (p0 : S_Circuit) (p1 : S_Trace) {s : (List (List Bool)) × Int × (List Bool)} {r : ((List (List Bool))) ⊕ ((List (List Bool)) × Int)} (h : Lp (b_traces_States_L0 p0 p1) s = some r) {σ : St} {Q : Ex → St → Prop} (hI : I_traces_States_L0 p0 p1 s σ) (hQ : ∀ e σ', J_traces_States_L0 p0 p1 r e σ' → Q e σ') : WC env (.loop c_traces_walk_l1) σ Q :=
 WC_Lp (I_traces_States_L0 p0 p1) (J_traces_States_L0 p0 p1) (by
  clear h hI hQ
  clear s r σ Q
  intro s0 σ x hI h
  obtain ⟨f0, f1, f2, f3, f4, f5, f6, f7, f8, f9⟩ := hI
  unfold b_traces_States_L0 at h
  replace h := itb h; rcases h with ⟨c4, h⟩ | ⟨c4, h⟩
  ·replace h := bsome h; obtain ⟨x2, H7, h⟩ := h
   have n1 := idx_n H7; have q1 := idx_q H7; have y1 := idx_x H7
   replace h := bsome h; obtain ⟨r3, H8, h⟩ := h
   have k3 := AtCall_all (s_values_Props_ok H8); try dsimp only at k3
   replace h := itb h; rcases h with ⟨c5, h⟩ | ⟨c5, h⟩
   ·cases h
    simp (maxDischargeDepth := 6) only [go_sem, LQ_inr, J_traces_States_L0, c_traces_walk_l1, c_traces_States_p1, clF_small (f := k_traces_States_1) rfl, clA_small (f := k_traces_States_1) rfl, fnV_small (E := env) (f := k_traces_States_1) fn_traces_States_1 rfl rfl, *]
   ·replace h := need h; obtain ⟨H9, h⟩ := h
    replace h := bsome h; obtain ⟨r4, H10, h⟩ := h
    have k4 := AtCall_all (s_values_Next_ok H10); try dsimp only at k4
    replace h := itb h; rcases h with ⟨c6, h⟩ | ⟨c6, h⟩
    ·cases h
     simp (maxDischargeDepth := 6) only [go_sem, LQ_inr, J_traces_States_L0, c_traces_walk_l1, c_traces_States_p1, clF_small (f := k_traces_States_1) rfl, clA_small (f := k_traces_States_1) rfl, fnV_small (E := env) (f := k_traces_States_1) fn_traces_States_1 rfl rfl, *]
    ·cases h
     simp (maxDischargeDepth := 6) only [go_sem, LQ_inl, I_traces_States_L0, c_traces_walk_l1, c_traces_States_p1, clF_small (f := k_traces_States_1) rfl, clA_small (f := k_traces_States_1) rfl, fnV_small (E := env) (f := k_traces_States_1) fn_traces_States_1 rfl rfl, *]
  ·cases h
   simp (maxDischargeDepth := 6) only [go_sem, LQ_inr, J_traces_States_L0, c_traces_walk_l1, c_traces_States_p1, clF_small (f := k_traces_States_1) rfl, clA_small (f := k_traces_States_1) rfl, fnV_small (E := env) (f := k_traces_States_1) fn_traces_States_1 rfl rfl, *]
) h hI hQ
noncomputable def s_traces_States (p0 : S_Circuit) (p1 : S_Trace) : Option ((List (List Bool)) × Int) :=
 ((s_traces_Check p0 p1).bind fun r0 =>
  if (r0 != 0) = true then
   some (([] : List (List Bool)), r0)
  else
   (mkn (p1.First.length : Int)).bind fun m0 =>
   if (decide (0 < (p1.Inputs.length : Int))) = true then
    (idx p1.Inputs 0).bind fun x1 =>
    (s_values_Props p0 (cpl 0 m0 p1.First (List.replicate m0 false)) x1).bind fun r1 =>
    if (r1.2.2 != 0) = true then
     some (([] : List (List Bool)), r1.2.2)
    else
     if ([] : List (List Bool)).length + 1 ≤ big then
      (s_values_Next p0 (cpl 0 m0 p1.First (List.replicate m0 false)) x1).bind fun r2 =>
      if (r2.2 != 0) = true then
       some (([] ++ ([(cpl 0 m0 p1.First (List.replicate m0 false))] : List (List Bool))), r2.2)
      else
       (Lp (b_traces_States_L0 p0 p1) (([] ++ ([(cpl 0 m0 p1.First (List.replicate m0 false))] : List (List Bool))), (IntKind.wrap .i64 (0 + 1)), r2.1)).bind fun x2 =>
       match x2 with
       | .inl x2' =>
        some (x2', 0)
       | .inr x2' =>
        some (x2'.1, x2'.2)
     else none
   else
    some (([] : List (List Bool)), 0)).bind fun x0 =>
 some (x0.1, x0.2)
theorem s_traces_States_ok {p0 : S_Circuit} {p1 : S_Trace} {r : (List (List Bool)) × Int} (h : s_traces_States p0 p1 = some r) : Ans env k_traces_States [(.ag [(.d true (.int .i64 p0.Inputs)), (.d false (.lst 2 (p0.Latches.map eS_Latch))), (.d false (.lst 2 (p0.Ands.map eS_And))), (.d false (.lst 1 (p0.Bads.map eI))), (.d false (.lst 1 (p0.Constraints.map eI)))]), (.ag [(.d false (.lst 1 (p1.First.map eB))), (.d false (.lst 1 (p1.Inputs.map (eL 1 eB))))])] (.tp [(.d true (.lst 1 (r.1.map (eL 1 eB)))), (.d true (.int .i64 r.2))]) := by
 unfold s_traces_States at h
 unfold Ans
 rw [AtF fn_traces_States]
 simp only [n_traces_States]
 replace h := bsome h; obtain ⟨x0, H0, h⟩ := h
 try simp only [go_sem, *]
 refine WC.mono (Q := fun e σ' => e = .normal ∧ σ'.get 6 = (.ptr 0 2 0) ∧ σ'.get 7 = (.d true (.int .i64 x0.2)) ∧ σ'.obj 0 2 = some (.box [(.row 0 3 0 x0.1.length 1)]) ∧ (∃ gr_0_3, σ'.obj 0 3 = some (.rw 1 (x0.1.map (eL 1 eB)) gr_0_3)) ∧ σ'.up.length = 0) ?_ ?_
 ·replace h := H0
  clear H0
  replace h := bsome h; obtain ⟨r0, H1, h⟩ := h
  have k0 := AtCall_all (s_traces_Check_ok H1); try dsimp only at k0
  replace h := itb h; rcases h with ⟨c0, h⟩ | ⟨c0, h⟩
  ·cases h
   simp only [go_sem, c_traces_States_p1, *]
  ·replace h := bsome h; obtain ⟨m0, H2, h⟩ := h
   have zH2 := bnd_mkn H2
   try simp only [go_sem, c_traces_States_p1, (cpy_row eB p1.First (List.replicate m0 false)), *]
   rw [WC_loop' c_traces_walk_l1.eq_1]
   replace h := itb h; rcases h with ⟨c1, h⟩ | ⟨c1, h⟩
   ·replace h := bsome h; obtain ⟨x1, H3, h⟩ := h
    have n0 := idx_n H3; have q0 := idx_q H3; have y0 := idx_x H3
    simp only [Int.toNat_zero] at n0 q0 y0
    replace h := bsome h; obtain ⟨r1, H4, h⟩ := h
    have k1 := AtCall_all (s_values_Props_ok H4); try dsimp only at k1
    try simp only [List.map_cons, List.map_nil, List.map_append, List.map_set, List.nil_append, List.map_replicate, eI, eU8, eB, eL, eS_Latch, eS_And, eS_Circuit, eS_Trace, eS_Cnf, eA4_Int] at k1
    replace h := itb h; rcases h with ⟨c2, h⟩ | ⟨c2, h⟩
    ·cases h
     simp only [go_sem, c_traces_States_p1, (cpy_row eB p1.First (List.replicate m0 false)), *]
    ·replace h := need h; obtain ⟨H5, h⟩ := h
     try simp only [List.length_cons, List.length_nil, cpl_length, List.length_append, List.length_set, List.length_replicate, Nat.zero_add, Nat.reduceAdd] at H5
     replace h := bsome h; obtain ⟨r2, H6, h⟩ := h
     have k2 := AtCall_all (s_values_Next_ok H6); try dsimp only at k2
     try simp only [List.map_cons, List.map_nil, List.map_append, List.map_set, List.nil_append, List.map_replicate, eI, eU8, eB, eL, eS_Latch, eS_And, eS_Circuit, eS_Trace, eS_Cnf, eA4_Int] at k2
     replace h := itb h; rcases h with ⟨c3, h⟩ | ⟨c3, h⟩
     ·cases h
      simp (maxDischargeDepth := 6) only [go_sem, c_traces_States_p1, clF_small (f := k_traces_States_1) rfl, clA_small (f := k_traces_States_1) rfl, fnV_small (E := env) (f := k_traces_States_1) fn_traces_States_1 rfl rfl, (cpy_row eB p1.First (List.replicate m0 false)), *]
     ·replace h := bsome h; obtain ⟨x2, H7, h⟩ := h
      try simp (maxDischargeDepth := 6) only [go_sem, c_traces_States_p1, clF_small (f := k_traces_States_1) rfl, clA_small (f := k_traces_States_1) rfl, fnV_small (E := env) (f := k_traces_States_1) fn_traces_States_1 rfl rfl, (cpy_row eB p1.First (List.replicate m0 false)), *]
      refine L_traces_States_L0 p0 p1 H7 ?_ ?_
      ·clear h
       simp (maxDischargeDepth := 6) only [go_sem, I_traces_States_L0, c_traces_States_p1, clF_small (f := k_traces_States_1) rfl, clA_small (f := k_traces_States_1) rfl, fnV_small (E := env) (f := k_traces_States_1) fn_traces_States_1 rfl rfl, (cpy_row eB p1.First (List.replicate m0 false)), *]
      ·intro e τ hJ
       rcases x2 with x2' | x2'
       ·obtain ⟨rfl, f0, f1, f2⟩ := hJ
        cases h
        simp (maxDischargeDepth := 6) only [go_sem, c_traces_States_p1, clF_small (f := k_traces_States_1) rfl, clA_small (f := k_traces_States_1) rfl, fnV_small (E := env) (f := k_traces_States_1) fn_traces_States_1 rfl rfl, (cpy_row eB p1.First (List.replicate m0 false)), *]
       ·obtain ⟨rfl, f3, f4, f5, f6⟩ := hJ
        cases h
        simp (maxDischargeDepth := 6) only [go_sem, c_traces_States_p1, clF_small (f := k_traces_States_1) rfl, clA_small (f := k_traces_States_1) rfl, fnV_small (E := env) (f := k_traces_States_1) fn_traces_States_1 rfl rfl, (cpy_row eB p1.First (List.replicate m0 false)), *]
   ·cases h
    simp only [go_sem, c_traces_States_p1, (cpy_row eB p1.First (List.replicate m0 false)), *]
 ·intro e τ hJ
  obtain ⟨rfl, f7, f8, f9, ⟨gr_0_3, f10⟩, f11⟩ := hJ
  cases h
  simp only [go_sem, *]
  exact ⟨_, rfl⟩
def s_ref13_Vars (p0 : Int) : Option (Bool) :=
 (if (decide (p0 ≥ 0)) = true then
   some (decide (p0 ≤ 4000))
  else
   some false).bind fun x0 =>
 some x0
theorem s_ref13_Vars_ok {p0 : Int} {r : Bool} (h : s_ref13_Vars p0 = some r) : Ans env k_ref13_Vars [(.d true (.int .i64 p0))] (.d true (.bool r)) := by
 unfold s_ref13_Vars at h
 unfold Ans
 rw [AtF fn_ref13_Vars]
 simp only [n_ref13_Vars]
 replace h := bsome h; obtain ⟨x0, H0, h⟩ := h
 try simp only [go_sem, *]
 refine WC.mono (Q := fun e σ' => e = .normal ∧ σ'.get 2 = (.d true (.bool x0)) ∧ σ'.up.length = 0) ?_ ?_
 ·replace h := H0
  clear H0
  replace h := itb h; rcases h with ⟨c0, h⟩ | ⟨c0, h⟩
  ·cases h
   simp only [go_sem, c_ref13_Vars_p1, *]
  ·cases h
   simp only [go_sem, c_ref13_Vars_p1, *]
 ·intro e τ hJ
  obtain ⟨rfl, f0, f1⟩ := hJ
  cases h
  simp only [go_sem, *]
  exact ⟨_, rfl⟩
def s_ref13_Lit (p0 : Int) (p1 : Int) : Option (Bool) :=
 (if (decide (p1 ≥ 2)) = true then
   some (decide (p1 ≤ (IntKind.wrap .i64 ((IntKind.wrap .i64 (2 * p0)) + 1))))
  else
   some false).bind fun x0 =>
 some x0
theorem s_ref13_Lit_ok {p0 : Int} {p1 : Int} {r : Bool} (h : s_ref13_Lit p0 p1 = some r) : Ans env k_ref13_Lit [(.d true (.int .i64 p0)), (.d true (.int .i64 p1))] (.d true (.bool r)) := by
 unfold s_ref13_Lit at h
 unfold Ans
 rw [AtF fn_ref13_Lit]
 simp only [n_ref13_Lit]
 replace h := bsome h; obtain ⟨x0, H0, h⟩ := h
 try simp only [go_sem, *]
 refine WC.mono (Q := fun e σ' => e = .normal ∧ σ'.get 4 = (.d true (.bool x0)) ∧ σ'.up.length = 0) ?_ ?_
 ·replace h := H0
  clear H0
  replace h := itb h; rcases h with ⟨c0, h⟩ | ⟨c0, h⟩
  ·cases h
   simp only [go_sem, c_ref13_Lit_p1, *]
  ·cases h
   simp only [go_sem, c_ref13_Lit_p1, *]
 ·intro e τ hJ
  obtain ⟨rfl, f0, f1⟩ := hJ
  cases h
  simp only [go_sem, *]
  exact ⟨_, rfl⟩
noncomputable def b_ref13_Valid_L0 (p0 : Int) (p1 : (List Int)) (s0 : Int) : Option ((Int) ⊕ ((Unit) ⊕ (Unit))) :=
 if (decide (s0 < (p1.length : Int))) = true then
  ((idx p1 s0).bind fun x1 =>
   (s_ref13_Lit p0 x1).bind fun r0 =>
   if r0 = true then
    if (decide (s0 > 0)) = true then
     (idx p1 (IntKind.wrap .i64 (s0 - 1))).bind fun x2 =>
     if (decide ((IntKind.wrap .i64 (x1 - x2)) < 1)) = true then
      some true
     else
      if ((Int.tmod x2 2) == 0) = true then
       some (x1 == (IntKind.wrap .i64 (x2 + 1)))
      else
       some false
    else
     some false
   else
    some true).bind fun x0 =>
  if x0 = true then
   some (Sum.inr (Sum.inr ()))
  else
   some (Sum.inl (IntKind.wrap .i64 (s0 + 1)))
 else
  some (Sum.inr (Sum.inl ()))
def I_ref13_Valid_L0 (p0 : Int) (p1 : (List Int)) (s0 : Int) (σ : St) : Prop := σ.get 0 = (.d true (.int .i64 p0)) ∧ σ.get 1 = (.d false (.lst 1 (p1.map eI))) ∧ σ.get 5 = (.d true (.int .i64 s0)) ∧ σ.up.length = 0
def J_ref13_Valid_L0 (p0 : Int) (p1 : (List Int)) (r : (Unit) ⊕ (Unit)) (e : Ex) (σ' : St) : Prop := (Sum.elim (fun o0 => e = (.exit 0) ∧ σ'.up.length = 0) (fun o1 => e = .ret ∧ σ'.get 4 = (.d true (.bool false)) ∧ σ'.up.length = 0)) r
theorem L_ref13_Valid_L0 (p0 : Int) (p1 : (List Int)) {s : Int} {r : (Unit) ⊕ (Unit)} (h : Lp (b_ref13_Valid_L0 p0 p1) s = some r) {σ : St} {Q : Ex → St → Prop} (hI : I_ref13_Valid_L0 p0 p1 s σ) (hQ : ∀ e σ', J_ref13_Valid_L0 p0 p1 r e σ' → Q e σ') : WC env (.loop c_ref13_Valid_l1) σ Q :=
 WC_Lp (I_ref13_Valid_L0 p0 p1) (J_ref13_Valid_L0 p0 p1) (by
  clear h hI hQ
  clear s r σ Q
  intro s0 σ x hI h
  obtain ⟨f0, f1, f2, f3⟩ := hI
  unfold b_ref13_Valid_L0 at h
  replace h := itb h; rcases h with ⟨c0, h⟩ | ⟨c0, h⟩
  ·replace h := bsome h; obtain ⟨x0, H0, h⟩ := h
   try simp only [go_sem, c_ref13_Valid_l1, *]
   refine WC.mono (Q := fun e σ' => e = .normal ∧ σ'.get 0 = (.d true (.int .i64 p0)) ∧ σ'.get 1 = (.d false (.lst 1 (p1.map eI))) ∧ σ'.get 5 = (.d true (.int .i64 s0)) ∧ σ'.get 61 = (.d true (.bool x0)) ∧ σ'.up.length = 0) ?_ ?_
   ·replace h := H0
    clear H0
    replace h := bsome h; obtain ⟨x1, H1, h⟩ := h
    have n0 := idx_n H1; have q0 := idx_q H1; have y0 := idx_x H1
    replace h := bsome h; obtain ⟨r0, H2, h⟩ := h
    have k0 := AtCall_all (s_ref13_Lit_ok H2); try dsimp only at k0
    replace h := itb h; rcases h with ⟨c1, h⟩ | ⟨c1, h⟩
    ·replace h := itb h; rcases h with ⟨c2, h⟩ | ⟨c2, h⟩
     ·replace h := bsome h; obtain ⟨x2, H3, h⟩ := h
      have n1 := idx_n H3; have q1 := idx_q H3; have y1 := idx_x H3
      replace h := itb h; rcases h with ⟨c3, h⟩ | ⟨c3, h⟩
      ·cases h
       simp only [go_sem, c_ref13_Valid_l1, c_ref13_Valid_p1, *]
      ·replace h := itb h; rcases h with ⟨c4, h⟩ | ⟨c4, h⟩
       ·cases h
        simp only [go_sem, c_ref13_Valid_l1, c_ref13_Valid_p1, *]
       ·cases h
        simp only [go_sem, c_ref13_Valid_l1, c_ref13_Valid_p1, *]
     ·cases h
      simp only [go_sem, c_ref13_Valid_l1, c_ref13_Valid_p1, *]
    ·cases h
     simp only [go_sem, c_ref13_Valid_l1, c_ref13_Valid_p1, *]
   ·intro e τ hJ
    obtain ⟨rfl, f4, f5, f6, f7, f8⟩ := hJ
    replace h := itb h; rcases h with ⟨c5, h⟩ | ⟨c5, h⟩
    ·cases h
     simp only [go_sem, LQ_inr, J_ref13_Valid_L0, c_ref13_Valid_l1, *]
    ·cases h
     simp only [go_sem, LQ_inl, I_ref13_Valid_L0, c_ref13_Valid_l1, *]
  ·cases h
   simp only [go_sem, LQ_inr, J_ref13_Valid_L0, c_ref13_Valid_l1, *]
) h hI hQ
noncomputable def s_ref13_Valid (p0 : Int) (p1 : (List Int)) : Option (Bool) :=
 (Lp (b_ref13_Valid_L0 p0 p1) 0).bind fun x0 =>
 match x0 with
 | .inl x0' =>
  some true
 | .inr x0' =>
  some false
theorem s_ref13_Valid_ok {p0 : Int} {p1 : (List Int)} {r : Bool} (h : s_ref13_Valid p0 p1 = some r) : Ans env k_ref13_Valid [(.d true (.int .i64 p0)), (.d false (.lst 1 (p1.map eI)))] (.d true (.bool r)) := by
 unfold s_ref13_Valid at h
 unfold Ans
 rw [AtF fn_ref13_Valid]
 simp only [n_ref13_Valid]
 replace h := bsome h; obtain ⟨x0, H0, h⟩ := h
 try simp only [go_sem, *]
 refine L_ref13_Valid_L0 p0 p1 H0 ?_ ?_
 ·clear h
  simp only [go_sem, I_ref13_Valid_L0, *]
 ·intro e τ hJ
  rcases x0 with x0' | x0'
  ·obtain ⟨rfl, f0⟩ := hJ
   cases h
   simp only [go_sem, *]
   exact ⟨_, rfl⟩
  ·obtain ⟨rfl, f1, f2⟩ := hJ
   cases h
   simp only [go_sem, *]
   exact ⟨_, rfl⟩
noncomputable def s_ref13_Check (p0 : Int) (p1 : (List Int)) : Option (Int) :=
 (s_ref13_Vars p0).bind fun r0 =>
 if r0 = true then
  (s_ref13_Valid p0 p1).bind fun r1 =>
  if r1 = true then
   some 0
  else
   some 8
 else
  some 2
theorem s_ref13_Check_ok {p0 : Int} {p1 : (List Int)} {r : Int} (h : s_ref13_Check p0 p1 = some r) : Ans env k_ref13_Check [(.d true (.int .i64 p0)), (.d false (.lst 1 (p1.map eI)))] (.d true (.int .i64 r)) := by
 unfold s_ref13_Check at h
 unfold Ans
 rw [AtF fn_ref13_Check]
 simp only [n_ref13_Check]
 replace h := bsome h; obtain ⟨r0, H0, h⟩ := h
 have k0 := AtCall_all (s_ref13_Vars_ok H0); try dsimp only at k0
 replace h := itb h; rcases h with ⟨c0, h⟩ | ⟨c0, h⟩
 ·replace h := bsome h; obtain ⟨r1, H1, h⟩ := h
  have k1 := AtCall_all (s_ref13_Valid_ok H1); try dsimp only at k1
  replace h := itb h; rcases h with ⟨c1, h⟩ | ⟨c1, h⟩
  ·cases h
   simp only [go_sem, *]
   exact ⟨_, rfl⟩
  ·cases h
   simp only [go_sem, *]
   exact ⟨_, rfl⟩
 ·cases h
  simp only [go_sem, *]
  exact ⟨_, rfl⟩
noncomputable def b_ref15_Wrong_L0 (p0 : Int) (p1 : (List (List Int))) (s0 : Int) : Option ((Int) ⊕ ((Unit) ⊕ (Int))) :=
 if (decide (s0 < (p1.length : Int))) = true then
  (idx p1 s0).bind fun x0 =>
  (s_ref13_Check p0 x0).bind fun r0 =>
  if (r0 != 0) = true then
   some (Sum.inr (Sum.inr r0))
  else
   some (Sum.inl (IntKind.wrap .i64 (s0 + 1)))
 else
  some (Sum.inr (Sum.inl ()))
def I_ref15_Wrong_L0 (p0 : Int) (p1 : (List (List Int))) (s0 : Int) (σ : St) : Prop := σ.get 0 = (.d true (.int .i64 p0)) ∧ σ.get 1 = (.d false (.lst 1 (p1.map (eL 1 eI)))) ∧ σ.get 5 = (.d true (.int .i64 s0)) ∧ σ.up.length = 0
def J_ref15_Wrong_L0 (p0 : Int) (p1 : (List (List Int))) (r : (Unit) ⊕ (Int)) (e : Ex) (σ' : St) : Prop := (Sum.elim (fun o0 => e = (.exit 0) ∧ σ'.up.length = 0) (fun o1 => e = .ret ∧ σ'.get 4 = (.d true (.int .i64 o1)) ∧ σ'.up.length = 0)) r
theorem L_ref15_Wrong_L0 (p0 : Int) (p1 : (List (List Int))) {s : Int} {r : (Unit) ⊕ (Int)} (h : Lp (b_ref15_Wrong_L0 p0 p1) s = some r) {σ : St} {Q : Ex → St → Prop} (hI : I_ref15_Wrong_L0 p0 p1 s σ) (hQ : ∀ e σ', J_ref15_Wrong_L0 p0 p1 r e σ' → Q e σ') : WC env (.loop c_ref15_Wrong_l1) σ Q :=
 WC_Lp (I_ref15_Wrong_L0 p0 p1) (J_ref15_Wrong_L0 p0 p1) (by
  clear h hI hQ
  clear s r σ Q
  intro s0 σ x hI h
  obtain ⟨f0, f1, f2, f3⟩ := hI
  unfold b_ref15_Wrong_L0 at h
  replace h := itb h; rcases h with ⟨c1, h⟩ | ⟨c1, h⟩
  ·replace h := bsome h; obtain ⟨x0, H0, h⟩ := h
   have n0 := idx_n H0; have q0 := idx_q H0; have y0 := idx_x H0
   replace h := bsome h; obtain ⟨r0, H1, h⟩ := h
   have k0 := AtCall_all (s_ref13_Check_ok H1); try dsimp only at k0
   replace h := itb h; rcases h with ⟨c2, h⟩ | ⟨c2, h⟩
   ·cases h
    simp only [go_sem, LQ_inr, J_ref15_Wrong_L0, c_ref15_Wrong_l1, *]
   ·cases h
    simp only [go_sem, LQ_inl, I_ref15_Wrong_L0, c_ref15_Wrong_l1, *]
  ·cases h
   simp only [go_sem, LQ_inr, J_ref15_Wrong_L0, c_ref15_Wrong_l1, *]
) h hI hQ
noncomputable def s_ref15_Wrong (p0 : Int) (p1 : (List (List Int))) : Option (Int) :=
 if (decide ((p1.length : Int) > 20000)) = true then
  some 4
 else
  (Lp (b_ref15_Wrong_L0 p0 p1) 0).bind fun x0 =>
  match x0 with
  | .inl x0' =>
   some 0
  | .inr x0' =>
   some x0'
theorem s_ref15_Wrong_ok {p0 : Int} {p1 : (List (List Int))} {r : Int} (h : s_ref15_Wrong p0 p1 = some r) : Ans env k_ref15_Wrong [(.d true (.int .i64 p0)), (.d false (.lst 1 (p1.map (eL 1 eI))))] (.d true (.int .i64 r)) := by
 unfold s_ref15_Wrong at h
 unfold Ans
 rw [AtF fn_ref15_Wrong]
 simp only [n_ref15_Wrong]
 replace h := itb h; rcases h with ⟨c0, h⟩ | ⟨c0, h⟩
 ·cases h
  simp only [go_sem, *]
  exact ⟨_, rfl⟩
 ·replace h := bsome h; obtain ⟨x0, H0, h⟩ := h
  try simp only [go_sem, *]
  refine L_ref15_Wrong_L0 p0 p1 H0 ?_ ?_
  ·clear h
   simp only [go_sem, I_ref15_Wrong_L0, *]
  ·intro e τ hJ
   rcases x0 with x0' | x0'
   ·obtain ⟨rfl, f0⟩ := hJ
    cases h
    simp only [go_sem, *]
    exact ⟨_, rfl⟩
   ·obtain ⟨rfl, f1, f2⟩ := hJ
    cases h
    simp only [go_sem, *]
    exact ⟨_, rfl⟩
def b_ref22_Check_L1 (p0 : S_Cnf) (s0 : Int) (s1 : Int) : Option ((Int) ⊕ ((Unit) ⊕ (Unit))) :=
 (idx p0.Lits s0).bind fun x5 =>
 if (decide (s1 < (x5.length : Int))) = true then
  (idx x5 s1).bind fun x6 =>
  (if (decide (x6 < (-1))) = true then
    some true
   else
    some (decide (x6 > (IntKind.wrap .i64 ((IntKind.wrap .i64 (2 * p0.Vars)) + 1))))).bind fun x7 =>
  if x7 = true then
   some (Sum.inr (Sum.inr ()))
  else
   some (Sum.inl (IntKind.wrap .i64 (s1 + 1)))
 else
  some (Sum.inr (Sum.inl ()))
def I_ref22_Check_L1 (p0 : S_Cnf) (s0 : Int) (s1 : Int) (σ : St) : Prop := σ.get 1 = (.ptr 0 0 0) ∧ σ.get 3 = (.d true (.int .i64 s0)) ∧ σ.get 4 = (.d true (.int .i64 s1)) ∧ σ.obj 0 0 = oB10 p0 ∧ σ.up.length = 0
def J_ref22_Check_L1 (p0 : S_Cnf) (s0 : Int) (r : (Unit) ⊕ (Unit)) (e : Ex) (σ' : St) : Prop := (Sum.elim (fun o0 => e = (.exit 2) ∧ σ'.get 1 = (.ptr 0 0 0) ∧ σ'.get 3 = (.d true (.int .i64 s0)) ∧ σ'.obj 0 0 = oB10 p0 ∧ σ'.up.length = 0) (fun o1 => e = .ret ∧ σ'.get 2 = (.d true (.int .i64 8)) ∧ σ'.up.length = 0)) r
theorem L_ref22_Check_L1 (p0 : S_Cnf) (s0 : Int) {s : Int} {r : (Unit) ⊕ (Unit)} (h : Lp (b_ref22_Check_L1 p0 s0) s = some r) {σ : St} {Q : Ex → St → Prop} (hI : I_ref22_Check_L1 p0 s0 s σ) (hQ : ∀ e σ', J_ref22_Check_L1 p0 s0 r e σ' → Q e σ') : WC env (.loop c_ref22_Check_l1) σ Q :=
 WC_Lp (I_ref22_Check_L1 p0 s0) (J_ref22_Check_L1 p0 s0) (by
  clear h hI hQ
  clear s r σ Q
  intro s1 σ x hI h
  obtain ⟨f13, f14, f15, f16, f17⟩ := hI
  unfold b_ref22_Check_L1 at h
  replace h := bsome h; obtain ⟨x5, H7, h⟩ := h
  have n3 := idx_n H7; have q3 := idx_q H7; have y3 := idx_x H7
  replace h := itb h; rcases h with ⟨c7, h⟩ | ⟨c7, h⟩
  ·replace h := bsome h; obtain ⟨x6, H8, h⟩ := h
   have n4 := idx_n H8; have q4 := idx_q H8; have y4 := idx_x H8
   replace h := bsome h; obtain ⟨x7, H9, h⟩ := h
   try simp only [go_sem, c_ref22_Check_l1, c_ref22_Check_l2, *]
   refine WC.mono (Q := fun e σ' => e = .normal ∧ σ'.get 1 = (.ptr 0 0 0) ∧ σ'.get 3 = (.d true (.int .i64 s0)) ∧ σ'.get 4 = (.d true (.int .i64 s1)) ∧ σ'.get 87 = (.d true (.bool x7)) ∧ σ'.obj 0 0 = oB10 p0 ∧ σ'.up.length = 0) ?_ ?_
   ·replace h := H9
    clear H9
    replace h := itb h; rcases h with ⟨c8, h⟩ | ⟨c8, h⟩
    ·cases h
     simp only [go_sem, c_ref22_Check_l1, c_ref22_Check_l2, c_ref22_Check_p3, *]
    ·cases h
     simp only [go_sem, c_ref22_Check_l1, c_ref22_Check_l2, c_ref22_Check_p3, *]
   ·intro e τ hJ
    obtain ⟨rfl, f18, f19, f20, f21, f22, f23⟩ := hJ
    replace h := itb h; rcases h with ⟨c9, h⟩ | ⟨c9, h⟩
    ·cases h
     simp only [go_sem, LQ_inr, J_ref22_Check_L1, c_ref22_Check_l1, c_ref22_Check_l2, *]
    ·cases h
     simp only [go_sem, LQ_inl, I_ref22_Check_L1, c_ref22_Check_l1, c_ref22_Check_l2, *]
  ·cases h
   simp only [go_sem, LQ_inr, J_ref22_Check_L1, c_ref22_Check_l1, c_ref22_Check_l2, *]
) h hI hQ
noncomputable def b_ref22_Check_L0 (p0 : S_Cnf) (s0 : Int) : Option ((Int) ⊕ ((Unit) ⊕ (Unit))) :=
 if (decide (s0 < (p0.Lits.length : Int))) = true then
  ((idx p0.Lits s0).bind fun x2 =>
   if ((x2.length : Int) == 0) = true then
    some true
   else
    (idx p0.Lits 0).bind fun x3 =>
    if ((x2.length : Int) != (x3.length : Int)) = true then
     some true
    else
     (idx x2 0).bind fun x4 =>
     some (x4 != 0)).bind fun x1 =>
  if x1 = true then
   some (Sum.inr (Sum.inr ()))
  else
   (Lp (b_ref22_Check_L1 p0 s0) 0).bind fun x5 =>
   match x5 with
   | .inl x5' =>
    some (Sum.inl (IntKind.wrap .i64 (s0 + 1)))
   | .inr x5' =>
    some (Sum.inr (Sum.inr ()))
 else
  some (Sum.inr (Sum.inl ()))
def I_ref22_Check_L0 (p0 : S_Cnf) (s0 : Int) (σ : St) : Prop := σ.get 1 = (.ptr 0 0 0) ∧ σ.get 3 = (.d true (.int .i64 s0)) ∧ σ.obj 0 0 = oB10 p0 ∧ σ.up.length = 0
def J_ref22_Check_L0 (p0 : S_Cnf) (r : (Unit) ⊕ (Unit)) (e : Ex) (σ' : St) : Prop := (Sum.elim (fun o0 => e = (.exit 0) ∧ σ'.up.length = 0) (fun o1 => e = .ret ∧ σ'.get 2 = (.d true (.int .i64 8)) ∧ σ'.up.length = 0)) r
theorem L_ref22_Check_L0 (p0 : S_Cnf) {s : Int} {r : (Unit) ⊕ (Unit)} (h : Lp (b_ref22_Check_L0 p0) s = some r) {σ : St} {Q : Ex → St → Prop} (hI : I_ref22_Check_L0 p0 s σ) (hQ : ∀ e σ', J_ref22_Check_L0 p0 r e σ' → Q e σ') : WC env (.loop c_ref22_Check_l2) σ Q :=
 WC_Lp (I_ref22_Check_L0 p0) (J_ref22_Check_L0 p0) (by
  clear h hI hQ
  clear s r σ Q
  intro s0 σ x hI h
  obtain ⟨f4, f5, f6, f7⟩ := hI
  unfold b_ref22_Check_L0 at h
  replace h := itb h; rcases h with ⟨c3, h⟩ | ⟨c3, h⟩
  ·replace h := bsome h; obtain ⟨x1, H3, h⟩ := h
   try simp only [go_sem, c_ref22_Check_l2, *]
   refine WC.mono (Q := fun e σ' => e = .normal ∧ σ'.get 1 = (.ptr 0 0 0) ∧ σ'.get 3 = (.d true (.int .i64 s0)) ∧ σ'.get 59 = (.d true (.bool x1)) ∧ σ'.obj 0 0 = oB10 p0 ∧ σ'.up.length = 0) ?_ ?_
   ·replace h := H3
    clear H3
    replace h := bsome h; obtain ⟨x2, H4, h⟩ := h
    have n0 := idx_n H4; have q0 := idx_q H4; have y0 := idx_x H4
    replace h := itb h; rcases h with ⟨c4, h⟩ | ⟨c4, h⟩
    ·cases h
     simp only [go_sem, c_ref22_Check_l2, c_ref22_Check_p2, *]
    ·replace h := bsome h; obtain ⟨x3, H5, h⟩ := h
     have n1 := idx_n H5; have q1 := idx_q H5; have y1 := idx_x H5
     simp only [Int.toNat_zero] at n1 q1 y1
     replace h := itb h; rcases h with ⟨c5, h⟩ | ⟨c5, h⟩
     ·cases h
      simp only [go_sem, c_ref22_Check_l2, c_ref22_Check_p2, *]
     ·replace h := bsome h; obtain ⟨x4, H6, h⟩ := h
      have n2 := idx_n H6; have q2 := idx_q H6; have y2 := idx_x H6
      simp only [Int.toNat_zero] at n2 q2 y2
      cases h
      simp only [go_sem, c_ref22_Check_l2, c_ref22_Check_p2, *]
   ·intro e τ hJ
    obtain ⟨rfl, f8, f9, f10, f11, f12⟩ := hJ
    replace h := itb h; rcases h with ⟨c6, h⟩ | ⟨c6, h⟩
    ·cases h
     simp only [go_sem, LQ_inr, J_ref22_Check_L0, c_ref22_Check_l2, *]
    ·replace h := bsome h; obtain ⟨x5, H7, h⟩ := h
     try simp only [go_sem, c_ref22_Check_l2, *]
     refine L_ref22_Check_L1 p0 s0 H7 ?_ ?_
     ·clear h
      simp only [go_sem, I_ref22_Check_L1, c_ref22_Check_l2, *]
     ·intro e τ hJ
      rcases x5 with x5' | x5'
      ·obtain ⟨rfl, f13, f14, f15, f16⟩ := hJ
       cases h
       simp only [go_sem, LQ_inl, I_ref22_Check_L0, c_ref22_Check_l2, *]
      ·obtain ⟨rfl, f17, f18⟩ := hJ
       cases h
       simp only [go_sem, LQ_inr, J_ref22_Check_L0, c_ref22_Check_l2, *]
  ·cases h
   simp only [go_sem, LQ_inr, J_ref22_Check_L0, c_ref22_Check_l2, *]
) h hI hQ
noncomputable def s_ref22_Check (p0 : S_Cnf) : Option (Int) :=
 if (decide ((p0.Clauses.length : Int) > 20000)) = true then
  some 4
 else
  ((s_ref13_Vars p0.Vars).bind fun r0 =>
   if r0 = true then
    (s_ref15_Wrong p0.Vars p0.Clauses).bind fun r1 =>
    some (r1 != 0)
   else
    some true).bind fun x0 =>
  if x0 = true then
   some 8
  else
   (Lp (b_ref22_Check_L0 p0) 0).bind fun x1 =>
   match x1 with
   | .inl x1' =>
    some 0
   | .inr x1' =>
    some 8
theorem s_ref22_Check_ok {p0 : S_Cnf} {r : Int} (h : s_ref22_Check p0 = some r) : Ans env k_ref22_Check [(.ag [(.d true (.int .i64 p0.Vars)), (.d false (.lst 1 (p0.Lits.map (eL 1 eI)))), (.d false (.lst 1 (p0.Clauses.map (eL 1 eI))))])] (.d true (.int .i64 r)) := by
 unfold s_ref22_Check at h
 unfold Ans
 rw [AtF fn_ref22_Check]
 simp only [n_ref22_Check]
 replace h := itb h; rcases h with ⟨c0, h⟩ | ⟨c0, h⟩
 ·cases h
  simp only [go_sem, *]
  exact ⟨_, rfl⟩
 ·replace h := bsome h; obtain ⟨x0, H0, h⟩ := h
  try simp only [go_sem, *]
  refine WC.mono (Q := fun e σ' => e = .normal ∧ σ'.get 1 = (.ptr 0 0 0) ∧ σ'.get 21 = (.d true (.bool x0)) ∧ σ'.obj 0 0 = oB10 p0 ∧ σ'.up.length = 0) ?_ ?_
  ·replace h := H0
   clear H0
   replace h := bsome h; obtain ⟨r0, H1, h⟩ := h
   have k0 := AtCall_all (s_ref13_Vars_ok H1); try dsimp only at k0
   replace h := itb h; rcases h with ⟨c1, h⟩ | ⟨c1, h⟩
   ·replace h := bsome h; obtain ⟨r1, H2, h⟩ := h
    have k1 := AtCall_all (s_ref15_Wrong_ok H2); try dsimp only at k1
    cases h
    simp only [go_sem, c_ref22_Check_p1, *]
   ·cases h
    simp only [go_sem, c_ref22_Check_p1, *]
  ·intro e τ hJ
   obtain ⟨rfl, f0, f1, f2, f3⟩ := hJ
   replace h := itb h; rcases h with ⟨c2, h⟩ | ⟨c2, h⟩
   ·cases h
    simp only [go_sem, *]
    exact ⟨_, rfl⟩
   ·replace h := bsome h; obtain ⟨x1, H3, h⟩ := h
    try simp only [go_sem, *]
    refine L_ref22_Check_L0 p0 H3 ?_ ?_
    ·clear h
     simp only [go_sem, I_ref22_Check_L0, *]
    ·intro e τ hJ
     rcases x1 with x1' | x1'
     ·obtain ⟨rfl, f4⟩ := hJ
      cases h
      simp only [go_sem, *]
      exact ⟨_, rfl⟩
     ·obtain ⟨rfl, f5, f6⟩ := hJ
      cases h
      simp only [go_sem, *]
      exact ⟨_, rfl⟩
def s_ref13_Truth (p0 : Int) (p1 : (List Bool)) : Option (Bool) :=
 if ((Int.tmod p0 2) == 1) = true then
  (idx p1 (IntKind.wrap .i64 ((IntKind.wrap .i64 (Int.tdiv p0 2)) - 1))).bind fun x0 =>
  some (!x0)
 else
  (idx p1 (IntKind.wrap .i64 ((IntKind.wrap .i64 (Int.tdiv p0 2)) - 1))).bind fun x1 =>
  some x1
theorem s_ref13_Truth_ok {p0 : Int} {p1 : (List Bool)} {r : Bool} (h : s_ref13_Truth p0 p1 = some r) : Ans env k_ref13_Truth [(.d true (.int .i64 p0)), (.d false (.lst 1 (p1.map eB)))] (.d true (.bool r)) := by
 unfold s_ref13_Truth at h
 unfold Ans
 rw [AtF fn_ref13_Truth]
 simp only [n_ref13_Truth]
 replace h := itb h; rcases h with ⟨c0, h⟩ | ⟨c0, h⟩
 ·replace h := bsome h; obtain ⟨x0, H0, h⟩ := h
  have n0 := idx_n H0; have q0 := idx_q H0; have y0 := idx_x H0
  cases h
  simp only [go_sem, *]
  exact ⟨_, rfl⟩
 ·replace h := bsome h; obtain ⟨x1, H1, h⟩ := h
  have n1 := idx_n H1; have q1 := idx_q H1; have y1 := idx_x H1
  cases h
  simp only [go_sem, *]
  exact ⟨_, rfl⟩
noncomputable def s_ref22_True (p0 : Int) (p1 : (List Bool)) : Option (Bool) :=
 if (decide (p0 < 2)) = true then
  some (p0 == 1)
 else
  (s_ref13_Truth p0 p1).bind fun r0 =>
  some r0
theorem s_ref22_True_ok {p0 : Int} {p1 : (List Bool)} {r : Bool} (h : s_ref22_True p0 p1 = some r) : Ans env k_ref22_True [(.d true (.int .i64 p0)), (.d false (.lst 1 (p1.map eB)))] (.d true (.bool r)) := by
 unfold s_ref22_True at h
 unfold Ans
 rw [AtF fn_ref22_True]
 simp only [n_ref22_True]
 replace h := itb h; rcases h with ⟨c0, h⟩ | ⟨c0, h⟩
 ·cases h
  simp only [go_sem, *]
  exact ⟨_, rfl⟩
 ·replace h := bsome h; obtain ⟨r0, H0, h⟩ := h
  have k0 := AtCall_all (s_ref13_Truth_ok H0); try dsimp only at k0
  cases h
  simp only [go_sem, *]
  exact ⟨_, rfl⟩
noncomputable def b_law23_named_L1 (p0 : S_Circuit) (p1 : S_Cnf) (p2 : (List (List Bool))) (p3 : (List (List Bool))) (s0 : (List Bool) × (List Bool) × Int) (r0 : (List Bool) × Int) (s1 : (List Bool) × (List Bool) × Int) : Option (((List Bool) × (List Bool) × Int) ⊕ (((List Bool) × (List Bool)) ⊕ (Unit))) :=
 if (decide (s1.2.2 < (r0.1.length : Int))) = true then
  (idx p1.Lits s0.2.2).bind fun x4 =>
  (idx x4 s1.2.2).bind fun x5 =>
  ((if (decide (x5 ≥ 2)) = true then
     (idx s1.2.1 (IntKind.wrap .i64 ((IntKind.wrap .i64 (Int.tdiv x5 2)) - 1))).bind fun x8 =>
     some (!x8)
    else
     some false).bind fun x7 =>
   if x7 = true then
    (idx s1.2.1 (IntKind.wrap .i64 ((IntKind.wrap .i64 (Int.tdiv x5 2)) - 1))).bind fun x9 =>
    (idx r0.1 s1.2.2).bind fun x10 =>
    (idx s1.1 (IntKind.wrap .i64 ((IntKind.wrap .i64 (Int.tdiv x5 2)) - 1))).bind fun x11 =>
    some ((s1.1.set (Int.toNat (IntKind.wrap .i64 ((IntKind.wrap .i64 (Int.tdiv x5 2)) - 1))) ((x10 == ((Int.tmod x5 2) == 0)) != false)), (s1.2.1.set (Int.toNat (IntKind.wrap .i64 ((IntKind.wrap .i64 (Int.tdiv x5 2)) - 1))) true))
   else
    some (s1.1, s1.2.1)).bind fun x6 =>
  (if (decide (x5 < 0)) = true then
    some true
   else
    (s_ref22_True x5 x6.1).bind fun r1 =>
    (idx r0.1 s1.2.2).bind fun x13 =>
    some ((r1 == x13) != true)).bind fun x12 =>
  if x12 = true then
   some (Sum.inr (Sum.inr ()))
  else
   some (Sum.inl (x6.1, x6.2, (IntKind.wrap .i64 (s1.2.2 + 1))))
 else
  some (Sum.inr (Sum.inl (s1.1, s1.2.1)))
def I_law23_named_L1 (p0 : S_Circuit) (p1 : S_Cnf) (p2 : (List (List Bool))) (p3 : (List (List Bool))) (s0 : (List Bool) × (List Bool) × Int) (r0 : (List Bool) × Int) (s1 : (List Bool) × (List Bool) × Int) (σ : St) : Prop := σ.get 2 = (.d false (.lst 1 (p2.map (eL 1 eB)))) ∧ σ.get 3 = (.d false (.lst 1 (p3.map (eL 1 eB)))) ∧ σ.get 4 = (.ptr 0 0 0) ∧ σ.get 5 = (.ptr 0 1 0) ∧ σ.get 10 = (.row 0 2 0 s1.1.length 1) ∧ σ.get 11 = (.row 0 3 0 s1.2.1.length 1) ∧ σ.get 12 = (.d true (.int .i64 s0.2.2)) ∧ σ.get 13 = (.d true (.lst 1 (r0.1.map eB))) ∧ σ.get 15 = (.d true (.int .i64 s1.2.2)) ∧ σ.obj 0 0 = oB0 p0 ∧ σ.obj 0 1 = oB10 p1 ∧ σ.obj 0 2 = some (.rw 1 (s1.1.map eB) false) ∧ σ.obj 0 3 = some (.rw 1 (s1.2.1.map eB) false) ∧ σ.up.length = 0
def J_law23_named_L1 (p0 : S_Circuit) (p1 : S_Cnf) (p2 : (List (List Bool))) (p3 : (List (List Bool))) (s0 : (List Bool) × (List Bool) × Int) (r0 : (List Bool) × Int) (r : ((List Bool) × (List Bool)) ⊕ (Unit)) (e : Ex) (σ' : St) : Prop := (Sum.elim (fun o0 => e = (.exit 2) ∧ σ'.get 2 = (.d false (.lst 1 (p2.map (eL 1 eB)))) ∧ σ'.get 3 = (.d false (.lst 1 (p3.map (eL 1 eB)))) ∧ σ'.get 4 = (.ptr 0 0 0) ∧ σ'.get 5 = (.ptr 0 1 0) ∧ σ'.get 10 = (.row 0 2 0 o0.1.length 1) ∧ σ'.get 11 = (.row 0 3 0 o0.2.length 1) ∧ σ'.get 12 = (.d true (.int .i64 s0.2.2)) ∧ σ'.obj 0 0 = oB0 p0 ∧ σ'.obj 0 1 = oB10 p1 ∧ σ'.obj 0 2 = some (.rw 1 (o0.1.map eB) false) ∧ σ'.obj 0 3 = some (.rw 1 (o0.2.map eB) false) ∧ σ'.up.length = 0) (fun o1 => e = .ret ∧ σ'.get 8 = (.nil 1) ∧ σ'.get 9 = (.d true (.bool false)) ∧ σ'.up.length = 0)) r
theorem L_law23_named_L1 (p0 : S_Circuit) (p1 : S_Cnf) (p2 : (List (List Bool))) (p3 : (List (List Bool))) (s0 : (List Bool) × (List Bool) × Int) (r0 : (List Bool) × Int) {s : (List Bool) × (List Bool) × Int} {r : ((List Bool) × (List Bool)) ⊕ (Unit)} (h : Lp (b_law23_named_L1 p0 p1 p2 p3 s0 r0) s = some r) {σ : St} {Q : Ex → St → Prop} (hI : I_law23_named_L1 p0 p1 p2 p3 s0 r0 s σ) (hQ : ∀ e σ', J_law23_named_L1 p0 p1 p2 p3 s0 r0 r e σ' → Q e σ') : WC env (.loop c_law23_named_l1) σ Q :=
 WC_Lp (I_law23_named_L1 p0 p1 p2 p3 s0 r0) (J_law23_named_L1 p0 p1 p2 p3 s0 r0) (by
  clear h hI hQ
  clear s r σ Q
  intro s1 σ x hI h
  obtain ⟨f26, f27, f28, f29, f30, f31, f32, f33, f34, f35, f36, f37, f38, f39⟩ := hI
  unfold b_law23_named_L1 at h
  replace h := itb h; rcases h with ⟨c3, h⟩ | ⟨c3, h⟩
  ·replace h := bsome h; obtain ⟨x4, H6, h⟩ := h
   have n3 := idx_n H6; have q3 := idx_q H6; have y3 := idx_x H6
   replace h := bsome h; obtain ⟨x5, H7, h⟩ := h
   have n4 := idx_n H7; have q4 := idx_q H7; have y4 := idx_x H7
   replace h := bsome h; obtain ⟨x6, H8, h⟩ := h
   try simp only [go_sem, c_law23_named_l1, c_law23_named_l2, *]
   refine WC.mono (Q := fun e σ' => e = .normal ∧ σ'.get 2 = (.d false (.lst 1 (p2.map (eL 1 eB)))) ∧ σ'.get 3 = (.d false (.lst 1 (p3.map (eL 1 eB)))) ∧ σ'.get 4 = (.ptr 0 0 0) ∧ σ'.get 5 = (.ptr 0 1 0) ∧ σ'.get 10 = (.row 0 2 0 x6.1.length 1) ∧ σ'.get 11 = (.row 0 3 0 x6.2.length 1) ∧ σ'.get 12 = (.d true (.int .i64 s0.2.2)) ∧ σ'.get 13 = (.d true (.lst 1 (r0.1.map eB))) ∧ σ'.get 15 = (.d true (.int .i64 s1.2.2)) ∧ σ'.get 16 = (.d true (.int .i64 x5)) ∧ σ'.obj 0 0 = oB0 p0 ∧ σ'.obj 0 1 = oB10 p1 ∧ σ'.obj 0 2 = some (.rw 1 (x6.1.map eB) false) ∧ σ'.obj 0 3 = some (.rw 1 (x6.2.map eB) false) ∧ σ'.up.length = 0) ?_ ?_
   ·replace h := H8
    clear H8
    replace h := bsome h; obtain ⟨x7, H9, h⟩ := h
    try simp only [go_sem, c_law23_named_l1, c_law23_named_l2, c_law23_named_p3, *]
    refine WC.mono (Q := fun e σ' => e = .normal ∧ σ'.get 2 = (.d false (.lst 1 (p2.map (eL 1 eB)))) ∧ σ'.get 3 = (.d false (.lst 1 (p3.map (eL 1 eB)))) ∧ σ'.get 4 = (.ptr 0 0 0) ∧ σ'.get 5 = (.ptr 0 1 0) ∧ σ'.get 10 = (.row 0 2 0 s1.1.length 1) ∧ σ'.get 11 = (.row 0 3 0 s1.2.1.length 1) ∧ σ'.get 12 = (.d true (.int .i64 s0.2.2)) ∧ σ'.get 13 = (.d true (.lst 1 (r0.1.map eB))) ∧ σ'.get 15 = (.d true (.int .i64 s1.2.2)) ∧ σ'.get 16 = (.d true (.int .i64 x5)) ∧ σ'.get 80 = (.d true (.bool x7)) ∧ σ'.obj 0 0 = oB0 p0 ∧ σ'.obj 0 1 = oB10 p1 ∧ σ'.obj 0 2 = some (.rw 1 (s1.1.map eB) false) ∧ σ'.obj 0 3 = some (.rw 1 (s1.2.1.map eB) false) ∧ σ'.up.length = 0) ?_ ?_
    ·replace h := H9
     clear H9
     replace h := itb h; rcases h with ⟨c4, h⟩ | ⟨c4, h⟩
     ·replace h := bsome h; obtain ⟨x8, H10, h⟩ := h
      have n5 := idx_n H10; have q5 := idx_q H10; have y5 := idx_x H10
      cases h
      simp only [go_sem, c_law23_named_l1, c_law23_named_l2, c_law23_named_p3, c_law23_named_p2, *]
     ·cases h
      simp only [go_sem, c_law23_named_l1, c_law23_named_l2, c_law23_named_p3, c_law23_named_p2, *]
    ·intro e τ hJ
     obtain ⟨rfl, f40, f41, f42, f43, f44, f45, f46, f47, f48, f49, f50, f51, f52, f53, f54, f55⟩ := hJ
     replace h := itb h; rcases h with ⟨c5, h⟩ | ⟨c5, h⟩
     ·replace h := bsome h; obtain ⟨x9, H11, h⟩ := h
      have n6 := idx_n H11; have q6 := idx_q H11; have y6 := idx_x H11
      replace h := bsome h; obtain ⟨x10, H12, h⟩ := h
      have n7 := idx_n H12; have q7 := idx_q H12; have y7 := idx_x H12
      replace h := bsome h; obtain ⟨x11, H13, h⟩ := h
      have n8 := idx_n H13; have q8 := idx_q H13; have y8 := idx_x H13
      cases h
      simp only [go_sem, c_law23_named_l1, c_law23_named_l2, c_law23_named_p3, *]
     ·cases h
      simp only [go_sem, c_law23_named_l1, c_law23_named_l2, c_law23_named_p3, *]
   ·intro e τ hJ
    obtain ⟨rfl, f56, f57, f58, f59, f60, f61, f62, f63, f64, f65, f66, f67, f68, f69, f70⟩ := hJ
    replace h := bsome h; obtain ⟨x12, H14, h⟩ := h
    try simp only [go_sem, c_law23_named_l1, c_law23_named_l2, *]
    refine WC.mono (Q := fun e σ' => e = .normal ∧ σ'.get 2 = (.d false (.lst 1 (p2.map (eL 1 eB)))) ∧ σ'.get 3 = (.d false (.lst 1 (p3.map (eL 1 eB)))) ∧ σ'.get 4 = (.ptr 0 0 0) ∧ σ'.get 5 = (.ptr 0 1 0) ∧ σ'.get 10 = (.row 0 2 0 x6.1.length 1) ∧ σ'.get 11 = (.row 0 3 0 x6.2.length 1) ∧ σ'.get 12 = (.d true (.int .i64 s0.2.2)) ∧ σ'.get 13 = (.d true (.lst 1 (r0.1.map eB))) ∧ σ'.get 15 = (.d true (.int .i64 s1.2.2)) ∧ σ'.get 110 = (.d true (.bool x12)) ∧ σ'.obj 0 0 = oB0 p0 ∧ σ'.obj 0 1 = oB10 p1 ∧ σ'.obj 0 2 = some (.rw 1 (x6.1.map eB) false) ∧ σ'.obj 0 3 = some (.rw 1 (x6.2.map eB) false) ∧ σ'.up.length = 0) ?_ ?_
    ·replace h := H14
     clear H14
     replace h := itb h; rcases h with ⟨c6, h⟩ | ⟨c6, h⟩
     ·cases h
      simp only [go_sem, c_law23_named_l1, c_law23_named_l2, c_law23_named_p4, *]
     ·replace h := bsome h; obtain ⟨r1, H15, h⟩ := h
      have k1 := AtCall_all (s_ref22_True_ok H15); try dsimp only at k1
      replace h := bsome h; obtain ⟨x13, H16, h⟩ := h
      have n9 := idx_n H16; have q9 := idx_q H16; have y9 := idx_x H16
      cases h
      simp only [go_sem, c_law23_named_l1, c_law23_named_l2, c_law23_named_p4, *]
    ·intro e τ hJ
     obtain ⟨rfl, f71, f72, f73, f74, f75, f76, f77, f78, f79, f80, f81, f82, f83, f84, f85⟩ := hJ
     replace h := itb h; rcases h with ⟨c7, h⟩ | ⟨c7, h⟩
     ·cases h
      simp only [go_sem, LQ_inr, J_law23_named_L1, c_law23_named_l1, c_law23_named_l2, *]
     ·cases h
      simp only [go_sem, LQ_inl, I_law23_named_L1, c_law23_named_l1, c_law23_named_l2, *]
  ·cases h
   simp only [go_sem, LQ_inr, J_law23_named_L1, c_law23_named_l1, c_law23_named_l2, *]
) h hI hQ
noncomputable def b_law23_named_L0 (p0 : S_Circuit) (p1 : S_Cnf) (p2 : (List (List Bool))) (p3 : (List (List Bool))) (s0 : (List Bool) × (List Bool) × Int) : Option (((List Bool) × (List Bool) × Int) ⊕ (((List Bool)) ⊕ (Unit))) :=
 if (decide (s0.2.2 < (p1.Lits.length : Int))) = true then
  (idx p2 s0.2.2).bind fun x0 =>
  (idx p3 s0.2.2).bind fun x1 =>
  (s_values_All p0 x0 x1).bind fun r0 =>
  (if (r0.2 != 0) = true then
    some true
   else
    (idx p1.Lits s0.2.2).bind fun x3 =>
    some ((r0.1.length : Int) != (x3.length : Int))).bind fun x2 =>
  if x2 = true then
   some (Sum.inr (Sum.inr ()))
  else
   (Lp (b_law23_named_L1 p0 p1 p2 p3 s0 r0) (s0.1, s0.2.1, 0)).bind fun x4 =>
   match x4 with
   | .inl x4' =>
    some (Sum.inl (x4'.1, x4'.2, (IntKind.wrap .i64 (s0.2.2 + 1))))
   | .inr x4' =>
    some (Sum.inr (Sum.inr ()))
 else
  some (Sum.inr (Sum.inl s0.1))
def I_law23_named_L0 (p0 : S_Circuit) (p1 : S_Cnf) (p2 : (List (List Bool))) (p3 : (List (List Bool))) (s0 : (List Bool) × (List Bool) × Int) (σ : St) : Prop := σ.get 2 = (.d false (.lst 1 (p2.map (eL 1 eB)))) ∧ σ.get 3 = (.d false (.lst 1 (p3.map (eL 1 eB)))) ∧ σ.get 4 = (.ptr 0 0 0) ∧ σ.get 5 = (.ptr 0 1 0) ∧ σ.get 10 = (.row 0 2 0 s0.1.length 1) ∧ σ.get 11 = (.row 0 3 0 s0.2.1.length 1) ∧ σ.get 12 = (.d true (.int .i64 s0.2.2)) ∧ σ.obj 0 0 = oB0 p0 ∧ σ.obj 0 1 = oB10 p1 ∧ σ.obj 0 2 = some (.rw 1 (s0.1.map eB) false) ∧ σ.obj 0 3 = some (.rw 1 (s0.2.1.map eB) false) ∧ σ.up.length = 0
def J_law23_named_L0 (p0 : S_Circuit) (p1 : S_Cnf) (p2 : (List (List Bool))) (p3 : (List (List Bool))) (r : ((List Bool)) ⊕ (Unit)) (e : Ex) (σ' : St) : Prop := (Sum.elim (fun o0 => e = (.exit 0) ∧ σ'.get 10 = (.row 0 2 0 o0.length 1) ∧ σ'.obj 0 2 = some (.rw 1 (o0.map eB) false) ∧ σ'.up.length = 0) (fun o1 => e = .ret ∧ σ'.get 8 = (.nil 1) ∧ σ'.get 9 = (.d true (.bool false)) ∧ σ'.up.length = 0)) r
theorem L_law23_named_L0 (p0 : S_Circuit) (p1 : S_Cnf) (p2 : (List (List Bool))) (p3 : (List (List Bool))) {s : (List Bool) × (List Bool) × Int} {r : ((List Bool)) ⊕ (Unit)} (h : Lp (b_law23_named_L0 p0 p1 p2 p3) s = some r) {σ : St} {Q : Ex → St → Prop} (hI : I_law23_named_L0 p0 p1 p2 p3 s σ) (hQ : ∀ e σ', J_law23_named_L0 p0 p1 p2 p3 r e σ' → Q e σ') : WC env (.loop c_law23_named_l2) σ Q :=
 WC_Lp (I_law23_named_L0 p0 p1 p2 p3) (J_law23_named_L0 p0 p1 p2 p3) (by
  clear h hI hQ
  clear s r σ Q
  intro s0 σ x hI h
  obtain ⟨f0, f1, f2, f3, f4, f5, f6, f7, f8, f9, f10, f11⟩ := hI
  unfold b_law23_named_L0 at h
  replace h := itb h; rcases h with ⟨c0, h⟩ | ⟨c0, h⟩
  ·replace h := bsome h; obtain ⟨x0, H1, h⟩ := h
   have n0 := idx_n H1; have q0 := idx_q H1; have y0 := idx_x H1
   replace h := bsome h; obtain ⟨x1, H2, h⟩ := h
   have n1 := idx_n H2; have q1 := idx_q H2; have y1 := idx_x H2
   replace h := bsome h; obtain ⟨r0, H3, h⟩ := h
   have k0 := AtCall_all (s_values_All_ok H3); try dsimp only at k0
   replace h := bsome h; obtain ⟨x2, H4, h⟩ := h
   try simp only [go_sem, c_law23_named_l2, *]
   refine WC.mono (Q := fun e σ' => e = .normal ∧ σ'.get 2 = (.d false (.lst 1 (p2.map (eL 1 eB)))) ∧ σ'.get 3 = (.d false (.lst 1 (p3.map (eL 1 eB)))) ∧ σ'.get 4 = (.ptr 0 0 0) ∧ σ'.get 5 = (.ptr 0 1 0) ∧ σ'.get 10 = (.row 0 2 0 s0.1.length 1) ∧ σ'.get 11 = (.row 0 3 0 s0.2.1.length 1) ∧ σ'.get 12 = (.d true (.int .i64 s0.2.2)) ∧ σ'.get 13 = (.d true (.lst 1 (r0.1.map eB))) ∧ σ'.get 55 = (.d true (.bool x2)) ∧ σ'.obj 0 0 = oB0 p0 ∧ σ'.obj 0 1 = oB10 p1 ∧ σ'.obj 0 2 = some (.rw 1 (s0.1.map eB) false) ∧ σ'.obj 0 3 = some (.rw 1 (s0.2.1.map eB) false) ∧ σ'.up.length = 0) ?_ ?_
   ·replace h := H4
    clear H4
    replace h := itb h; rcases h with ⟨c1, h⟩ | ⟨c1, h⟩
    ·cases h
     simp only [go_sem, c_law23_named_l2, c_law23_named_p1, *]
    ·replace h := bsome h; obtain ⟨x3, H5, h⟩ := h
     have n2 := idx_n H5; have q2 := idx_q H5; have y2 := idx_x H5
     cases h
     simp only [go_sem, c_law23_named_l2, c_law23_named_p1, *]
   ·intro e τ hJ
    obtain ⟨rfl, f12, f13, f14, f15, f16, f17, f18, f19, f20, f21, f22, f23, f24, f25⟩ := hJ
    replace h := itb h; rcases h with ⟨c2, h⟩ | ⟨c2, h⟩
    ·cases h
     simp only [go_sem, LQ_inr, J_law23_named_L0, c_law23_named_l2, *]
    ·replace h := bsome h; obtain ⟨x4, H6, h⟩ := h
     try simp only [go_sem, c_law23_named_l2, *]
     refine L_law23_named_L1 p0 p1 p2 p3 s0 r0 H6 ?_ ?_
     ·clear h
      simp only [go_sem, I_law23_named_L1, c_law23_named_l2, *]
     ·intro e τ hJ
      rcases x4 with x4' | x4'
      ·obtain ⟨rfl, f26, f27, f28, f29, f30, f31, f32, f33, f34, f35, f36, f37⟩ := hJ
       cases h
       simp only [go_sem, LQ_inl, I_law23_named_L0, c_law23_named_l2, *]
      ·obtain ⟨rfl, f38, f39, f40⟩ := hJ
       cases h
       simp only [go_sem, LQ_inr, J_law23_named_L0, c_law23_named_l2, *]
  ·cases h
   simp only [go_sem, LQ_inr, J_law23_named_L0, c_law23_named_l2, *]
) h hI hQ
noncomputable def s_law23_named (p0 : S_Circuit) (p1 : S_Cnf) (p2 : (List (List Bool))) (p3 : (List (List Bool))) : Option ((List Bool) × Bool) :=
 (mkn p1.Vars).bind fun m0 =>
 (Lp (b_law23_named_L0 p0 p1 p2 p3) ((List.replicate m0 false), (List.replicate m0 false), 0)).bind fun x0 =>
 match x0 with
 | .inl x0' =>
  some (x0', true)
 | .inr x0' =>
  some (([] : List Bool), false)
theorem s_law23_named_ok {p0 : S_Circuit} {p1 : S_Cnf} {p2 : (List (List Bool))} {p3 : (List (List Bool))} {r : (List Bool) × Bool} (h : s_law23_named p0 p1 p2 p3 = some r) : Ans env k_law23_named [(.ag [(.d true (.int .i64 p0.Inputs)), (.d false (.lst 2 (p0.Latches.map eS_Latch))), (.d false (.lst 2 (p0.Ands.map eS_And))), (.d false (.lst 1 (p0.Bads.map eI))), (.d false (.lst 1 (p0.Constraints.map eI)))]), (.ag [(.d true (.int .i64 p1.Vars)), (.d false (.lst 1 (p1.Lits.map (eL 1 eI)))), (.d false (.lst 1 (p1.Clauses.map (eL 1 eI))))]), (.d false (.lst 1 (p2.map (eL 1 eB)))), (.d false (.lst 1 (p3.map (eL 1 eB))))] (.tp [(.d true (.lst 1 (r.1.map eB))), (.d true (.bool r.2))]) := by
 unfold s_law23_named at h
 unfold Ans
 rw [AtF fn_law23_named]
 simp only [n_law23_named]
 replace h := bsome h; obtain ⟨m0, H0, h⟩ := h
 have zH0 := bnd_mkn H0
 replace h := bsome h; obtain ⟨x0, H1, h⟩ := h
 try simp only [go_sem, *]
 refine L_law23_named_L0 p0 p1 p2 p3 H1 ?_ ?_
 ·clear h
  simp only [go_sem, I_law23_named_L0, *]
 ·intro e τ hJ
  rcases x0 with x0' | x0'
  ·obtain ⟨rfl, f0, f1, f2⟩ := hJ
   cases h
   simp only [go_sem, *]
   exact ⟨_, rfl⟩
  ·obtain ⟨rfl, f3, f4, f5⟩ := hJ
   cases h
   simp only [go_sem, *]
   exact ⟨_, rfl⟩
noncomputable def b_clause_Check_L0 (p0 : Int) (p1 : (List Int)) (s0 : Int) : Option ((Int) ⊕ ((Unit) ⊕ (Unit))) :=
 if (decide (s0 < (p1.length : Int))) = true then
  (idx p1 s0).bind fun x1 =>
  ((s_clause_known p0 x1).bind fun r0 =>
   if r0 = true then
    if (decide (s0 > 0)) = true then
     (idx p1 (IntKind.wrap .i64 (s0 - 1))).bind fun x3 =>
     if (decide (x1 ≤ x3)) = true then
      some true
     else
      some ((IntKind.wrap .i64 (Int.tdiv x1 2)) == (IntKind.wrap .i64 (Int.tdiv x3 2)))
    else
     some false
   else
    some true).bind fun x2 =>
  if x2 = true then
   some (Sum.inr (Sum.inr ()))
  else
   some (Sum.inl (IntKind.wrap .i64 (s0 + 1)))
 else
  some (Sum.inr (Sum.inl ()))
def I_clause_Check_L0 (p0 : Int) (p1 : (List Int)) (s0 : Int) (σ : St) : Prop := σ.get 0 = (.d true (.int .i64 p0)) ∧ σ.get 1 = (.d false (.lst 1 (p1.map eI))) ∧ σ.get 13 = (.d false (.lst 1 (p1.map eI))) ∧ σ.get 14 = (.d true (.int .i64 (p1.length : Int))) ∧ σ.get 15 = (.d true (.int .i64 s0)) ∧ σ.up.length = 0
def J_clause_Check_L0 (p0 : Int) (p1 : (List Int)) (r : (Unit) ⊕ (Unit)) (e : Ex) (σ' : St) : Prop := (Sum.elim (fun o0 => e = (.exit 0) ∧ σ'.up.length = 0) (fun o1 => e = .ret ∧ σ'.get 4 = (.d true (.int .i64 8)) ∧ σ'.up.length = 0)) r
theorem L_clause_Check_L0 (p0 : Int) (p1 : (List Int)) {s : Int} {r : (Unit) ⊕ (Unit)} (h : Lp (b_clause_Check_L0 p0 p1) s = some r) {σ : St} {Q : Ex → St → Prop} (hI : I_clause_Check_L0 p0 p1 s σ) (hQ : ∀ e σ', J_clause_Check_L0 p0 p1 r e σ' → Q e σ') : WC env (.loop c_clause_Check_l1) σ Q :=
 WC_Lp (I_clause_Check_L0 p0 p1) (J_clause_Check_L0 p0 p1) (by
  clear h hI hQ
  clear s r σ Q
  intro s0 σ x hI h
  obtain ⟨f4, f5, f6, f7, f8, f9⟩ := hI
  unfold b_clause_Check_L0 at h
  replace h := itb h; rcases h with ⟨c2, h⟩ | ⟨c2, h⟩
  ·replace h := bsome h; obtain ⟨x1, H1, h⟩ := h
   have n0 := idx_n H1; have q0 := idx_q H1; have y0 := idx_x H1
   replace h := bsome h; obtain ⟨x2, H2, h⟩ := h
   try simp only [go_sem, c_clause_Check_l1, *]
   refine WC.mono (Q := fun e σ' => e = .normal ∧ σ'.get 0 = (.d true (.int .i64 p0)) ∧ σ'.get 1 = (.d false (.lst 1 (p1.map eI))) ∧ σ'.get 13 = (.d false (.lst 1 (p1.map eI))) ∧ σ'.get 14 = (.d true (.int .i64 (p1.length : Int))) ∧ σ'.get 15 = (.d true (.int .i64 s0)) ∧ σ'.get 47 = (.d true (.bool x2)) ∧ σ'.up.length = 0) ?_ ?_
   ·replace h := H2
    clear H2
    replace h := bsome h; obtain ⟨r0, H3, h⟩ := h
    have k0 := AtCall_all (s_clause_known_ok H3); try dsimp only at k0
    replace h := itb h; rcases h with ⟨c3, h⟩ | ⟨c3, h⟩
    ·replace h := itb h; rcases h with ⟨c4, h⟩ | ⟨c4, h⟩
     ·replace h := bsome h; obtain ⟨x3, H4, h⟩ := h
      have n1 := idx_n H4; have q1 := idx_q H4; have y1 := idx_x H4
      replace h := itb h; rcases h with ⟨c5, h⟩ | ⟨c5, h⟩
      ·cases h
       simp only [go_sem, c_clause_Check_l1, c_clause_Check_p2, *]
      ·cases h
       simp only [go_sem, c_clause_Check_l1, c_clause_Check_p2, *]
     ·cases h
      simp only [go_sem, c_clause_Check_l1, c_clause_Check_p2, *]
    ·cases h
     simp only [go_sem, c_clause_Check_l1, c_clause_Check_p2, *]
   ·intro e τ hJ
    obtain ⟨rfl, f10, f11, f12, f13, f14, f15, f16⟩ := hJ
    replace h := itb h; rcases h with ⟨c6, h⟩ | ⟨c6, h⟩
    ·cases h
     simp only [go_sem, LQ_inr, J_clause_Check_L0, c_clause_Check_l1, *]
    ·cases h
     simp only [go_sem, LQ_inl, I_clause_Check_L0, c_clause_Check_l1, *]
  ·cases h
   simp only [go_sem, LQ_inr, J_clause_Check_L0, c_clause_Check_l1, *]
) h hI hQ
noncomputable def s_clause_Check (p0 : Int) (p1 : (List Int)) : Option (Int) :=
 (if (decide (p0 < 0)) = true then
   some true
  else
   some (decide (p0 > 4000))).bind fun x0 =>
 if x0 = true then
  some 2
 else
  (Lp (b_clause_Check_L0 p0 p1) 0).bind fun x1 =>
  match x1 with
  | .inl x1' =>
   some 0
  | .inr x1' =>
   some 8
theorem s_clause_Check_ok {p0 : Int} {p1 : (List Int)} {r : Int} (h : s_clause_Check p0 p1 = some r) : Ans env k_clause_Check [(.d true (.int .i64 p0)), (.d false (.lst 1 (p1.map eI)))] (.d true (.int .i64 r)) := by
 unfold s_clause_Check at h
 unfold Ans
 rw [AtF fn_clause_Check]
 simp only [n_clause_Check]
 replace h := bsome h; obtain ⟨x0, H0, h⟩ := h
 try simp only [go_sem, *]
 refine WC.mono (Q := fun e σ' => e = .normal ∧ σ'.get 0 = (.d true (.int .i64 p0)) ∧ σ'.get 1 = (.d false (.lst 1 (p1.map eI))) ∧ σ'.get 12 = (.d true (.bool x0)) ∧ σ'.up.length = 0) ?_ ?_
 ·replace h := H0
  clear H0
  replace h := itb h; rcases h with ⟨c0, h⟩ | ⟨c0, h⟩
  ·cases h
   simp only [go_sem, c_clause_Check_p1, *]
  ·cases h
   simp only [go_sem, c_clause_Check_p1, *]
 ·intro e τ hJ
  obtain ⟨rfl, f0, f1, f2, f3⟩ := hJ
  replace h := itb h; rcases h with ⟨c1, h⟩ | ⟨c1, h⟩
  ·cases h
   simp only [go_sem, *]
   exact ⟨_, rfl⟩
  ·replace h := bsome h; obtain ⟨x1, H1, h⟩ := h
   try simp only [go_sem, *]
   refine L_clause_Check_L0 p0 p1 H1 ?_ ?_
   ·clear h
    simp only [go_sem, I_clause_Check_L0, *]
   ·intro e τ hJ
    rcases x1 with x1' | x1'
    ·obtain ⟨rfl, f4⟩ := hJ
     cases h
     simp only [go_sem, *]
     exact ⟨_, rfl⟩
    ·obtain ⟨rfl, f5, f6⟩ := hJ
     cases h
     simp only [go_sem, *]
     exact ⟨_, rfl⟩
noncomputable def b_solve_check_L0 (p0 : Int) (p1 : (List (List Int))) (s0 : Int) : Option ((Int) ⊕ ((Unit) ⊕ (Unit))) :=
 if (decide (s0 < (p1.length : Int))) = true then
  (idx p1 s0).bind fun x0 =>
  (s_clause_Check p0 x0).bind fun r0 =>
  if (r0 != 0) = true then
   some (Sum.inr (Sum.inr ()))
  else
   some (Sum.inl (IntKind.wrap .i64 (s0 + 1)))
 else
  some (Sum.inr (Sum.inl ()))
def I_solve_check_L0 (p0 : Int) (p1 : (List (List Int))) (s0 : Int) (σ : St) : Prop := σ.get 0 = (.d true (.int .i64 p0)) ∧ σ.get 10 = (.d false (.lst 1 (p1.map (eL 1 eI)))) ∧ σ.get 11 = (.d true (.int .i64 (p1.length : Int))) ∧ σ.get 12 = (.d true (.int .i64 s0)) ∧ σ.up.length = 0
def J_solve_check_L0 (p0 : Int) (p1 : (List (List Int))) (r : (Unit) ⊕ (Unit)) (e : Ex) (σ' : St) : Prop := (Sum.elim (fun o0 => e = (.exit 0) ∧ σ'.up.length = 0) (fun o1 => e = .ret ∧ σ'.get 4 = (.d true (.int .i64 8)) ∧ σ'.up.length = 0)) r
theorem L_solve_check_L0 (p0 : Int) (p1 : (List (List Int))) {s : Int} {r : (Unit) ⊕ (Unit)} (h : Lp (b_solve_check_L0 p0 p1) s = some r) {σ : St} {Q : Ex → St → Prop} (hI : I_solve_check_L0 p0 p1 s σ) (hQ : ∀ e σ', J_solve_check_L0 p0 p1 r e σ' → Q e σ') : WC env (.loop c_solve_check_l1) σ Q :=
 WC_Lp (I_solve_check_L0 p0 p1) (J_solve_check_L0 p0 p1) (by
  clear h hI hQ
  clear s r σ Q
  intro s0 σ x hI h
  obtain ⟨f0, f1, f2, f3, f4⟩ := hI
  unfold b_solve_check_L0 at h
  replace h := itb h; rcases h with ⟨c1, h⟩ | ⟨c1, h⟩
  ·replace h := bsome h; obtain ⟨x0, H0, h⟩ := h
   have n0 := idx_n H0; have q0 := idx_q H0; have y0 := idx_x H0
   replace h := bsome h; obtain ⟨r0, H1, h⟩ := h
   have k0 := AtCall_all (s_clause_Check_ok H1); try dsimp only at k0
   replace h := itb h; rcases h with ⟨c2, h⟩ | ⟨c2, h⟩
   ·cases h
    simp only [go_sem, LQ_inr, J_solve_check_L0, c_solve_check_l1, *]
   ·cases h
    simp only [go_sem, LQ_inl, I_solve_check_L0, c_solve_check_l1, *]
  ·cases h
   simp only [go_sem, LQ_inr, J_solve_check_L0, c_solve_check_l1, *]
) h hI hQ
noncomputable def s_solve_check (p0 : Int) (p1 : (List (List Int))) : Option (Int) :=
 if (decide ((p1.length : Int) > 20000)) = true then
  some 4
 else
  (Lp (b_solve_check_L0 p0 p1) 0).bind fun x0 =>
  match x0 with
  | .inl x0' =>
   some 0
  | .inr x0' =>
   some 8
theorem s_solve_check_ok {p0 : Int} {p1 : (List (List Int))} {r : Int} (h : s_solve_check p0 p1 = some r) : Ans env k_solve_check [(.d true (.int .i64 p0)), (.d false (.lst 1 (p1.map (eL 1 eI))))] (.d true (.int .i64 r)) := by
 unfold s_solve_check at h
 unfold Ans
 rw [AtF fn_solve_check]
 simp only [n_solve_check]
 replace h := itb h; rcases h with ⟨c0, h⟩ | ⟨c0, h⟩
 ·cases h
  simp only [go_sem, *]
  exact ⟨_, rfl⟩
 ·replace h := bsome h; obtain ⟨x0, H0, h⟩ := h
  try simp only [go_sem, *]
  refine L_solve_check_L0 p0 p1 H0 ?_ ?_
  ·clear h
   simp only [go_sem, I_solve_check_L0, *]
  ·intro e τ hJ
   rcases x0 with x0' | x0'
   ·obtain ⟨rfl, f0⟩ := hJ
    cases h
    simp only [go_sem, *]
    exact ⟨_, rfl⟩
   ·obtain ⟨rfl, f1, f2⟩ := hJ
    cases h
    simp only [go_sem, *]
    exact ⟨_, rfl⟩
def b_clause_True_L0 (p0 : (List Int)) (p1 : (List Bool)) (s0 : Int) : Option ((Int) ⊕ ((Unit) ⊕ (Unit))) :=
 if (decide (s0 < (p0.length : Int))) = true then
  (idx p0 s0).bind fun x0 =>
  (idx p1 (IntKind.wrap .i64 ((IntKind.wrap .i64 (Int.tdiv x0 2)) - 1))).bind fun x1 =>
  if ((x1 == ((Int.tmod x0 2) == 0)) != false) = true then
   some (Sum.inr (Sum.inr ()))
  else
   some (Sum.inl (IntKind.wrap .i64 (s0 + 1)))
 else
  some (Sum.inr (Sum.inl ()))
def I_clause_True_L0 (p0 : (List Int)) (p1 : (List Bool)) (s0 : Int) (σ : St) : Prop := σ.get 1 = (.d false (.lst 1 (p1.map eB))) ∧ σ.get 16 = (.d false (.lst 1 (p0.map eI))) ∧ σ.get 17 = (.d true (.int .i64 (p0.length : Int))) ∧ σ.get 18 = (.d true (.int .i64 s0)) ∧ σ.up.length = 0
def J_clause_True_L0 (p0 : (List Int)) (p1 : (List Bool)) (r : (Unit) ⊕ (Unit)) (e : Ex) (σ' : St) : Prop := (Sum.elim (fun o0 => e = (.exit 0) ∧ σ'.up.length = 0) (fun o1 => e = .ret ∧ σ'.get 4 = (.d true (.bool true)) ∧ σ'.get 5 = (.d true (.int .i64 0)) ∧ σ'.up.length = 0)) r
theorem L_clause_True_L0 (p0 : (List Int)) (p1 : (List Bool)) {s : Int} {r : (Unit) ⊕ (Unit)} (h : Lp (b_clause_True_L0 p0 p1) s = some r) {σ : St} {Q : Ex → St → Prop} (hI : I_clause_True_L0 p0 p1 s σ) (hQ : ∀ e σ', J_clause_True_L0 p0 p1 r e σ' → Q e σ') : WC env (.loop c_clause_True_l1) σ Q :=
 WC_Lp (I_clause_True_L0 p0 p1) (J_clause_True_L0 p0 p1) (by
  clear h hI hQ
  clear s r σ Q
  intro s0 σ x hI h
  obtain ⟨f0, f1, f2, f3, f4⟩ := hI
  unfold b_clause_True_L0 at h
  replace h := itb h; rcases h with ⟨c1, h⟩ | ⟨c1, h⟩
  ·replace h := bsome h; obtain ⟨x0, H1, h⟩ := h
   have n0 := idx_n H1; have q0 := idx_q H1; have y0 := idx_x H1
   replace h := bsome h; obtain ⟨x1, H2, h⟩ := h
   have n1 := idx_n H2; have q1 := idx_q H2; have y1 := idx_x H2
   replace h := itb h; rcases h with ⟨c2, h⟩ | ⟨c2, h⟩
   ·cases h
    simp only [go_sem, LQ_inr, J_clause_True_L0, c_clause_True_l1, *]
   ·cases h
    simp only [go_sem, LQ_inl, I_clause_True_L0, c_clause_True_l1, *]
  ·cases h
   simp only [go_sem, LQ_inr, J_clause_True_L0, c_clause_True_l1, *]
) h hI hQ
noncomputable def s_clause_True (p0 : (List Int)) (p1 : (List Bool)) : Option (Bool × Int) :=
 (s_clause_Check (p1.length : Int) p0).bind fun r0 =>
 if (r0 != 0) = true then
  some (false, r0)
 else
  (Lp (b_clause_True_L0 p0 p1) 0).bind fun x0 =>
  match x0 with
  | .inl x0' =>
   some (false, 0)
  | .inr x0' =>
   some (true, 0)
theorem s_clause_True_ok {p0 : (List Int)} {p1 : (List Bool)} {r : Bool × Int} (h : s_clause_True p0 p1 = some r) : Ans env k_clause_True [(.d false (.lst 1 (p0.map eI))), (.d false (.lst 1 (p1.map eB)))] (.tp [(.d true (.bool r.1)), (.d true (.int .i64 r.2))]) := by
 unfold s_clause_True at h
 unfold Ans
 rw [AtF fn_clause_True]
 simp only [n_clause_True]
 replace h := bsome h; obtain ⟨r0, H0, h⟩ := h
 have k0 := AtCall_all (s_clause_Check_ok H0); try dsimp only at k0
 replace h := itb h; rcases h with ⟨c0, h⟩ | ⟨c0, h⟩
 ·cases h
  simp only [go_sem, *]
  exact ⟨_, rfl⟩
 ·replace h := bsome h; obtain ⟨x0, H1, h⟩ := h
  try simp only [go_sem, *]
  refine L_clause_True_L0 p0 p1 H1 ?_ ?_
  ·clear h
   simp only [go_sem, I_clause_True_L0, *]
  ·intro e τ hJ
   rcases x0 with x0' | x0'
   ·obtain ⟨rfl, f0⟩ := hJ
    cases h
    simp only [go_sem, *]
    exact ⟨_, rfl⟩
   ·obtain ⟨rfl, f1, f2, f3⟩ := hJ
    cases h
    simp only [go_sem, *]
    exact ⟨_, rfl⟩
noncomputable def b_solve_Model_L0 (p1 : (List (List Int))) (p2 : (List Bool)) (s0 : Int) : Option ((Int) ⊕ ((Unit) ⊕ (Int))) :=
 if (decide (s0 < (p1.length : Int))) = true then
  (idx p1 s0).bind fun x1 =>
  (s_clause_True x1 p2).bind fun r1 =>
  (if (r1.2 != 0) = true then
    some true
   else
    some (!r1.1)).bind fun x2 =>
  if x2 = true then
   some (Sum.inr (Sum.inr r1.2))
  else
   some (Sum.inl (IntKind.wrap .i64 (s0 + 1)))
 else
  some (Sum.inr (Sum.inl ()))
def I_solve_Model_L0 (p1 : (List (List Int))) (p2 : (List Bool)) (s0 : Int) (σ : St) : Prop := σ.get 2 = (.d false (.lst 1 (p2.map eB))) ∧ σ.get 31 = (.d false (.lst 1 (p1.map (eL 1 eI)))) ∧ σ.get 32 = (.d true (.int .i64 (p1.length : Int))) ∧ σ.get 33 = (.d true (.int .i64 s0)) ∧ σ.up.length = 0
def J_solve_Model_L0 (p1 : (List (List Int))) (p2 : (List Bool)) (r : (Unit) ⊕ (Int)) (e : Ex) (σ' : St) : Prop := (Sum.elim (fun o0 => e = (.exit 0) ∧ σ'.up.length = 0) (fun o1 => e = .ret ∧ σ'.get 6 = (.d true (.bool false)) ∧ σ'.get 7 = (.d true (.int .i64 o1)) ∧ σ'.up.length = 0)) r
theorem L_solve_Model_L0 (p1 : (List (List Int))) (p2 : (List Bool)) {s : Int} {r : (Unit) ⊕ (Int)} (h : Lp (b_solve_Model_L0 p1 p2) s = some r) {σ : St} {Q : Ex → St → Prop} (hI : I_solve_Model_L0 p1 p2 s σ) (hQ : ∀ e σ', J_solve_Model_L0 p1 p2 r e σ' → Q e σ') : WC env (.loop c_solve_Model_l1) σ Q :=
 WC_Lp (I_solve_Model_L0 p1 p2) (J_solve_Model_L0 p1 p2) (by
  clear h hI hQ
  clear s r σ Q
  intro s0 σ x hI h
  obtain ⟨f5, f6, f7, f8, f9⟩ := hI
  unfold b_solve_Model_L0 at h
  replace h := itb h; rcases h with ⟨c4, h⟩ | ⟨c4, h⟩
  ·replace h := bsome h; obtain ⟨x1, H2, h⟩ := h
   have n0 := idx_n H2; have q0 := idx_q H2; have y0 := idx_x H2
   replace h := bsome h; obtain ⟨r1, H3, h⟩ := h
   have k1 := AtCall_all (s_clause_True_ok H3); try dsimp only at k1
   replace h := bsome h; obtain ⟨x2, H4, h⟩ := h
   try simp only [go_sem, c_solve_Model_l1, *]
   refine WC.mono (Q := fun e σ' => e = .normal ∧ σ'.get 2 = (.d false (.lst 1 (p2.map eB))) ∧ σ'.get 12 = (.d true (.int .i64 r1.2)) ∧ σ'.get 31 = (.d false (.lst 1 (p1.map (eL 1 eI)))) ∧ σ'.get 32 = (.d true (.int .i64 (p1.length : Int))) ∧ σ'.get 33 = (.d true (.int .i64 s0)) ∧ σ'.get 48 = (.d true (.bool x2)) ∧ σ'.up.length = 0) ?_ ?_
   ·replace h := H4
    clear H4
    replace h := itb h; rcases h with ⟨c5, h⟩ | ⟨c5, h⟩
    ·cases h
     simp only [go_sem, c_solve_Model_l1, c_solve_Model_p2, *]
    ·cases h
     simp only [go_sem, c_solve_Model_l1, c_solve_Model_p2, *]
   ·intro e τ hJ
    obtain ⟨rfl, f10, f11, f12, f13, f14, f15, f16⟩ := hJ
    replace h := itb h; rcases h with ⟨c6, h⟩ | ⟨c6, h⟩
    ·cases h
     simp only [go_sem, LQ_inr, J_solve_Model_L0, c_solve_Model_l1, *]
    ·cases h
     simp only [go_sem, LQ_inl, I_solve_Model_L0, c_solve_Model_l1, *]
  ·cases h
   simp only [go_sem, LQ_inr, J_solve_Model_L0, c_solve_Model_l1, *]
) h hI hQ
noncomputable def s_solve_Model (p0 : Int) (p1 : (List (List Int))) (p2 : (List Bool)) : Option (Bool × Int) :=
 (if (decide (p0 < 0)) = true then
   some true
  else
   if (decide (p0 > 4000)) = true then
    some true
   else
    some ((p2.length : Int) != p0)).bind fun x0 =>
 if x0 = true then
  some (false, 2)
 else
  (s_solve_check p0 p1).bind fun r0 =>
  if (r0 != 0) = true then
   some (false, r0)
  else
   (Lp (b_solve_Model_L0 p1 p2) 0).bind fun x1 =>
   match x1 with
   | .inl x1' =>
    some (true, 0)
   | .inr x1' =>
    some (false, x1')
theorem s_solve_Model_ok {p0 : Int} {p1 : (List (List Int))} {p2 : (List Bool)} {r : Bool × Int} (h : s_solve_Model p0 p1 p2 = some r) : Ans env k_solve_Model [(.d true (.int .i64 p0)), (.d false (.lst 1 (p1.map (eL 1 eI)))), (.d false (.lst 1 (p2.map eB)))] (.tp [(.d true (.bool r.1)), (.d true (.int .i64 r.2))]) := by
 unfold s_solve_Model at h
 unfold Ans
 rw [AtF fn_solve_Model]
 simp only [n_solve_Model]
 replace h := bsome h; obtain ⟨x0, H0, h⟩ := h
 try simp only [go_sem, *]
 refine WC.mono (Q := fun e σ' => e = .normal ∧ σ'.get 0 = (.d true (.int .i64 p0)) ∧ σ'.get 1 = (.d false (.lst 1 (p1.map (eL 1 eI)))) ∧ σ'.get 2 = (.d false (.lst 1 (p2.map eB))) ∧ σ'.get 24 = (.d true (.bool x0)) ∧ σ'.up.length = 0) ?_ ?_
 ·replace h := H0
  clear H0
  replace h := itb h; rcases h with ⟨c0, h⟩ | ⟨c0, h⟩
  ·cases h
   simp only [go_sem, c_solve_Model_p1, *]
  ·replace h := itb h; rcases h with ⟨c1, h⟩ | ⟨c1, h⟩
   ·cases h
    simp only [go_sem, c_solve_Model_p1, *]
   ·cases h
    simp only [go_sem, c_solve_Model_p1, *]
 ·intro e τ hJ
  obtain ⟨rfl, f0, f1, f2, f3, f4⟩ := hJ
  replace h := itb h; rcases h with ⟨c2, h⟩ | ⟨c2, h⟩
  ·cases h
   simp only [go_sem, *]
   exact ⟨_, rfl⟩
  ·replace h := bsome h; obtain ⟨r0, H1, h⟩ := h
   have k0 := AtCall_all (s_solve_check_ok H1); try dsimp only at k0
   replace h := itb h; rcases h with ⟨c3, h⟩ | ⟨c3, h⟩
   ·cases h
    simp only [go_sem, *]
    exact ⟨_, rfl⟩
   ·replace h := bsome h; obtain ⟨x1, H2, h⟩ := h
    try simp only [go_sem, *]
    refine L_solve_Model_L0 p1 p2 H2 ?_ ?_
    ·clear h
     simp only [go_sem, I_solve_Model_L0, *]
    ·intro e τ hJ
     rcases x1 with x1' | x1'
     ·obtain ⟨rfl, f5⟩ := hJ
      cases h
      simp only [go_sem, *]
      exact ⟨_, rfl⟩
     ·obtain ⟨rfl, f6, f7, f8⟩ := hJ
      cases h
      simp only [go_sem, *]
      exact ⟨_, rfl⟩
def b_tseitin_Check_L1 (p0 : S_Cnf) (s0 : Int) (x1 : (List Int)) (s1 : Int) : Option ((Int) ⊕ ((Unit) ⊕ (Unit))) :=
 if (decide (s1 < (x1.length : Int))) = true then
  (idx x1 s1).bind fun x5 =>
  (if (decide (x5 < (-1))) = true then
    some true
   else
    some (decide (x5 > (IntKind.wrap .i64 ((IntKind.wrap .i64 (2 * p0.Vars)) + 1))))).bind fun x6 =>
  if x6 = true then
   some (Sum.inr (Sum.inr ()))
  else
   some (Sum.inl (IntKind.wrap .i64 (s1 + 1)))
 else
  some (Sum.inr (Sum.inl ()))
def I_tseitin_Check_L1 (p0 : S_Cnf) (s0 : Int) (x1 : (List Int)) (s1 : Int) (σ : St) : Prop := σ.get 1 = (.ptr 0 0 0) ∧ σ.get 22 = (.d false (.lst 1 (p0.Lits.map (eL 1 eI)))) ∧ σ.get 23 = (.d true (.int .i64 (p0.Lits.length : Int))) ∧ σ.get 24 = (.d true (.int .i64 s0)) ∧ σ.get 47 = (.d true (.lst 1 (x1.map eI))) ∧ σ.get 48 = (.d true (.int .i64 (x1.length : Int))) ∧ σ.get 49 = (.d true (.int .i64 s1)) ∧ σ.obj 0 0 = oB10 p0 ∧ σ.up.length = 0
def J_tseitin_Check_L1 (p0 : S_Cnf) (s0 : Int) (x1 : (List Int)) (r : (Unit) ⊕ (Unit)) (e : Ex) (σ' : St) : Prop := (Sum.elim (fun o0 => e = (.exit 2) ∧ σ'.get 1 = (.ptr 0 0 0) ∧ σ'.get 22 = (.d false (.lst 1 (p0.Lits.map (eL 1 eI)))) ∧ σ'.get 23 = (.d true (.int .i64 (p0.Lits.length : Int))) ∧ σ'.get 24 = (.d true (.int .i64 s0)) ∧ σ'.obj 0 0 = oB10 p0 ∧ σ'.up.length = 0) (fun o1 => e = .ret ∧ σ'.get 2 = (.d true (.int .i64 8)) ∧ σ'.up.length = 0)) r
theorem L_tseitin_Check_L1 (p0 : S_Cnf) (s0 : Int) (x1 : (List Int)) {s : Int} {r : (Unit) ⊕ (Unit)} (h : Lp (b_tseitin_Check_L1 p0 s0 x1) s = some r) {σ : St} {Q : Ex → St → Prop} (hI : I_tseitin_Check_L1 p0 s0 x1 s σ) (hQ : ∀ e σ', J_tseitin_Check_L1 p0 s0 x1 r e σ' → Q e σ') : WC env (.loop c_tseitin_Check_l1) σ Q :=
 WC_Lp (I_tseitin_Check_L1 p0 s0 x1) (J_tseitin_Check_L1 p0 s0 x1) (by
  clear h hI hQ
  clear s r σ Q
  intro s1 σ x hI h
  obtain ⟨f18, f19, f20, f21, f22, f23, f24, f25, f26⟩ := hI
  unfold b_tseitin_Check_L1 at h
  replace h := itb h; rcases h with ⟨c7, h⟩ | ⟨c7, h⟩
  ·replace h := bsome h; obtain ⟨x5, H5, h⟩ := h
   have n3 := idx_n H5; have q3 := idx_q H5; have y3 := idx_x H5
   replace h := bsome h; obtain ⟨x6, H6, h⟩ := h
   try simp only [go_sem, c_tseitin_Check_l1, c_tseitin_Check_l2, *]
   refine WC.mono (Q := fun e σ' => e = .normal ∧ σ'.get 1 = (.ptr 0 0 0) ∧ σ'.get 22 = (.d false (.lst 1 (p0.Lits.map (eL 1 eI)))) ∧ σ'.get 23 = (.d true (.int .i64 (p0.Lits.length : Int))) ∧ σ'.get 24 = (.d true (.int .i64 s0)) ∧ σ'.get 47 = (.d true (.lst 1 (x1.map eI))) ∧ σ'.get 48 = (.d true (.int .i64 (x1.length : Int))) ∧ σ'.get 49 = (.d true (.int .i64 s1)) ∧ σ'.get 62 = (.d true (.bool x6)) ∧ σ'.obj 0 0 = oB10 p0 ∧ σ'.up.length = 0) ?_ ?_
   ·replace h := H6
    clear H6
    replace h := itb h; rcases h with ⟨c8, h⟩ | ⟨c8, h⟩
    ·cases h
     simp only [go_sem, c_tseitin_Check_l1, c_tseitin_Check_l2, c_tseitin_Check_p3, *]
    ·cases h
     simp only [go_sem, c_tseitin_Check_l1, c_tseitin_Check_l2, c_tseitin_Check_p3, *]
   ·intro e τ hJ
    obtain ⟨rfl, f27, f28, f29, f30, f31, f32, f33, f34, f35, f36⟩ := hJ
    replace h := itb h; rcases h with ⟨c9, h⟩ | ⟨c9, h⟩
    ·cases h
     simp only [go_sem, LQ_inr, J_tseitin_Check_L1, c_tseitin_Check_l1, c_tseitin_Check_l2, *]
    ·cases h
     simp only [go_sem, LQ_inl, I_tseitin_Check_L1, c_tseitin_Check_l1, c_tseitin_Check_l2, *]
  ·cases h
   simp only [go_sem, LQ_inr, J_tseitin_Check_L1, c_tseitin_Check_l1, c_tseitin_Check_l2, *]
) h hI hQ
noncomputable def b_tseitin_Check_L0 (p0 : S_Cnf) (s0 : Int) : Option ((Int) ⊕ ((Unit) ⊕ (Unit))) :=
 if (decide (s0 < (p0.Lits.length : Int))) = true then
  (idx p0.Lits s0).bind fun x1 =>
  (if ((x1.length : Int) == 0) = true then
    some true
   else
    (idx p0.Lits 0).bind fun x3 =>
    if ((x1.length : Int) != (x3.length : Int)) = true then
     some true
    else
     (idx x1 0).bind fun x4 =>
     some (x4 != 0)).bind fun x2 =>
  if x2 = true then
   some (Sum.inr (Sum.inr ()))
  else
   (Lp (b_tseitin_Check_L1 p0 s0 x1) 0).bind fun x5 =>
   match x5 with
   | .inl x5' =>
    some (Sum.inl (IntKind.wrap .i64 (s0 + 1)))
   | .inr x5' =>
    some (Sum.inr (Sum.inr ()))
 else
  some (Sum.inr (Sum.inl ()))
def I_tseitin_Check_L0 (p0 : S_Cnf) (s0 : Int) (σ : St) : Prop := σ.get 1 = (.ptr 0 0 0) ∧ σ.get 22 = (.d false (.lst 1 (p0.Lits.map (eL 1 eI)))) ∧ σ.get 23 = (.d true (.int .i64 (p0.Lits.length : Int))) ∧ σ.get 24 = (.d true (.int .i64 s0)) ∧ σ.obj 0 0 = oB10 p0 ∧ σ.up.length = 0
def J_tseitin_Check_L0 (p0 : S_Cnf) (r : (Unit) ⊕ (Unit)) (e : Ex) (σ' : St) : Prop := (Sum.elim (fun o0 => e = (.exit 0) ∧ σ'.get 1 = (.ptr 0 0 0) ∧ σ'.obj 0 0 = oB10 p0 ∧ σ'.up.length = 0) (fun o1 => e = .ret ∧ σ'.get 2 = (.d true (.int .i64 8)) ∧ σ'.up.length = 0)) r
theorem L_tseitin_Check_L0 (p0 : S_Cnf) {s : Int} {r : (Unit) ⊕ (Unit)} (h : Lp (b_tseitin_Check_L0 p0) s = some r) {σ : St} {Q : Ex → St → Prop} (hI : I_tseitin_Check_L0 p0 s σ) (hQ : ∀ e σ', J_tseitin_Check_L0 p0 r e σ' → Q e σ') : WC env (.loop c_tseitin_Check_l2) σ Q :=
 WC_Lp (I_tseitin_Check_L0 p0) (J_tseitin_Check_L0 p0) (by
  clear h hI hQ
  clear s r σ Q
  intro s0 σ x hI h
  obtain ⟨f4, f5, f6, f7, f8, f9⟩ := hI
  unfold b_tseitin_Check_L0 at h
  replace h := itb h; rcases h with ⟨c3, h⟩ | ⟨c3, h⟩
  ·replace h := bsome h; obtain ⟨x1, H1, h⟩ := h
   have n0 := idx_n H1; have q0 := idx_q H1; have y0 := idx_x H1
   replace h := bsome h; obtain ⟨x2, H2, h⟩ := h
   try simp only [go_sem, c_tseitin_Check_l2, *]
   refine WC.mono (Q := fun e σ' => e = .normal ∧ σ'.get 1 = (.ptr 0 0 0) ∧ σ'.get 4 = (.d true (.lst 1 (x1.map eI))) ∧ σ'.get 22 = (.d false (.lst 1 (p0.Lits.map (eL 1 eI)))) ∧ σ'.get 23 = (.d true (.int .i64 (p0.Lits.length : Int))) ∧ σ'.get 24 = (.d true (.int .i64 s0)) ∧ σ'.get 46 = (.d true (.bool x2)) ∧ σ'.obj 0 0 = oB10 p0 ∧ σ'.up.length = 0) ?_ ?_
   ·replace h := H2
    clear H2
    replace h := itb h; rcases h with ⟨c4, h⟩ | ⟨c4, h⟩
    ·cases h
     simp only [go_sem, c_tseitin_Check_l2, c_tseitin_Check_p2, *]
    ·replace h := bsome h; obtain ⟨x3, H3, h⟩ := h
     have n1 := idx_n H3; have q1 := idx_q H3; have y1 := idx_x H3
     simp only [Int.toNat_zero] at n1 q1 y1
     replace h := itb h; rcases h with ⟨c5, h⟩ | ⟨c5, h⟩
     ·cases h
      simp only [go_sem, c_tseitin_Check_l2, c_tseitin_Check_p2, *]
     ·replace h := bsome h; obtain ⟨x4, H4, h⟩ := h
      have n2 := idx_n H4; have q2 := idx_q H4; have y2 := idx_x H4
      simp only [Int.toNat_zero] at n2 q2 y2
      cases h
      simp only [go_sem, c_tseitin_Check_l2, c_tseitin_Check_p2, *]
   ·intro e τ hJ
    obtain ⟨rfl, f10, f11, f12, f13, f14, f15, f16, f17⟩ := hJ
    replace h := itb h; rcases h with ⟨c6, h⟩ | ⟨c6, h⟩
    ·cases h
     simp only [go_sem, LQ_inr, J_tseitin_Check_L0, c_tseitin_Check_l2, *]
    ·replace h := bsome h; obtain ⟨x5, H5, h⟩ := h
     try simp only [go_sem, c_tseitin_Check_l2, *]
     refine L_tseitin_Check_L1 p0 s0 x1 H5 ?_ ?_
     ·clear h
      simp only [go_sem, I_tseitin_Check_L1, c_tseitin_Check_l2, *]
     ·intro e τ hJ
      rcases x5 with x5' | x5'
      ·obtain ⟨rfl, f18, f19, f20, f21, f22, f23⟩ := hJ
       cases h
       simp only [go_sem, LQ_inl, I_tseitin_Check_L0, c_tseitin_Check_l2, *]
      ·obtain ⟨rfl, f24, f25⟩ := hJ
       cases h
       simp only [go_sem, LQ_inr, J_tseitin_Check_L0, c_tseitin_Check_l2, *]
  ·cases h
   simp only [go_sem, LQ_inr, J_tseitin_Check_L0, c_tseitin_Check_l2, *]
) h hI hQ
noncomputable def b_tseitin_Check_L2 (p0 : S_Cnf) (s2 : Int) : Option ((Int) ⊕ ((Unit) ⊕ (Unit))) :=
 if (decide (s2 < (p0.Clauses.length : Int))) = true then
  (idx p0.Clauses s2).bind fun x2 =>
  (s_clause_Check p0.Vars x2).bind fun r0 =>
  if (r0 != 0) = true then
   some (Sum.inr (Sum.inr ()))
  else
   some (Sum.inl (IntKind.wrap .i64 (s2 + 1)))
 else
  some (Sum.inr (Sum.inl ()))
def I_tseitin_Check_L2 (p0 : S_Cnf) (s2 : Int) (σ : St) : Prop := σ.get 1 = (.ptr 0 0 0) ∧ σ.get 66 = (.d false (.lst 1 (p0.Clauses.map (eL 1 eI)))) ∧ σ.get 67 = (.d true (.int .i64 (p0.Clauses.length : Int))) ∧ σ.get 68 = (.d true (.int .i64 s2)) ∧ σ.obj 0 0 = oB10 p0 ∧ σ.up.length = 0
def J_tseitin_Check_L2 (p0 : S_Cnf) (r : (Unit) ⊕ (Unit)) (e : Ex) (σ' : St) : Prop := (Sum.elim (fun o0 => e = (.exit 4) ∧ σ'.up.length = 0) (fun o1 => e = .ret ∧ σ'.get 2 = (.d true (.int .i64 8)) ∧ σ'.up.length = 0)) r
theorem L_tseitin_Check_L2 (p0 : S_Cnf) {s : Int} {r : (Unit) ⊕ (Unit)} (h : Lp (b_tseitin_Check_L2 p0) s = some r) {σ : St} {Q : Ex → St → Prop} (hI : I_tseitin_Check_L2 p0 s σ) (hQ : ∀ e σ', J_tseitin_Check_L2 p0 r e σ' → Q e σ') : WC env (.loop c_tseitin_Check_l3) σ Q :=
 WC_Lp (I_tseitin_Check_L2 p0) (J_tseitin_Check_L2 p0) (by
  clear h hI hQ
  clear s r σ Q
  intro s2 σ x hI h
  obtain ⟨f7, f8, f9, f10, f11, f12⟩ := hI
  unfold b_tseitin_Check_L2 at h
  replace h := itb h; rcases h with ⟨c3, h⟩ | ⟨c3, h⟩
  ·replace h := bsome h; obtain ⟨x2, H2, h⟩ := h
   have n0 := idx_n H2; have q0 := idx_q H2; have y0 := idx_x H2
   replace h := bsome h; obtain ⟨r0, H3, h⟩ := h
   have k0 := AtCall_all (s_clause_Check_ok H3); try dsimp only at k0
   replace h := itb h; rcases h with ⟨c4, h⟩ | ⟨c4, h⟩
   ·cases h
    simp only [go_sem, LQ_inr, J_tseitin_Check_L2, c_tseitin_Check_l3, *]
   ·cases h
    simp only [go_sem, LQ_inl, I_tseitin_Check_L2, c_tseitin_Check_l3, *]
  ·cases h
   simp only [go_sem, LQ_inr, J_tseitin_Check_L2, c_tseitin_Check_l3, *]
) h hI hQ
noncomputable def s_tseitin_Check (p0 : S_Cnf) : Option (Int) :=
 if (decide ((p0.Clauses.length : Int) > 20000)) = true then
  some 4
 else
  (if (decide (p0.Vars < 0)) = true then
    some true
   else
    some (decide (p0.Vars > 4000))).bind fun x0 =>
  if x0 = true then
   some 8
  else
   (Lp (b_tseitin_Check_L0 p0) 0).bind fun x1 =>
   match x1 with
   | .inl x1' =>
    (Lp (b_tseitin_Check_L2 p0) 0).bind fun x2 =>
    match x2 with
    | .inl x2' =>
     some 0
    | .inr x2' =>
     some 8
   | .inr x1' =>
    some 8
theorem s_tseitin_Check_ok {p0 : S_Cnf} {r : Int} (h : s_tseitin_Check p0 = some r) : Ans env k_tseitin_Check [(.ag [(.d true (.int .i64 p0.Vars)), (.d false (.lst 1 (p0.Lits.map (eL 1 eI)))), (.d false (.lst 1 (p0.Clauses.map (eL 1 eI))))])] (.d true (.int .i64 r)) := by
 unfold s_tseitin_Check at h
 unfold Ans
 rw [AtF fn_tseitin_Check]
 simp only [n_tseitin_Check]
 replace h := itb h; rcases h with ⟨c0, h⟩ | ⟨c0, h⟩
 ·cases h
  simp only [go_sem, *]
  exact ⟨_, rfl⟩
 ·replace h := bsome h; obtain ⟨x0, H0, h⟩ := h
  try simp only [go_sem, *]
  refine WC.mono (Q := fun e σ' => e = .normal ∧ σ'.get 1 = (.ptr 0 0 0) ∧ σ'.get 20 = (.d true (.bool x0)) ∧ σ'.obj 0 0 = oB10 p0 ∧ σ'.up.length = 0) ?_ ?_
  ·replace h := H0
   clear H0
   replace h := itb h; rcases h with ⟨c1, h⟩ | ⟨c1, h⟩
   ·cases h
    simp only [go_sem, c_tseitin_Check_p1, *]
   ·cases h
    simp only [go_sem, c_tseitin_Check_p1, *]
  ·intro e τ hJ
   obtain ⟨rfl, f0, f1, f2, f3⟩ := hJ
   replace h := itb h; rcases h with ⟨c2, h⟩ | ⟨c2, h⟩
   ·cases h
    simp only [go_sem, *]
    exact ⟨_, rfl⟩
   ·replace h := bsome h; obtain ⟨x1, H1, h⟩ := h
    try simp only [go_sem, *]
    refine L_tseitin_Check_L0 p0 H1 ?_ ?_
    ·clear h
     simp only [go_sem, I_tseitin_Check_L0, *]
    ·intro e τ hJ
     rcases x1 with x1' | x1'
     ·obtain ⟨rfl, f4, f5, f6⟩ := hJ
      replace h := bsome h; obtain ⟨x2, H2, h⟩ := h
      try simp only [go_sem, *]
      refine L_tseitin_Check_L2 p0 H2 ?_ ?_
      ·clear h
       simp only [go_sem, I_tseitin_Check_L2, *]
      ·intro e τ hJ
       rcases x2 with x2' | x2'
       ·obtain ⟨rfl, f7⟩ := hJ
        cases h
        simp only [go_sem, *]
        exact ⟨_, rfl⟩
       ·obtain ⟨rfl, f8, f9⟩ := hJ
        cases h
        simp only [go_sem, *]
        exact ⟨_, rfl⟩
     ·obtain ⟨rfl, f10, f11⟩ := hJ
      cases h
      simp only [go_sem, *]
      exact ⟨_, rfl⟩
def s_unroll_value (p0 : Int) (p1 : (List Bool)) : Option (Bool) :=
 if (decide (p0 < 2)) = true then
  some (p0 == 1)
 else
  (idx p1 (IntKind.wrap .i64 ((IntKind.wrap .i64 (Int.tdiv p0 2)) - 1))).bind fun x0 =>
  some ((x0 == ((Int.tmod p0 2) == 0)) != false)
theorem s_unroll_value_ok {p0 : Int} {p1 : (List Bool)} {r : Bool} (h : s_unroll_value p0 p1 = some r) : Ans env k_unroll_value [(.d true (.int .i64 p0)), (.d false (.lst 1 (p1.map eB)))] (.d true (.bool r)) := by
 unfold s_unroll_value at h
 unfold Ans
 rw [AtF fn_unroll_value]
 simp only [n_unroll_value]
 replace h := itb h; rcases h with ⟨c0, h⟩ | ⟨c0, h⟩
 ·cases h
  simp only [go_sem, *]
  exact ⟨_, rfl⟩
 ·replace h := bsome h; obtain ⟨x0, H0, h⟩ := h
  have n0 := idx_n H0; have q0 := idx_q H0; have y0 := idx_x H0
  cases h
  simp only [go_sem, *]
  exact ⟨_, rfl⟩
end Go.Proofs.Ytbmhmfcjjhjkgaa.Vm
