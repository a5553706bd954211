/- Walks over the code of functions. Printed. -/
import Derived.Test.YtbmhmfcjjhjkgaaVmH2
namespace Go.Proofs.Ytbmhmfcjjhjkgaa.Vm
open Go
set_option linter.unusedSimpArgs false
set_option linter.unusedVariables false
set_option maxRecDepth 4000
set_option maxHeartbeats 4000000
attribute [local go_sem] WC_skip WC_exit WC_ret WC_seq WC_block WC_cond WC_rg KSeq_normal KSeq_ret KSeq_exit KBlock_normal KBlock_ret KBlock_exit KN_eq KRg_eq KSt_eq KSet_eq KLen_eq KPick_eq KG_eq KCond_eq boolP_d biteC_true biteC_false biteO_true biteO_false WO_nil WO_mv WO_nilr WO_pick WO_bin WO_beq WO_eqs WO_un WO_cvt WO_alloc WO_box WO_load WO_store WO_fad WO_fval WO_ix WO_ixb WO_ixa WO_bld WO_bsl WO_mks WO_slc WO_len WO_mx WO_mn WO_app WO_cpy WO_clr WO_xt WO_fn WO_chk WO_g
 WO_call WO_callv callK KHand KCallv KRes KBack_ret KRet_eq KAns env_fn St.hand St.lend St.lends St.lend1 St.vals St.frz fr1_obj fr1_get fr1_upl frO_rw frO_fz frO_none St.rowOf List.foldl_nil List.foldl_cons List.map_cons List.map_nil
 optP_some optP_none
 St.get_set St.obj_set St.get_setObj St.obj_setObj St.get_kill St.obj_kill0 St.obj_killS St.get_ini St.obj_ini0 gt_nil gt_zero gt_succ St.val_t St.val_c
 stl_get stl_obj0 stl_objS stl_upl stv_d stv_dx stv_nil stv_row0 stv_rowS stv_ptr stv_rel0 stv_pd stv_ag stv_tp stv_cl stvs_nil stvs_cons obs_box obs_rw obs_fz
 ret_get ret_obj ret_up ini_objS ini_upl ini_upl0 set_upl kill_upl setObj_upl0 setObj_uplS
 kill_d kill_dx kill_nil kill_row0 kill_rowS kill_ptr0 kill_ptrS kill_rel0 kill_relS kill_pd kill_ag kill_tp kill_cl kills_nil kills_cons obk_box obk_rw obk_fz
 pre step bin_int bin_shr bin_shl beq_bool arith_add arith_sub arith_mul arith_and arith_or arith_xor arith_eql arith_neq arith_lss arith_leq arith_gtr arith_geq arith_quo2 arith_rem2 arith_shr1 arith_shl1 maxOf_two minOf_two un lenOf cellsOf ofCells wid sub? slice_map slice_head slice_full' slice_z slice_c slice_s put St.new zcells St.load St.store Vm.fad St.ix St.slc St.els St.app St.wants St.skip I.dst resVal resVals Z.v Z.t? ofT T.cells V.shift V.shifts V.down V.downs downL chkV eqs eqFlat fill fillT flatFill T.noL T.flat
 dat dat2 dat1 dats1 dats2 Fn.pure FreeRows_nil FreeRows_cons setRows ren ren2 ren1 KTk take takes2 take2 takes1 take1 take0 rowsOb Vm.st Option.isNone_none Option.isNone_some List.mem_cons List.not_mem_nil not_or
 Option.map_some Option.map_none Option.bind_some List.length_cons List.length_nil List.length_append List.length_set cpl_length List.length_map List.length_replicate List.map_append List.map_set List.map_replicate List.getElem?_map List.getElem?_cons_zero List.getElem?_cons_succ List.drop_zero List.take_zero List.drop_succ_cons List.take_succ_cons List.take_nil List.drop_nil List.zip_cons_cons List.zip_nil_left List.zip_nil_right List.mapM_cons List.mapM_nil Option.pure_def Option.bind_eq_bind List.all_cons List.all_nil List.append_eq_nil_iff List.cons_ne_nil List.map_eq_nil_iff List.set_cons_zero List.set_cons_succ List.replicate_succ List.replicate_zero
 Nat.reduceEqDiff Nat.reduceLeDiff Nat.reduceAdd Nat.reduceSub Nat.reduceLT Nat.reduceMul Nat.reduceBEq Nat.ble_eq reduceIte reduceCtorEq Nat.add_zero Nat.sub_zero Nat.zero_add and_true true_and and_false false_and and_self or_true true_or false_or or_false if_true if_false Nat.one_ne_zero not_true not_false_eq_true not_false_iff Bool.false_eq_true forall_const true_implies false_implies implies_true BEq.rfl Bool.not_true Bool.not_false Bool.and_true Bool.true_and Bool.and_false Bool.false_and Bool.and_self Bool.true_bne Bool.false_bne not_true_eq_false List.nil_append List.append_nil List.cons_append dInt dBool Nat.le_refl Nat.le_add_right St.toT St.toTs ne_eq
 Sum.elim_inl Sum.elim_inr Option.some.injEq Ob.rw.injEq exists_eq2 eI eU8 eU64 eB eL eS_Latch eS_And eS_Circuit eS_Cnf eA4_Int oB0 oB1 oB2 oB3 oB4 oB5 oB6 oB7 oB8 oB9 oB10 oB11 oB12 oB13 at_bmc_put c_bmc_Clauses c_bmc_put c_ref02_Gate c_ref13_Always c_ref13_Has c_ref13_Not c_ref13_Sorted c_ref13_Without c_ref22_Lit c_ref22_Not c_ref23_Behind c_ref23_Resets c_ref36_asked c_unroll_Of fn_bmc_asked fn_bmc_put fn_gates_Check fn_ref02_Check fn_ref13_Has fn_ref13_Not fn_ref22_Lit fn_ref22_Not fn_slices_Compact_of_int fn_slices_Sort_of_int fn_unroll_Of fn_unroll_made isort_length n_bmc_asked n_bmc_put n_gates_Check n_ref02_Check n_ref13_Has n_ref13_Not n_ref22_Lit n_ref22_Not n_slices_Compact_of_int n_slices_Sort_of_int n_unroll_Of n_unroll_made
def b_unroll_Of_L0 (p0 : S_Circuit) (p1 : Int) (s0 : (List Int) × Int) : Option (((List Int) × Int) ⊕ ((List Int))) :=
 if (decide (s0.2 < (p0.Latches.length : Int))) = true then
  (idx p0.Latches s0.2).bind fun x0 =>
  (if (x0.Reset == 2) = true then
    some (-1)
   else
    some x0.Reset).bind fun x1 =>
  if s0.1.length + 1 ≤ big then
   some (Sum.inl ((s0.1 ++ ([x1] : List Int)), (IntKind.wrap .i64 (s0.2 + 1))))
  else none
 else
  some (Sum.inr s0.1)
def I_unroll_Of_L0 (p0 : S_Circuit) (p1 : Int) (s0 : (List Int) × Int) (σ : St) : Prop := σ.get 1 = (.d true (.int .i64 p1)) ∧ σ.get 2 = (.ptr 0 0 0) ∧ σ.get 4 = (.ptr 0 1 0) ∧ σ.get 7 = (.row 0 4 0 s0.1.length 1) ∧ σ.get 18 = (.d false (.lst 2 (p0.Latches.map eS_Latch))) ∧ σ.get 19 = (.d true (.int .i64 (p0.Latches.length : Int))) ∧ σ.get 20 = (.d true (.int .i64 s0.2)) ∧ σ.obj 0 0 = oB0 p0 ∧ σ.obj 0 1 = oB4 (([] : List (List Int)).length) (([] : List (List Int)).length) ∧ σ.obj 0 2 = some (.rw 1 (([] : List (List Int)).map (eL 1 eI)) false) ∧ σ.obj 0 3 = some (.rw 1 (([] : List (List Int)).map (eL 1 eI)) false) ∧ (∃ gr_0_4, σ.obj 0 4 = some (.rw 1 (s0.1.map eI) gr_0_4)) ∧ σ.obj 0 7 = none ∧ σ.obj 0 30 = none ∧ σ.obj 0 31 = none ∧ σ.up.length = 0
def J_unroll_Of_L0 (p0 : S_Circuit) (p1 : Int) (r : (List Int)) (e : Ex) (σ' : St) : Prop := e = (.exit 0) ∧ σ'.get 1 = (.d true (.int .i64 p1)) ∧ σ'.get 2 = (.ptr 0 0 0) ∧ σ'.get 4 = (.ptr 0 1 0) ∧ σ'.get 7 = (.row 0 4 0 r.length 1) ∧ σ'.obj 0 0 = oB0 p0 ∧ σ'.obj 0 1 = oB4 (([] : List (List Int)).length) (([] : List (List Int)).length) ∧ σ'.obj 0 2 = some (.rw 1 (([] : List (List Int)).map (eL 1 eI)) false) ∧ σ'.obj 0 3 = some (.rw 1 (([] : List (List Int)).map (eL 1 eI)) false) ∧ (∃ gr_0_4, σ'.obj 0 4 = some (.rw 1 (r.map eI) gr_0_4)) ∧ σ'.obj 0 7 = none ∧ σ'.obj 0 30 = none ∧ σ'.obj 0 31 = none ∧ σ'.up.length = 0
theorem L_unroll_Of_L0 (p0 : S_Circuit) (p1 : Int) {s : (List Int) × Int} {r : (List Int)} (h : Lp (b_unroll_Of_L0 p0 p1) s = some r) {σ : St} {Q : Ex → St → Prop} (hI : I_unroll_Of_L0 p0 p1 s σ) (hQ : ∀ e σ', J_unroll_Of_L0 p0 p1 r e σ' → Q e σ') : WC env (.loop c_unroll_Of_l1) σ Q :=
 WC_Lp (I_unroll_Of_L0 p0 p1) (J_unroll_Of_L0 p0 p1) (by
  clear h hI hQ
  clear s r σ Q
  intro s0 σ x hI h
  obtain ⟨f0, f1, f2, f3, f4, f5, f6, f7, f8, f9, f10, ⟨gr_0_4, f11⟩, f12, f13, f14, f15⟩ := hI
  unfold b_unroll_Of_L0 at h
  replace h := itb h; rcases h with ⟨c1, h⟩ | ⟨c1, h⟩
  ·replace h := bsome h; obtain ⟨x0, H1, h⟩ := h
   have n0 := idx_n H1; have q0 := idx_q H1; have y0 := idx_x H1
   replace h := bsome h; obtain ⟨x1, H2, h⟩ := h
   try simp only [go_sem, c_unroll_Of_l1, *]
   refine WC.mono (Q := fun e σ' => e = .normal ∧ σ'.get 1 = (.d true (.int .i64 p1)) ∧ σ'.get 2 = (.ptr 0 0 0) ∧ σ'.get 4 = (.ptr 0 1 0) ∧ σ'.get 7 = (.row 0 4 0 s0.1.length 1) ∧ σ'.get 10 = (.d true (.int .i64 x1)) ∧ σ'.get 18 = (.d false (.lst 2 (p0.Latches.map eS_Latch))) ∧ σ'.get 19 = (.d true (.int .i64 (p0.Latches.length : Int))) ∧ σ'.get 20 = (.d true (.int .i64 s0.2)) ∧ σ'.obj 0 0 = oB0 p0 ∧ σ'.obj 0 1 = oB4 (([] : List (List Int)).length) (([] : List (List Int)).length) ∧ σ'.obj 0 2 = some (.rw 1 (([] : List (List Int)).map (eL 1 eI)) false) ∧ σ'.obj 0 3 = some (.rw 1 (([] : List (List Int)).map (eL 1 eI)) false) ∧ (∃ gr_0_4, σ'.obj 0 4 = some (.rw 1 (s0.1.map eI) gr_0_4)) ∧ σ'.obj 0 7 = none ∧ σ'.obj 0 30 = none ∧ σ'.obj 0 31 = none ∧ σ'.up.length = 0) ?_ ?_
   ·replace h := H2
    clear H2
    replace h := itb h; rcases h with ⟨c2, h⟩ | ⟨c2, h⟩
    ·cases h
     simp only [go_sem, c_unroll_Of_l1, c_unroll_Of_p1, *]
    ·cases h
     simp only [go_sem, c_unroll_Of_l1, c_unroll_Of_p1, *]
   ·intro e τ hJ
    obtain ⟨rfl, f16, f17, f18, f19, f20, f21, f22, f23, f24, f25, f26, f27, ⟨gr_0_4, f28⟩, f29, f30, f31, f32⟩ := hJ
    replace h := need h; obtain ⟨H3, h⟩ := h
    cases h
    simp only [go_sem, LQ_inl, I_unroll_Of_L0, c_unroll_Of_l1, *]
  ·cases h
   simp only [go_sem, LQ_inr, J_unroll_Of_L0, c_unroll_Of_l1, *]
) h hI hQ
noncomputable def s_unroll_Of (p0 : S_Circuit) (p1 : Int) : Option (S_Cnf × Int) :=
 (s_gates_Check p0).bind fun r0 =>
 if (r0 != 0) = true then
  some ((S_Cnf.mk 0 ([] : List (List Int)) ([] : List (List Int))), r0)
 else
  (Lp (b_unroll_Of_L0 p0 p1) (([] : List Int), 0)).bind fun x0 =>
  (s_unroll_made p0 p1 x0).bind fun r1 =>
  some (r1.1, r1.2)
theorem s_unroll_Of_tk {p0 : S_Circuit} {p1 : Int} {r : S_Cnf × Int} (h : s_unroll_Of p0 p1 = some r) : AnsT env k_unroll_Of [(.ag [(.d true (.int .i64 p0.Inputs)), (.d false (.lst 2 (p0.Latches.map eS_Latch))), (.d false (.lst 2 (p0.Ands.map eS_And))), (.d false (.lst 1 (p0.Bads.map eI))), (.d false (.lst 1 (p0.Constraints.map eI)))]), (.d true (.int .i64 p1))] (.tp [(.ag [(.d true (.int .i64 r.1.Vars)), (.row 0 0 0 r.1.Lits.length 1), (.row 0 1 0 r.1.Clauses.length 1)]), (.d true (.int .i64 r.2))]) [(1, r.1.Lits.map (eL 1 eI)), (1, r.1.Clauses.map (eL 1 eI))] := by
 unfold s_unroll_Of at h
 unfold AnsT
 rw [AtF fn_unroll_Of]
 simp only [n_unroll_Of]
 replace h := bsome h; obtain ⟨r0, H0, h⟩ := h
 have k0 := AtCall_all (s_gates_Check_ok H0); try dsimp only at k0
 replace h := itb h; rcases h with ⟨c0, h⟩ | ⟨c0, h⟩
 ·cases h
  simp only [go_sem, *]
  exact ⟨_, rfl⟩
 ·replace h := bsome h; obtain ⟨x0, H1, h⟩ := h
  try simp only [go_sem, *]
  refine L_unroll_Of_L0 p0 p1 H1 ?_ ?_
  ·clear h
   simp only [go_sem, I_unroll_Of_L0, *]
  ·intro e τ hJ
   obtain ⟨rfl, f0, f1, f2, f3, f4, f5, f6, f7, ⟨gr_0_4, f8⟩, f9, f10, f11, f12⟩ := hJ
   replace h := bsome h; obtain ⟨r1, H2, h⟩ := h
   have k1 := AtCallT_all (s_unroll_made_tk H2); try dsimp only at k1
   cases h
   simp only [go_sem, *]
   exact ⟨_, rfl⟩
def b_bmc_Clauses_L2 (p0 : S_Circuit) (r1 : S_Cnf × Int) (x0 : (List Int)) (s1 : (List (List Int)) × Int) (s2 : (List Int) × Int) : Option (((List Int) × Int) ⊕ (((List Int)) ⊕ (Unit))) :=
 if (decide (s2.2 < ((slice (Int.toNat s1.2) ((Int.toNat (IntKind.wrap .i64 (s1.2 + 1))) - (Int.toNat s1.2)) p0.Constraints).length : Int))) = true then
  ((idx (slice (Int.toNat s1.2) ((Int.toNat (IntKind.wrap .i64 (s1.2 + 1))) - (Int.toNat s1.2)) p0.Constraints) s2.2).bind fun x3 =>
   (idx x0 (IntKind.wrap .i64 (Int.tdiv x3 2))).bind fun x4 =>
   ((if (decide (x4 ≥ 0)) = true then
      some ((Int.tmod x3 2) == 1)
     else
      some false).bind fun x6 =>
    if x6 = true then
     some (xorI .i64 x4 1)
    else
     some x4).bind fun x5 =>
   if (x5 == 1) = true then
    some (Sum.inr ())
   else
    if (decide (x5 > 0)) = true then
     if s2.1.length + 1 ≤ big then
      some (Sum.inl (s2.1 ++ ([x5] : List Int)))
     else none
    else
     some (Sum.inl s2.1)).bind fun x2 =>
  match x2 with
  | .inl x2' =>
   some (Sum.inl (x2', (IntKind.wrap .i64 (s2.2 + 1))))
  | .inr x2' =>
   some (Sum.inr (Sum.inr ()))
 else
  some (Sum.inr (Sum.inl s2.1))
def I_bmc_Clauses_L2 (p0 : S_Circuit) (r1 : S_Cnf × Int) (x0 : (List Int)) (s1 : (List (List Int)) × Int) (s2 : (List Int) × Int) (σ : St) : Prop := σ.get 0 = (.row 1 41 0 s1.1.length 1) ∧ σ.get 1 = (.d true (.lst 1 (x0.map eI))) ∧ σ.get 7 = (.row 0 0 0 s2.1.length 1) ∧ σ.get 13 = (.d false (.lst 1 ((slice (Int.toNat s1.2) ((Int.toNat (IntKind.wrap .i64 (s1.2 + 1))) - (Int.toNat s1.2)) p0.Constraints).map eI))) ∧ σ.get 14 = (.d true (.int .i64 ((slice (Int.toNat s1.2) ((Int.toNat (IntKind.wrap .i64 (s1.2 + 1))) - (Int.toNat s1.2)) p0.Constraints).length : Int))) ∧ σ.get 15 = (.d true (.int .i64 s2.2)) ∧ σ.obj 1 0 = oB0 p0 ∧ σ.obj 1 1 = oB4 (([] : List (List Int)).length) (([] : List (List Int)).length) ∧ σ.obj 1 2 = some (.rw 1 (([] : List (List Int)).map (eL 1 eI)) false) ∧ σ.obj 1 3 = some (.rw 1 (([] : List (List Int)).map (eL 1 eI)) false) ∧ σ.obj 1 4 = oB8 r1.1.Vars r1.1.Lits.length s1.1.length ∧ σ.obj 1 40 = some (.rw 1 (r1.1.Lits.map (eL 1 eI)) false) ∧ (∃ gr_0_41, σ.obj 1 41 = some (.rw 1 (s1.1.map (eL 1 eI)) gr_0_41)) ∧ (∃ gr_1_0, σ.obj 0 0 = some (.rw 1 (s2.1.map eI) gr_1_0)) ∧ σ.obj 0 2 = none ∧ σ.obj 0 3 = none ∧ σ.obj 0 4 = none ∧ σ.up.length = 1
def J_bmc_Clauses_L2 (p0 : S_Circuit) (r1 : S_Cnf × Int) (x0 : (List Int)) (s1 : (List (List Int)) × Int) (r : ((List Int)) ⊕ (Unit)) (e : Ex) (σ' : St) : Prop := (Sum.elim (fun o0 => e = (.exit 0) ∧ σ'.get 0 = (.row 1 41 0 s1.1.length 1) ∧ σ'.get 7 = (.row 0 0 0 o0.length 1) ∧ σ'.obj 1 0 = oB0 p0 ∧ σ'.obj 1 1 = oB4 (([] : List (List Int)).length) (([] : List (List Int)).length) ∧ σ'.obj 1 2 = some (.rw 1 (([] : List (List Int)).map (eL 1 eI)) false) ∧ σ'.obj 1 3 = some (.rw 1 (([] : List (List Int)).map (eL 1 eI)) false) ∧ σ'.obj 1 4 = oB8 r1.1.Vars r1.1.Lits.length s1.1.length ∧ σ'.obj 1 40 = some (.rw 1 (r1.1.Lits.map (eL 1 eI)) false) ∧ (∃ gr_0_41, σ'.obj 1 41 = some (.rw 1 (s1.1.map (eL 1 eI)) gr_0_41)) ∧ (∃ gr_1_0, σ'.obj 0 0 = some (.rw 1 (o0.map eI) gr_1_0)) ∧ σ'.obj 0 2 = none ∧ σ'.obj 0 3 = none ∧ σ'.obj 0 4 = none ∧ σ'.up.length = 1) (fun o1 => e = .ret ∧ σ'.get 6 = (.row 1 41 0 s1.1.length 1) ∧ σ'.obj 1 0 = oB0 p0 ∧ σ'.obj 1 1 = oB4 (([] : List (List Int)).length) (([] : List (List Int)).length) ∧ σ'.obj 1 2 = some (.rw 1 (([] : List (List Int)).map (eL 1 eI)) false) ∧ σ'.obj 1 3 = some (.rw 1 (([] : List (List Int)).map (eL 1 eI)) false) ∧ σ'.obj 1 4 = oB8 r1.1.Vars r1.1.Lits.length s1.1.length ∧ σ'.obj 1 40 = some (.rw 1 (r1.1.Lits.map (eL 1 eI)) false) ∧ (∃ gr_0_41, σ'.obj 1 41 = some (.rw 1 (s1.1.map (eL 1 eI)) gr_0_41)) ∧ σ'.obj 0 2 = none ∧ σ'.obj 0 3 = none ∧ σ'.obj 0 4 = none ∧ σ'.up.length = 1)) r
theorem L_bmc_Clauses_L2 (p0 : S_Circuit) (r1 : S_Cnf × Int) (x0 : (List Int)) (s1 : (List (List Int)) × Int) {s : (List Int) × Int} {r : ((List Int)) ⊕ (Unit)} (h : Lp (b_bmc_Clauses_L2 p0 r1 x0 s1) s = some r) {σ : St} {Q : Ex → St → Prop} (hI : I_bmc_Clauses_L2 p0 r1 x0 s1 s σ) (hQ : ∀ e σ', J_bmc_Clauses_L2 p0 r1 x0 s1 r e σ' → Q e σ') : WC env (.loop c_bmc_put_l1) σ Q :=
 WC_Lp (I_bmc_Clauses_L2 p0 r1 x0 s1) (J_bmc_Clauses_L2 p0 r1 x0 s1) (by
  clear h hI hQ
  clear s r σ Q
  intro s2 σ x hI h
  obtain ⟨f33, f34, f35, f36, f37, f38, f39, f40, f41, f42, f43, f44, ⟨gr_0_41, f45⟩, ⟨gr_1_0, f46⟩, f47, f48, f49, f50⟩ := hI
  unfold b_bmc_Clauses_L2 at h
  replace h := itb h; rcases h with ⟨c4, h⟩ | ⟨c4, h⟩
  ·replace h := bsome h; obtain ⟨x2, H5, h⟩ := h
   try simp only [go_sem, c_bmc_put_l1, c_bmc_Clauses_l1, c_bmc_Clauses_l2, c_bmc_Clauses_p1, *]
   refine WC.mono (Q := fun e σ' => (Sum.elim (fun o0 => e = .normal ∧ σ'.get 0 = (.row 1 41 0 s1.1.length 1) ∧ σ'.get 1 = (.d true (.lst 1 (x0.map eI))) ∧ σ'.get 7 = (.row 0 0 0 o0.length 1) ∧ σ'.get 13 = (.d false (.lst 1 ((slice (Int.toNat s1.2) ((Int.toNat (IntKind.wrap .i64 (s1.2 + 1))) - (Int.toNat s1.2)) p0.Constraints).map eI))) ∧ σ'.get 14 = (.d true (.int .i64 ((slice (Int.toNat s1.2) ((Int.toNat (IntKind.wrap .i64 (s1.2 + 1))) - (Int.toNat s1.2)) p0.Constraints).length : Int))) ∧ σ'.get 15 = (.d true (.int .i64 s2.2)) ∧ σ'.obj 1 0 = oB0 p0 ∧ σ'.obj 1 1 = oB4 (([] : List (List Int)).length) (([] : List (List Int)).length) ∧ σ'.obj 1 2 = some (.rw 1 (([] : List (List Int)).map (eL 1 eI)) false) ∧ σ'.obj 1 3 = some (.rw 1 (([] : List (List Int)).map (eL 1 eI)) false) ∧ σ'.obj 1 4 = oB8 r1.1.Vars r1.1.Lits.length s1.1.length ∧ σ'.obj 1 40 = some (.rw 1 (r1.1.Lits.map (eL 1 eI)) false) ∧ (∃ gr_0_41, σ'.obj 1 41 = some (.rw 1 (s1.1.map (eL 1 eI)) gr_0_41)) ∧ (∃ gr_1_0, σ'.obj 0 0 = some (.rw 1 (o0.map eI) gr_1_0)) ∧ σ'.obj 0 2 = none ∧ σ'.obj 0 3 = none ∧ σ'.obj 0 4 = none ∧ σ'.up.length = 1) (fun o1 => e = .ret ∧ σ'.get 6 = (.row 1 41 0 s1.1.length 1) ∧ σ'.obj 1 0 = oB0 p0 ∧ σ'.obj 1 1 = oB4 (([] : List (List Int)).length) (([] : List (List Int)).length) ∧ σ'.obj 1 2 = some (.rw 1 (([] : List (List Int)).map (eL 1 eI)) false) ∧ σ'.obj 1 3 = some (.rw 1 (([] : List (List Int)).map (eL 1 eI)) false) ∧ σ'.obj 1 4 = oB8 r1.1.Vars r1.1.Lits.length s1.1.length ∧ σ'.obj 1 40 = some (.rw 1 (r1.1.Lits.map (eL 1 eI)) false) ∧ (∃ gr_0_41, σ'.obj 1 41 = some (.rw 1 (s1.1.map (eL 1 eI)) gr_0_41)) ∧ σ'.obj 0 2 = none ∧ σ'.obj 0 3 = none ∧ σ'.obj 0 4 = none ∧ σ'.up.length = 1)) x2) ?_ ?_
   ·replace h := H5
    clear H5
    replace h := bsome h; obtain ⟨x3, H6, h⟩ := h
    have n1 := idx_n H6; have q1 := idx_q H6; have y1 := idx_x H6
    replace h := bsome h; obtain ⟨x4, H7, h⟩ := h
    have n2 := idx_n H7; have q2 := idx_q H7; have y2 := idx_x H7
    replace h := bsome h; obtain ⟨x5, H8, h⟩ := h
    try simp only [go_sem, c_bmc_put_l1, c_bmc_Clauses_l1, c_bmc_Clauses_l2, c_bmc_Clauses_p1, c_bmc_put_p3, *]
    refine WC.mono (Q := fun e σ' => e = .normal ∧ σ'.get 0 = (.row 1 41 0 s1.1.length 1) ∧ σ'.get 1 = (.d true (.lst 1 (x0.map eI))) ∧ σ'.get 7 = (.row 0 0 0 s2.1.length 1) ∧ σ'.get 10 = (.d true (.int .i64 x5)) ∧ σ'.get 13 = (.d false (.lst 1 ((slice (Int.toNat s1.2) ((Int.toNat (IntKind.wrap .i64 (s1.2 + 1))) - (Int.toNat s1.2)) p0.Constraints).map eI))) ∧ σ'.get 14 = (.d true (.int .i64 ((slice (Int.toNat s1.2) ((Int.toNat (IntKind.wrap .i64 (s1.2 + 1))) - (Int.toNat s1.2)) p0.Constraints).length : Int))) ∧ σ'.get 15 = (.d true (.int .i64 s2.2)) ∧ σ'.obj 1 0 = oB0 p0 ∧ σ'.obj 1 1 = oB4 (([] : List (List Int)).length) (([] : List (List Int)).length) ∧ σ'.obj 1 2 = some (.rw 1 (([] : List (List Int)).map (eL 1 eI)) false) ∧ σ'.obj 1 3 = some (.rw 1 (([] : List (List Int)).map (eL 1 eI)) false) ∧ σ'.obj 1 4 = oB8 r1.1.Vars r1.1.Lits.length s1.1.length ∧ σ'.obj 1 40 = some (.rw 1 (r1.1.Lits.map (eL 1 eI)) false) ∧ (∃ gr_0_41, σ'.obj 1 41 = some (.rw 1 (s1.1.map (eL 1 eI)) gr_0_41)) ∧ (∃ gr_1_0, σ'.obj 0 0 = some (.rw 1 (s2.1.map eI) gr_1_0)) ∧ σ'.obj 0 2 = none ∧ σ'.obj 0 3 = none ∧ σ'.obj 0 4 = none ∧ σ'.up.length = 1) ?_ ?_
    ·replace h := H8
     clear H8
     replace h := bsome h; obtain ⟨x6, H9, h⟩ := h
     try simp only [go_sem, c_bmc_put_l1, c_bmc_Clauses_l1, c_bmc_Clauses_l2, c_bmc_Clauses_p1, c_bmc_put_p3, c_bmc_put_p2, *]
     refine WC.mono (Q := fun e σ' => e = .normal ∧ σ'.get 0 = (.row 1 41 0 s1.1.length 1) ∧ σ'.get 1 = (.d true (.lst 1 (x0.map eI))) ∧ σ'.get 7 = (.row 0 0 0 s2.1.length 1) ∧ σ'.get 10 = (.d true (.int .i64 x4)) ∧ σ'.get 13 = (.d false (.lst 1 ((slice (Int.toNat s1.2) ((Int.toNat (IntKind.wrap .i64 (s1.2 + 1))) - (Int.toNat s1.2)) p0.Constraints).map eI))) ∧ σ'.get 14 = (.d true (.int .i64 ((slice (Int.toNat s1.2) ((Int.toNat (IntKind.wrap .i64 (s1.2 + 1))) - (Int.toNat s1.2)) p0.Constraints).length : Int))) ∧ σ'.get 15 = (.d true (.int .i64 s2.2)) ∧ σ'.get 30 = (.d true (.bool x6)) ∧ σ'.obj 1 0 = oB0 p0 ∧ σ'.obj 1 1 = oB4 (([] : List (List Int)).length) (([] : List (List Int)).length) ∧ σ'.obj 1 2 = some (.rw 1 (([] : List (List Int)).map (eL 1 eI)) false) ∧ σ'.obj 1 3 = some (.rw 1 (([] : List (List Int)).map (eL 1 eI)) false) ∧ σ'.obj 1 4 = oB8 r1.1.Vars r1.1.Lits.length s1.1.length ∧ σ'.obj 1 40 = some (.rw 1 (r1.1.Lits.map (eL 1 eI)) false) ∧ (∃ gr_0_41, σ'.obj 1 41 = some (.rw 1 (s1.1.map (eL 1 eI)) gr_0_41)) ∧ (∃ gr_1_0, σ'.obj 0 0 = some (.rw 1 (s2.1.map eI) gr_1_0)) ∧ σ'.obj 0 2 = none ∧ σ'.obj 0 3 = none ∧ σ'.obj 0 4 = none ∧ σ'.up.length = 1) ?_ ?_
     ·replace h := H9
      clear H9
      replace h := itb h; rcases h with ⟨c5, h⟩ | ⟨c5, h⟩
      ·cases h
       simp only [go_sem, c_bmc_put_l1, c_bmc_Clauses_l1, c_bmc_Clauses_l2, c_bmc_Clauses_p1, c_bmc_put_p3, c_bmc_put_p2, c_bmc_put_p1, *]
      ·cases h
       simp only [go_sem, c_bmc_put_l1, c_bmc_Clauses_l1, c_bmc_Clauses_l2, c_bmc_Clauses_p1, c_bmc_put_p3, c_bmc_put_p2, c_bmc_put_p1, *]
     ·intro e τ hJ
      obtain ⟨rfl, f51, f52, f53, f54, f55, f56, f57, f58, f59, f60, f61, f62, f63, f64, ⟨gr_0_41, f65⟩, ⟨gr_1_0, f66⟩, f67, f68, f69, f70⟩ := hJ
      replace h := itb h; rcases h with ⟨c6, h⟩ | ⟨c6, h⟩
      ·cases h
       simp only [go_sem, c_bmc_put_l1, c_bmc_Clauses_l1, c_bmc_Clauses_l2, c_bmc_Clauses_p1, c_bmc_put_p3, c_bmc_put_p2, *]
      ·cases h
       simp only [go_sem, c_bmc_put_l1, c_bmc_Clauses_l1, c_bmc_Clauses_l2, c_bmc_Clauses_p1, c_bmc_put_p3, c_bmc_put_p2, *]
    ·intro e τ hJ
     obtain ⟨rfl, f71, f72, f73, f74, f75, f76, f77, f78, f79, f80, f81, f82, f83, ⟨gr_0_41, f84⟩, ⟨gr_1_0, f85⟩, f86, f87, f88, f89⟩ := hJ
     replace h := itb h; rcases h with ⟨c7, h⟩ | ⟨c7, h⟩
     ·cases h
      simp only [go_sem, c_bmc_put_l1, c_bmc_Clauses_l1, c_bmc_Clauses_l2, c_bmc_Clauses_p1, c_bmc_put_p3, *]
     ·replace h := itb h; rcases h with ⟨c8, h⟩ | ⟨c8, h⟩
      ·replace h := need h; obtain ⟨H10, h⟩ := h
       cases h
       simp only [go_sem, c_bmc_put_l1, c_bmc_Clauses_l1, c_bmc_Clauses_l2, c_bmc_Clauses_p1, c_bmc_put_p3, *]
      ·cases h
       simp only [go_sem, c_bmc_put_l1, c_bmc_Clauses_l1, c_bmc_Clauses_l2, c_bmc_Clauses_p1, c_bmc_put_p3, *]
   ·intro e τ hJ
    rcases x2 with x2' | x2'
    ·obtain ⟨rfl, f90, f91, f92, f93, f94, f95, f96, f97, f98, f99, f100, f101, ⟨gr_0_41, f102⟩, ⟨gr_1_0, f103⟩, f104, f105, f106, f107⟩ := hJ
     cases h
     simp only [go_sem, LQ_inl, I_bmc_Clauses_L2, c_bmc_put_l1, c_bmc_Clauses_l1, c_bmc_Clauses_l2, c_bmc_Clauses_p1, *]
    ·obtain ⟨rfl, f108, f109, f110, f111, f112, f113, f114, ⟨gr_0_41, f115⟩, f116, f117, f118, f119⟩ := hJ
     cases h
     simp only [go_sem, LQ_inr, J_bmc_Clauses_L2, c_bmc_put_l1, c_bmc_Clauses_l1, c_bmc_Clauses_l2, c_bmc_Clauses_p1, *]
  ·cases h
   simp only [go_sem, LQ_inr, J_bmc_Clauses_L2, c_bmc_put_l1, c_bmc_Clauses_l1, c_bmc_Clauses_l2, c_bmc_Clauses_p1, *]
) h hI hQ
def b_bmc_Clauses_L3 (p0 : S_Circuit) (r1 : S_Cnf × Int) (s1 : (List (List Int)) × Int) (x2' : (List Int)) (s3 : Int) : Option ((Int) ⊕ ((Unit) ⊕ (Unit))) :=
 if (decide (s3 < ((dd (isort x2')).length : Int))) = true then
  (idx (dd (isort x2')) s3).bind fun x3 =>
  (if (decide (s3 > 0)) = true then
    (idx (dd (isort x2')) (IntKind.wrap .i64 (s3 - 1))).bind fun x5 =>
    if (x5 == (xorI .i64 x3 1)) = true then
     some ((Int.tmod x3 2) == 1)
    else
     some false
   else
    some false).bind fun x4 =>
  if x4 = true then
   some (Sum.inr (Sum.inr ()))
  else
   some (Sum.inl (IntKind.wrap .i64 (s3 + 1)))
 else
  some (Sum.inr (Sum.inl ()))
def I_bmc_Clauses_L3 (p0 : S_Circuit) (r1 : S_Cnf × Int) (s1 : (List (List Int)) × Int) (x2' : (List Int)) (s3 : Int) (σ : St) : Prop := σ.get 0 = (.row 1 41 0 s1.1.length 1) ∧ σ.get 7 = (.row 0 0 0 ((dd (isort x2')).length) 1) ∧ σ.get 47 = (.row 0 0 0 ((dd (isort x2')).length) 1) ∧ σ.get 48 = (.d true (.int .i64 ((dd (isort x2')).length : Int))) ∧ σ.get 49 = (.d true (.int .i64 s3)) ∧ σ.obj 1 0 = oB0 p0 ∧ σ.obj 1 1 = oB4 (([] : List (List Int)).length) (([] : List (List Int)).length) ∧ σ.obj 1 2 = some (.rw 1 (([] : List (List Int)).map (eL 1 eI)) false) ∧ σ.obj 1 3 = some (.rw 1 (([] : List (List Int)).map (eL 1 eI)) false) ∧ σ.obj 1 4 = oB8 r1.1.Vars r1.1.Lits.length s1.1.length ∧ σ.obj 1 40 = some (.rw 1 (r1.1.Lits.map (eL 1 eI)) false) ∧ (∃ gr_0_41, σ.obj 1 41 = some (.rw 1 (s1.1.map (eL 1 eI)) gr_0_41)) ∧ σ.obj 0 0 = some (.rw 1 (((dd (isort x2')) ++ zs ((isort x2').length - (dd (isort x2')).length)).map eI) false) ∧ σ.obj 0 2 = none ∧ σ.obj 0 3 = none ∧ σ.obj 0 4 = none ∧ σ.up.length = 1
def J_bmc_Clauses_L3 (p0 : S_Circuit) (r1 : S_Cnf × Int) (s1 : (List (List Int)) × Int) (x2' : (List Int)) (r : (Unit) ⊕ (Unit)) (e : Ex) (σ' : St) : Prop := (Sum.elim (fun o0 => e = (.exit 2) ∧ σ'.get 0 = (.row 1 41 0 s1.1.length 1) ∧ σ'.get 7 = (.row 0 0 0 ((dd (isort x2')).length) 1) ∧ σ'.obj 1 0 = oB0 p0 ∧ σ'.obj 1 1 = oB4 (([] : List (List Int)).length) (([] : List (List Int)).length) ∧ σ'.obj 1 2 = some (.rw 1 (([] : List (List Int)).map (eL 1 eI)) false) ∧ σ'.obj 1 3 = some (.rw 1 (([] : List (List Int)).map (eL 1 eI)) false) ∧ σ'.obj 1 4 = oB8 r1.1.Vars r1.1.Lits.length s1.1.length ∧ σ'.obj 1 40 = some (.rw 1 (r1.1.Lits.map (eL 1 eI)) false) ∧ (∃ gr_0_41, σ'.obj 1 41 = some (.rw 1 (s1.1.map (eL 1 eI)) gr_0_41)) ∧ σ'.obj 0 0 = some (.rw 1 (((dd (isort x2')) ++ zs ((isort x2').length - (dd (isort x2')).length)).map eI) false) ∧ σ'.obj 0 2 = none ∧ σ'.obj 0 3 = none ∧ σ'.obj 0 4 = none ∧ σ'.up.length = 1) (fun o1 => e = .ret ∧ σ'.get 6 = (.row 1 41 0 s1.1.length 1) ∧ σ'.obj 1 0 = oB0 p0 ∧ σ'.obj 1 1 = oB4 (([] : List (List Int)).length) (([] : List (List Int)).length) ∧ σ'.obj 1 2 = some (.rw 1 (([] : List (List Int)).map (eL 1 eI)) false) ∧ σ'.obj 1 3 = some (.rw 1 (([] : List (List Int)).map (eL 1 eI)) false) ∧ σ'.obj 1 4 = oB8 r1.1.Vars r1.1.Lits.length s1.1.length ∧ σ'.obj 1 40 = some (.rw 1 (r1.1.Lits.map (eL 1 eI)) false) ∧ (∃ gr_0_41, σ'.obj 1 41 = some (.rw 1 (s1.1.map (eL 1 eI)) gr_0_41)) ∧ σ'.obj 0 2 = none ∧ σ'.obj 0 3 = none ∧ σ'.obj 0 4 = none ∧ σ'.up.length = 1)) r
theorem L_bmc_Clauses_L3 (p0 : S_Circuit) (r1 : S_Cnf × Int) (s1 : (List (List Int)) × Int) (x2' : (List Int)) {s : Int} {r : (Unit) ⊕ (Unit)} (h : Lp (b_bmc_Clauses_L3 p0 r1 s1 x2') s = some r) {σ : St} {Q : Ex → St → Prop} (hI : I_bmc_Clauses_L3 p0 r1 s1 x2' s σ) (hQ : ∀ e σ', J_bmc_Clauses_L3 p0 r1 s1 x2' r e σ' → Q e σ') : WC env (.loop c_bmc_put_l2) σ Q :=
 WC_Lp (I_bmc_Clauses_L3 p0 r1 s1 x2') (J_bmc_Clauses_L3 p0 r1 s1 x2') (by
  clear h hI hQ
  clear s r σ Q
  intro s3 σ x hI h
  obtain ⟨f47, f48, f49, f50, f51, f52, f53, f54, f55, f56, f57, ⟨gr_0_41, f58⟩, f59, f60, f61, f62, f63⟩ := hI
  unfold b_bmc_Clauses_L3 at h
  replace h := itb h; rcases h with ⟨c4, h⟩ | ⟨c4, h⟩
  ·replace h := bsome h; obtain ⟨x3, H8, h⟩ := h
   have n1 := idx_n H8; have q1 := idx_q H8; have y1 := idx_x H8
   replace y1 := get_head eI q1 y1
   replace h := bsome h; obtain ⟨x4, H9, h⟩ := h
   try simp only [go_sem, c_bmc_put_l2, c_bmc_Clauses_l1, c_bmc_Clauses_l2, c_bmc_Clauses_p1, *]
   refine WC.mono (Q := fun e σ' => e = .normal ∧ σ'.get 0 = (.row 1 41 0 s1.1.length 1) ∧ σ'.get 7 = (.row 0 0 0 ((dd (isort x2')).length) 1) ∧ σ'.get 47 = (.row 0 0 0 ((dd (isort x2')).length) 1) ∧ σ'.get 48 = (.d true (.int .i64 ((dd (isort x2')).length : Int))) ∧ σ'.get 49 = (.d true (.int .i64 s3)) ∧ σ'.get 70 = (.d true (.bool x4)) ∧ σ'.obj 1 0 = oB0 p0 ∧ σ'.obj 1 1 = oB4 (([] : List (List Int)).length) (([] : List (List Int)).length) ∧ σ'.obj 1 2 = some (.rw 1 (([] : List (List Int)).map (eL 1 eI)) false) ∧ σ'.obj 1 3 = some (.rw 1 (([] : List (List Int)).map (eL 1 eI)) false) ∧ σ'.obj 1 4 = oB8 r1.1.Vars r1.1.Lits.length s1.1.length ∧ σ'.obj 1 40 = some (.rw 1 (r1.1.Lits.map (eL 1 eI)) false) ∧ (∃ gr_0_41, σ'.obj 1 41 = some (.rw 1 (s1.1.map (eL 1 eI)) gr_0_41)) ∧ σ'.obj 0 0 = some (.rw 1 (((dd (isort x2')) ++ zs ((isort x2').length - (dd (isort x2')).length)).map eI) false) ∧ σ'.obj 0 2 = none ∧ σ'.obj 0 3 = none ∧ σ'.obj 0 4 = none ∧ σ'.up.length = 1) ?_ ?_
   ·replace h := H9
    clear H9
    replace h := itb h; rcases h with ⟨c5, h⟩ | ⟨c5, h⟩
    ·replace h := bsome h; obtain ⟨x5, H10, h⟩ := h
     have n2 := idx_n H10; have q2 := idx_q H10; have y2 := idx_x H10
     replace y2 := get_head eI q2 y2
     replace h := itb h; rcases h with ⟨c6, h⟩ | ⟨c6, h⟩
     ·cases h
      simp only [go_sem, c_bmc_put_l2, c_bmc_Clauses_l1, c_bmc_Clauses_l2, c_bmc_Clauses_p1, c_bmc_put_p4, *]
     ·cases h
      simp only [go_sem, c_bmc_put_l2, c_bmc_Clauses_l1, c_bmc_Clauses_l2, c_bmc_Clauses_p1, c_bmc_put_p4, *]
    ·cases h
     simp only [go_sem, c_bmc_put_l2, c_bmc_Clauses_l1, c_bmc_Clauses_l2, c_bmc_Clauses_p1, c_bmc_put_p4, *]
   ·intro e τ hJ
    obtain ⟨rfl, f64, f65, f66, f67, f68, f69, f70, f71, f72, f73, f74, f75, ⟨gr_0_41, f76⟩, f77, f78, f79, f80, f81⟩ := hJ
    replace h := itb h; rcases h with ⟨c7, h⟩ | ⟨c7, h⟩
    ·cases h
     simp only [go_sem, LQ_inr, J_bmc_Clauses_L3, c_bmc_put_l2, c_bmc_Clauses_l1, c_bmc_Clauses_l2, c_bmc_Clauses_p1, *]
    ·cases h
     simp only [go_sem, LQ_inl, I_bmc_Clauses_L3, c_bmc_put_l2, c_bmc_Clauses_l1, c_bmc_Clauses_l2, c_bmc_Clauses_p1, *]
  ·cases h
   simp only [go_sem, LQ_inr, J_bmc_Clauses_L3, c_bmc_put_l2, c_bmc_Clauses_l1, c_bmc_Clauses_l2, c_bmc_Clauses_p1, *]
) h hI hQ
noncomputable def b_bmc_Clauses_L1 (p0 : S_Circuit) (p1 : Int) (r1 : S_Cnf × Int) (s0 : (List (List Int)) × Int) (x0 : (List Int)) (s1 : (List (List Int)) × Int) : Option (((List (List Int)) × Int) ⊕ ((List (List Int)))) :=
 if (decide (s1.2 < (p0.Constraints.length : Int))) = true then
  (if inC p0.Constraints.length s1.2 (IntKind.wrap .i64 (s1.2 + 1)) then
    (Lp (b_bmc_Clauses_L2 p0 r1 x0 s1) (([] : List Int), 0)).bind fun x2 =>
    match x2 with
    | .inl x2' =>
     if x2'.length < 13 then
      if (isort x2').length < 1000000 then
       (Lp (b_bmc_Clauses_L3 p0 r1 s1 x2') 0).bind fun x3 =>
       match x3 with
       | .inl x3' =>
        if s1.1.length + 1 ≤ big then
         some (s1.1 ++ ([(dd (isort x2'))] : List (List Int)))
        else none
       | .inr x3' =>
        some s1.1
      else none
     else none
    | .inr x2' =>
     some s1.1
   else none).bind fun x1 =>
  some (Sum.inl (x1, (IntKind.wrap .i64 (s1.2 + 1))))
 else
  some (Sum.inr s1.1)
def I_bmc_Clauses_L1 (p0 : S_Circuit) (p1 : Int) (r1 : S_Cnf × Int) (s0 : (List (List Int)) × Int) (x0 : (List Int)) (s1 : (List (List Int)) × Int) (σ : St) : Prop := σ.get 1 = (.d true (.int .i64 p1)) ∧ σ.get 2 = (.ptr 0 0 0) ∧ σ.get 4 = (.ptr 0 1 0) ∧ σ.get 7 = (.ptr 0 4 0) ∧ σ.get 10 = (.d true (.lst 1 (x0.map eI))) ∧ σ.get 31 = (.row 0 40 0 r1.1.Lits.length 1) ∧ σ.get 32 = (.d true (.int .i64 (r1.1.Lits.length : Int))) ∧ σ.get 33 = (.d true (.int .i64 s0.2)) ∧ σ.get 39 = (.d true (.int .i64 (p0.Constraints.length : Int))) ∧ σ.get 40 = (.d true (.int .i64 s1.2)) ∧ σ.obj 0 0 = oB0 p0 ∧ σ.obj 0 1 = oB4 (([] : List (List Int)).length) (([] : List (List Int)).length) ∧ σ.obj 0 2 = some (.rw 1 (([] : List (List Int)).map (eL 1 eI)) false) ∧ σ.obj 0 3 = some (.rw 1 (([] : List (List Int)).map (eL 1 eI)) false) ∧ σ.obj 0 4 = oB8 r1.1.Vars r1.1.Lits.length s1.1.length ∧ σ.obj 0 40 = some (.rw 1 (r1.1.Lits.map (eL 1 eI)) false) ∧ (∃ gr_0_41, σ.obj 0 41 = some (.rw 1 (s1.1.map (eL 1 eI)) gr_0_41)) ∧ σ.up.length = 0
def J_bmc_Clauses_L1 (p0 : S_Circuit) (p1 : Int) (r1 : S_Cnf × Int) (s0 : (List (List Int)) × Int) (x0 : (List Int)) (r : (List (List Int))) (e : Ex) (σ' : St) : Prop := e = (.exit 2) ∧ σ'.get 1 = (.d true (.int .i64 p1)) ∧ σ'.get 2 = (.ptr 0 0 0) ∧ σ'.get 4 = (.ptr 0 1 0) ∧ σ'.get 7 = (.ptr 0 4 0) ∧ σ'.get 31 = (.row 0 40 0 r1.1.Lits.length 1) ∧ σ'.get 32 = (.d true (.int .i64 (r1.1.Lits.length : Int))) ∧ σ'.get 33 = (.d true (.int .i64 s0.2)) ∧ σ'.obj 0 0 = oB0 p0 ∧ σ'.obj 0 1 = oB4 (([] : List (List Int)).length) (([] : List (List Int)).length) ∧ σ'.obj 0 2 = some (.rw 1 (([] : List (List Int)).map (eL 1 eI)) false) ∧ σ'.obj 0 3 = some (.rw 1 (([] : List (List Int)).map (eL 1 eI)) false) ∧ σ'.obj 0 4 = oB8 r1.1.Vars r1.1.Lits.length r.length ∧ σ'.obj 0 40 = some (.rw 1 (r1.1.Lits.map (eL 1 eI)) false) ∧ (∃ gr_0_41, σ'.obj 0 41 = some (.rw 1 (r.map (eL 1 eI)) gr_0_41)) ∧ σ'.up.length = 0
theorem L_bmc_Clauses_L1 (p0 : S_Circuit) (p1 : Int) (r1 : S_Cnf × Int) (s0 : (List (List Int)) × Int) (x0 : (List Int)) {s : (List (List Int)) × Int} {r : (List (List Int))} (h : Lp (b_bmc_Clauses_L1 p0 p1 r1 s0 x0) s = some r) {σ : St} {Q : Ex → St → Prop} (hI : I_bmc_Clauses_L1 p0 p1 r1 s0 x0 s σ) (hQ : ∀ e σ', J_bmc_Clauses_L1 p0 p1 r1 s0 x0 r e σ' → Q e σ') : WC env (.loop c_bmc_Clauses_l1) σ Q :=
 WC_Lp (I_bmc_Clauses_L1 p0 p1 r1 s0 x0) (J_bmc_Clauses_L1 p0 p1 r1 s0 x0) (by
  clear h hI hQ
  clear s r σ Q
  intro s1 σ x hI h
  obtain ⟨f15, f16, f17, f18, f19, f20, f21, f22, f23, f24, f25, f26, f27, f28, f29, f30, ⟨gr_0_41, f31⟩, f32⟩ := hI
  unfold b_bmc_Clauses_L1 at h
  replace h := itb h; rcases h with ⟨c3, h⟩ | ⟨c3, h⟩
  ·replace h := bsome h; obtain ⟨x1, H3, h⟩ := h
   try simp only [go_sem, c_bmc_Clauses_l1, c_bmc_Clauses_l2, *]
   refine WC.mono (Q := fun e σ' => e = .normal ∧ σ'.get 1 = (.d true (.int .i64 p1)) ∧ σ'.get 2 = (.ptr 0 0 0) ∧ σ'.get 4 = (.ptr 0 1 0) ∧ σ'.get 7 = (.ptr 0 4 0) ∧ σ'.get 10 = (.d true (.lst 1 (x0.map eI))) ∧ σ'.get 31 = (.row 0 40 0 r1.1.Lits.length 1) ∧ σ'.get 32 = (.d true (.int .i64 (r1.1.Lits.length : Int))) ∧ σ'.get 33 = (.d true (.int .i64 s0.2)) ∧ σ'.get 39 = (.d true (.int .i64 (p0.Constraints.length : Int))) ∧ σ'.get 40 = (.d true (.int .i64 s1.2)) ∧ σ'.obj 0 0 = oB0 p0 ∧ σ'.obj 0 1 = oB4 (([] : List (List Int)).length) (([] : List (List Int)).length) ∧ σ'.obj 0 2 = some (.rw 1 (([] : List (List Int)).map (eL 1 eI)) false) ∧ σ'.obj 0 3 = some (.rw 1 (([] : List (List Int)).map (eL 1 eI)) false) ∧ σ'.obj 0 4 = oB8 r1.1.Vars r1.1.Lits.length x1.length ∧ σ'.obj 0 40 = some (.rw 1 (r1.1.Lits.map (eL 1 eI)) false) ∧ (∃ gr_0_41, σ'.obj 0 41 = some (.rw 1 (x1.map (eL 1 eI)) gr_0_41)) ∧ σ'.up.length = 0) ?_ ?_
   ·replace h := H3
    clear H3
    replace h := need h; obtain ⟨H4, h⟩ := h
    have zH4 := (cut_both H4)
    replace h := bsome h; obtain ⟨x2, H5, h⟩ := h
    try simp only [go_sem, c_bmc_Clauses_l1, c_bmc_Clauses_l2, c_bmc_Clauses_p1, *]
    refine L_bmc_Clauses_L2 p0 r1 x0 s1 H5 ?_ ?_
    ·clear h
     simp only [go_sem, I_bmc_Clauses_L2, c_bmc_Clauses_l1, c_bmc_Clauses_l2, c_bmc_Clauses_p1, *]
    ·intro e τ hJ
     rcases x2 with x2' | x2'
     ·obtain ⟨rfl, f33, f34, f35, f36, f37, f38, f39, f40, ⟨gr_0_41, f41⟩, ⟨gr_1_0, f42⟩, f43, f44, f45, f46⟩ := hJ
      replace h := need h; obtain ⟨H6, h⟩ := h
      have zH6 := @AtFn_sort x2' H6
      replace h := need h; obtain ⟨H7, h⟩ := h
      have zH7 := @AtFn_compact (isort x2') H7
      replace h := bsome h; obtain ⟨x3, H8, h⟩ := h
      try simp only [go_sem, c_bmc_Clauses_l1, c_bmc_Clauses_l2, c_bmc_Clauses_p1, (settle_stl (m := 0) (s := 1) (es := x2'.map eI) (g := gr_1_0)), *]
      refine L_bmc_Clauses_L3 p0 r1 s1 x2' H8 ?_ ?_
      ·clear h
       simp only [go_sem, I_bmc_Clauses_L3, c_bmc_Clauses_l1, c_bmc_Clauses_l2, c_bmc_Clauses_p1, (settle_stl (m := 0) (s := 1) (es := x2'.map eI) (g := gr_1_0)), *]
      ·intro e τ hJ
       rcases x3 with x3' | x3'
       ·obtain ⟨rfl, f47, f48, f49, f50, f51, f52, f53, f54, ⟨gr_0_41, f55⟩, f56, f57, f58, f59, f60⟩ := hJ
        replace h := need h; obtain ⟨H9, h⟩ := h
        cases h
        simp only [go_sem, c_bmc_Clauses_l1, c_bmc_Clauses_l2, c_bmc_Clauses_p1, (settle_stl (m := 0) (s := 1) (es := x2'.map eI) (g := gr_1_0)), *]
       ·obtain ⟨rfl, f61, f62, f63, f64, f65, f66, f67, ⟨gr_0_41, f68⟩, f69, f70, f71, f72⟩ := hJ
        cases h
        simp only [go_sem, c_bmc_Clauses_l1, c_bmc_Clauses_l2, c_bmc_Clauses_p1, (settle_stl (m := 0) (s := 1) (es := x2'.map eI) (g := gr_1_0)), *]
     ·obtain ⟨rfl, f73, f74, f75, f76, f77, f78, f79, ⟨gr_0_41, f80⟩, f81, f82, f83, f84⟩ := hJ
      cases h
      simp only [go_sem, c_bmc_Clauses_l1, c_bmc_Clauses_l2, c_bmc_Clauses_p1, *]
   ·intro e τ hJ
    obtain ⟨rfl, f85, f86, f87, f88, f89, f90, f91, f92, f93, f94, f95, f96, f97, f98, f99, f100, ⟨gr_0_41, f101⟩, f102⟩ := hJ
    cases h
    simp only [go_sem, LQ_inl, I_bmc_Clauses_L1, c_bmc_Clauses_l1, c_bmc_Clauses_l2, *]
  ·cases h
   simp only [go_sem, LQ_inr, J_bmc_Clauses_L1, c_bmc_Clauses_l1, c_bmc_Clauses_l2, *]
) h hI hQ
noncomputable def b_bmc_Clauses_L0 (p0 : S_Circuit) (p1 : Int) (r1 : S_Cnf × Int) (s0 : (List (List Int)) × Int) : Option (((List (List Int)) × Int) ⊕ ((List (List Int)))) :=
 if (decide (s0.2 < (r1.1.Lits.length : Int))) = true then
  (idx r1.1.Lits s0.2).bind fun x0 =>
  (Lp (b_bmc_Clauses_L1 p0 p1 r1 s0 x0) (s0.1, 0)).bind fun x1 =>
  some (Sum.inl (x1, (IntKind.wrap .i64 (s0.2 + 1))))
 else
  some (Sum.inr s0.1)
def I_bmc_Clauses_L0 (p0 : S_Circuit) (p1 : Int) (r1 : S_Cnf × Int) (s0 : (List (List Int)) × Int) (σ : St) : Prop := σ.get 1 = (.d true (.int .i64 p1)) ∧ σ.get 2 = (.ptr 0 0 0) ∧ σ.get 4 = (.ptr 0 1 0) ∧ σ.get 7 = (.ptr 0 4 0) ∧ σ.get 31 = (.row 0 40 0 r1.1.Lits.length 1) ∧ σ.get 32 = (.d true (.int .i64 (r1.1.Lits.length : Int))) ∧ σ.get 33 = (.d true (.int .i64 s0.2)) ∧ σ.obj 0 0 = oB0 p0 ∧ σ.obj 0 1 = oB4 (([] : List (List Int)).length) (([] : List (List Int)).length) ∧ σ.obj 0 2 = some (.rw 1 (([] : List (List Int)).map (eL 1 eI)) false) ∧ σ.obj 0 3 = some (.rw 1 (([] : List (List Int)).map (eL 1 eI)) false) ∧ σ.obj 0 4 = oB8 r1.1.Vars r1.1.Lits.length s0.1.length ∧ σ.obj 0 40 = some (.rw 1 (r1.1.Lits.map (eL 1 eI)) false) ∧ (∃ gr_0_41, σ.obj 0 41 = some (.rw 1 (s0.1.map (eL 1 eI)) gr_0_41)) ∧ σ.up.length = 0
def J_bmc_Clauses_L0 (p0 : S_Circuit) (p1 : Int) (r1 : S_Cnf × Int) (r : (List (List Int))) (e : Ex) (σ' : St) : Prop := e = (.exit 0) ∧ σ'.get 1 = (.d true (.int .i64 p1)) ∧ σ'.get 2 = (.ptr 0 0 0) ∧ σ'.get 4 = (.ptr 0 1 0) ∧ σ'.get 7 = (.ptr 0 4 0) ∧ σ'.obj 0 0 = oB0 p0 ∧ σ'.obj 0 1 = oB4 (([] : List (List Int)).length) (([] : List (List Int)).length) ∧ σ'.obj 0 2 = some (.rw 1 (([] : List (List Int)).map (eL 1 eI)) false) ∧ σ'.obj 0 3 = some (.rw 1 (([] : List (List Int)).map (eL 1 eI)) false) ∧ σ'.obj 0 4 = oB8 r1.1.Vars r1.1.Lits.length r.length ∧ σ'.obj 0 40 = some (.rw 1 (r1.1.Lits.map (eL 1 eI)) false) ∧ (∃ gr_0_41, σ'.obj 0 41 = some (.rw 1 (r.map (eL 1 eI)) gr_0_41)) ∧ σ'.up.length = 0
theorem L_bmc_Clauses_L0 (p0 : S_Circuit) (p1 : Int) (r1 : S_Cnf × Int) {s : (List (List Int)) × Int} {r : (List (List Int))} (h : Lp (b_bmc_Clauses_L0 p0 p1 r1) s = some r) {σ : St} {Q : Ex → St → Prop} (hI : I_bmc_Clauses_L0 p0 p1 r1 s σ) (hQ : ∀ e σ', J_bmc_Clauses_L0 p0 p1 r1 r e σ' → Q e σ') : WC env (.loop c_bmc_Clauses_l2) σ Q :=
 WC_Lp (I_bmc_Clauses_L0 p0 p1 r1) (J_bmc_Clauses_L0 p0 p1 r1) (by
  clear h hI hQ
  clear s r σ Q
  intro s0 σ x hI h
  obtain ⟨f0, f1, f2, f3, f4, f5, f6, f7, f8, f9, f10, f11, f12, ⟨gr_0_41, f13⟩, f14⟩ := hI
  unfold b_bmc_Clauses_L0 at h
  replace h := itb h; rcases h with ⟨c2, h⟩ | ⟨c2, h⟩
  ·replace h := bsome h; obtain ⟨x0, H2, h⟩ := h
   have n0 := idx_n H2; have q0 := idx_q H2; have y0 := idx_x H2
   replace h := bsome h; obtain ⟨x1, H3, h⟩ := h
   try simp only [go_sem, c_bmc_Clauses_l2, *]
   refine L_bmc_Clauses_L1 p0 p1 r1 s0 x0 H3 ?_ ?_
   ·clear h
    simp only [go_sem, I_bmc_Clauses_L1, c_bmc_Clauses_l2, *]
   ·intro e τ hJ
    obtain ⟨rfl, f15, f16, f17, f18, f19, f20, f21, f22, f23, f24, f25, f26, f27, ⟨gr_0_41, f28⟩, f29⟩ := hJ
    cases h
    simp only [go_sem, LQ_inl, I_bmc_Clauses_L0, c_bmc_Clauses_l2, *]
  ·cases h
   simp only [go_sem, LQ_inr, J_bmc_Clauses_L0, c_bmc_Clauses_l2, *]
) h hI hQ
def b_bmc_Clauses_L4 (p0 : S_Circuit) (r1 : S_Cnf × Int) (x0 : (List (List Int))) (x2 : (List Int)) (s4 : (List Int) × Int) : Option (((List Int) × Int) ⊕ (((List Int)) ⊕ (Unit))) :=
 if (decide (s4.2 < (p0.Bads.length : Int))) = true then
  ((idx p0.Bads s4.2).bind fun x4 =>
   (idx x2 (IntKind.wrap .i64 (Int.tdiv x4 2))).bind fun x5 =>
   ((if (decide (x5 ≥ 0)) = true then
      some ((Int.tmod x4 2) == 1)
     else
      some false).bind fun x7 =>
    if x7 = true then
     some (xorI .i64 x5 1)
    else
     some x5).bind fun x6 =>
   if (x6 == 1) = true then
    some (Sum.inr ())
   else
    if (decide (x6 > 0)) = true then
     if s4.1.length + 1 ≤ big then
      some (Sum.inl (s4.1 ++ ([x6] : List Int)))
     else none
    else
     some (Sum.inl s4.1)).bind fun x3 =>
  match x3 with
  | .inl x3' =>
   some (Sum.inl (x3', (IntKind.wrap .i64 (s4.2 + 1))))
  | .inr x3' =>
   some (Sum.inr (Sum.inr ()))
 else
  some (Sum.inr (Sum.inl s4.1))
def I_bmc_Clauses_L4 (p0 : S_Circuit) (r1 : S_Cnf × Int) (x0 : (List (List Int))) (x2 : (List Int)) (s4 : (List Int) × Int) (σ : St) : Prop := σ.get 0 = (.row 1 41 0 x0.length 1) ∧ σ.get 1 = (.d true (.lst 1 (x2.map eI))) ∧ σ.get 7 = (.row 0 0 0 s4.1.length 1) ∧ σ.get 13 = (.d false (.lst 1 (p0.Bads.map eI))) ∧ σ.get 14 = (.d true (.int .i64 (p0.Bads.length : Int))) ∧ σ.get 15 = (.d true (.int .i64 s4.2)) ∧ σ.obj 1 1 = oB4 (([] : List (List Int)).length) (([] : List (List Int)).length) ∧ σ.obj 1 2 = some (.rw 1 (([] : List (List Int)).map (eL 1 eI)) false) ∧ σ.obj 1 3 = some (.rw 1 (([] : List (List Int)).map (eL 1 eI)) false) ∧ σ.obj 1 4 = oB8 r1.1.Vars r1.1.Lits.length x0.length ∧ σ.obj 1 40 = some (.rw 1 (r1.1.Lits.map (eL 1 eI)) false) ∧ (∃ gr_0_41, σ.obj 1 41 = some (.rw 1 (x0.map (eL 1 eI)) gr_0_41)) ∧ (∃ gr_1_0, σ.obj 0 0 = some (.rw 1 (s4.1.map eI) gr_1_0)) ∧ σ.obj 0 2 = none ∧ σ.obj 0 3 = none ∧ σ.obj 0 4 = none ∧ σ.up.length = 1
def J_bmc_Clauses_L4 (p0 : S_Circuit) (r1 : S_Cnf × Int) (x0 : (List (List Int))) (x2 : (List Int)) (r : ((List Int)) ⊕ (Unit)) (e : Ex) (σ' : St) : Prop := (Sum.elim (fun o0 => e = (.exit 0) ∧ σ'.get 0 = (.row 1 41 0 x0.length 1) ∧ σ'.get 7 = (.row 0 0 0 o0.length 1) ∧ σ'.obj 1 1 = oB4 (([] : List (List Int)).length) (([] : List (List Int)).length) ∧ σ'.obj 1 2 = some (.rw 1 (([] : List (List Int)).map (eL 1 eI)) false) ∧ σ'.obj 1 3 = some (.rw 1 (([] : List (List Int)).map (eL 1 eI)) false) ∧ σ'.obj 1 4 = oB8 r1.1.Vars r1.1.Lits.length x0.length ∧ σ'.obj 1 40 = some (.rw 1 (r1.1.Lits.map (eL 1 eI)) false) ∧ (∃ gr_0_41, σ'.obj 1 41 = some (.rw 1 (x0.map (eL 1 eI)) gr_0_41)) ∧ (∃ gr_1_0, σ'.obj 0 0 = some (.rw 1 (o0.map eI) gr_1_0)) ∧ σ'.obj 0 2 = none ∧ σ'.obj 0 3 = none ∧ σ'.obj 0 4 = none ∧ σ'.up.length = 1) (fun o1 => e = .ret ∧ σ'.get 6 = (.row 1 41 0 x0.length 1) ∧ σ'.obj 1 1 = oB4 (([] : List (List Int)).length) (([] : List (List Int)).length) ∧ σ'.obj 1 2 = some (.rw 1 (([] : List (List Int)).map (eL 1 eI)) false) ∧ σ'.obj 1 3 = some (.rw 1 (([] : List (List Int)).map (eL 1 eI)) false) ∧ σ'.obj 1 4 = oB8 r1.1.Vars r1.1.Lits.length x0.length ∧ σ'.obj 1 40 = some (.rw 1 (r1.1.Lits.map (eL 1 eI)) false) ∧ (∃ gr_0_41, σ'.obj 1 41 = some (.rw 1 (x0.map (eL 1 eI)) gr_0_41)) ∧ σ'.obj 0 2 = none ∧ σ'.obj 0 3 = none ∧ σ'.obj 0 4 = none ∧ σ'.up.length = 1)) r
theorem L_bmc_Clauses_L4 (p0 : S_Circuit) (r1 : S_Cnf × Int) (x0 : (List (List Int))) (x2 : (List Int)) {s : (List Int) × Int} {r : ((List Int)) ⊕ (Unit)} (h : Lp (b_bmc_Clauses_L4 p0 r1 x0 x2) s = some r) {σ : St} {Q : Ex → St → Prop} (hI : I_bmc_Clauses_L4 p0 r1 x0 x2 s σ) (hQ : ∀ e σ', J_bmc_Clauses_L4 p0 r1 x0 x2 r e σ' → Q e σ') : WC env (.loop c_bmc_put_l1) σ Q :=
 WC_Lp (I_bmc_Clauses_L4 p0 r1 x0 x2) (J_bmc_Clauses_L4 p0 r1 x0 x2) (by
  clear h hI hQ
  clear s r σ Q
  intro s4 σ x hI h
  obtain ⟨f12, f13, f14, f15, f16, f17, f18, f19, f20, f21, f22, ⟨gr_0_41, f23⟩, ⟨gr_1_0, f24⟩, f25, f26, f27, f28⟩ := hI
  unfold b_bmc_Clauses_L4 at h
  replace h := itb h; rcases h with ⟨c2, h⟩ | ⟨c2, h⟩
  ·replace h := bsome h; obtain ⟨x3, H5, h⟩ := h
   try simp only [go_sem, c_bmc_put_l1, c_bmc_Clauses_p2, *]
   refine WC.mono (Q := fun e σ' => (Sum.elim (fun o0 => e = .normal ∧ σ'.get 0 = (.row 1 41 0 x0.length 1) ∧ σ'.get 1 = (.d true (.lst 1 (x2.map eI))) ∧ σ'.get 7 = (.row 0 0 0 o0.length 1) ∧ σ'.get 13 = (.d false (.lst 1 (p0.Bads.map eI))) ∧ σ'.get 14 = (.d true (.int .i64 (p0.Bads.length : Int))) ∧ σ'.get 15 = (.d true (.int .i64 s4.2)) ∧ σ'.obj 1 1 = oB4 (([] : List (List Int)).length) (([] : List (List Int)).length) ∧ σ'.obj 1 2 = some (.rw 1 (([] : List (List Int)).map (eL 1 eI)) false) ∧ σ'.obj 1 3 = some (.rw 1 (([] : List (List Int)).map (eL 1 eI)) false) ∧ σ'.obj 1 4 = oB8 r1.1.Vars r1.1.Lits.length x0.length ∧ σ'.obj 1 40 = some (.rw 1 (r1.1.Lits.map (eL 1 eI)) false) ∧ (∃ gr_0_41, σ'.obj 1 41 = some (.rw 1 (x0.map (eL 1 eI)) gr_0_41)) ∧ (∃ gr_1_0, σ'.obj 0 0 = some (.rw 1 (o0.map eI) gr_1_0)) ∧ σ'.obj 0 2 = none ∧ σ'.obj 0 3 = none ∧ σ'.obj 0 4 = none ∧ σ'.up.length = 1) (fun o1 => e = .ret ∧ σ'.get 6 = (.row 1 41 0 x0.length 1) ∧ σ'.obj 1 1 = oB4 (([] : List (List Int)).length) (([] : List (List Int)).length) ∧ σ'.obj 1 2 = some (.rw 1 (([] : List (List Int)).map (eL 1 eI)) false) ∧ σ'.obj 1 3 = some (.rw 1 (([] : List (List Int)).map (eL 1 eI)) false) ∧ σ'.obj 1 4 = oB8 r1.1.Vars r1.1.Lits.length x0.length ∧ σ'.obj 1 40 = some (.rw 1 (r1.1.Lits.map (eL 1 eI)) false) ∧ (∃ gr_0_41, σ'.obj 1 41 = some (.rw 1 (x0.map (eL 1 eI)) gr_0_41)) ∧ σ'.obj 0 2 = none ∧ σ'.obj 0 3 = none ∧ σ'.obj 0 4 = none ∧ σ'.up.length = 1)) x3) ?_ ?_
   ·replace h := H5
    clear H5
    replace h := bsome h; obtain ⟨x4, H6, h⟩ := h
    have n1 := idx_n H6; have q1 := idx_q H6; have y1 := idx_x H6
    replace h := bsome h; obtain ⟨x5, H7, h⟩ := h
    have n2 := idx_n H7; have q2 := idx_q H7; have y2 := idx_x H7
    replace h := bsome h; obtain ⟨x6, H8, h⟩ := h
    try simp only [go_sem, c_bmc_put_l1, c_bmc_Clauses_p2, c_bmc_put_p3, *]
    refine WC.mono (Q := fun e σ' => e = .normal ∧ σ'.get 0 = (.row 1 41 0 x0.length 1) ∧ σ'.get 1 = (.d true (.lst 1 (x2.map eI))) ∧ σ'.get 7 = (.row 0 0 0 s4.1.length 1) ∧ σ'.get 10 = (.d true (.int .i64 x6)) ∧ σ'.get 13 = (.d false (.lst 1 (p0.Bads.map eI))) ∧ σ'.get 14 = (.d true (.int .i64 (p0.Bads.length : Int))) ∧ σ'.get 15 = (.d true (.int .i64 s4.2)) ∧ σ'.obj 1 1 = oB4 (([] : List (List Int)).length) (([] : List (List Int)).length) ∧ σ'.obj 1 2 = some (.rw 1 (([] : List (List Int)).map (eL 1 eI)) false) ∧ σ'.obj 1 3 = some (.rw 1 (([] : List (List Int)).map (eL 1 eI)) false) ∧ σ'.obj 1 4 = oB8 r1.1.Vars r1.1.Lits.length x0.length ∧ σ'.obj 1 40 = some (.rw 1 (r1.1.Lits.map (eL 1 eI)) false) ∧ (∃ gr_0_41, σ'.obj 1 41 = some (.rw 1 (x0.map (eL 1 eI)) gr_0_41)) ∧ (∃ gr_1_0, σ'.obj 0 0 = some (.rw 1 (s4.1.map eI) gr_1_0)) ∧ σ'.obj 0 2 = none ∧ σ'.obj 0 3 = none ∧ σ'.obj 0 4 = none ∧ σ'.up.length = 1) ?_ ?_
    ·replace h := H8
     clear H8
     replace h := bsome h; obtain ⟨x7, H9, h⟩ := h
     try simp only [go_sem, c_bmc_put_l1, c_bmc_Clauses_p2, c_bmc_put_p3, c_bmc_put_p2, *]
     refine WC.mono (Q := fun e σ' => e = .normal ∧ σ'.get 0 = (.row 1 41 0 x0.length 1) ∧ σ'.get 1 = (.d true (.lst 1 (x2.map eI))) ∧ σ'.get 7 = (.row 0 0 0 s4.1.length 1) ∧ σ'.get 10 = (.d true (.int .i64 x5)) ∧ σ'.get 13 = (.d false (.lst 1 (p0.Bads.map eI))) ∧ σ'.get 14 = (.d true (.int .i64 (p0.Bads.length : Int))) ∧ σ'.get 15 = (.d true (.int .i64 s4.2)) ∧ σ'.get 30 = (.d true (.bool x7)) ∧ σ'.obj 1 1 = oB4 (([] : List (List Int)).length) (([] : List (List Int)).length) ∧ σ'.obj 1 2 = some (.rw 1 (([] : List (List Int)).map (eL 1 eI)) false) ∧ σ'.obj 1 3 = some (.rw 1 (([] : List (List Int)).map (eL 1 eI)) false) ∧ σ'.obj 1 4 = oB8 r1.1.Vars r1.1.Lits.length x0.length ∧ σ'.obj 1 40 = some (.rw 1 (r1.1.Lits.map (eL 1 eI)) false) ∧ (∃ gr_0_41, σ'.obj 1 41 = some (.rw 1 (x0.map (eL 1 eI)) gr_0_41)) ∧ (∃ gr_1_0, σ'.obj 0 0 = some (.rw 1 (s4.1.map eI) gr_1_0)) ∧ σ'.obj 0 2 = none ∧ σ'.obj 0 3 = none ∧ σ'.obj 0 4 = none ∧ σ'.up.length = 1) ?_ ?_
     ·replace h := H9
      clear H9
      replace h := itb h; rcases h with ⟨c3, h⟩ | ⟨c3, h⟩
      ·cases h
       simp only [go_sem, c_bmc_put_l1, c_bmc_Clauses_p2, c_bmc_put_p3, c_bmc_put_p2, c_bmc_put_p1, *]
      ·cases h
       simp only [go_sem, c_bmc_put_l1, c_bmc_Clauses_p2, c_bmc_put_p3, c_bmc_put_p2, c_bmc_put_p1, *]
     ·intro e τ hJ
      obtain ⟨rfl, f29, f30, f31, f32, f33, f34, f35, f36, f37, f38, f39, f40, f41, ⟨gr_0_41, f42⟩, ⟨gr_1_0, f43⟩, f44, f45, f46, f47⟩ := hJ
      replace h := itb h; rcases h with ⟨c4, h⟩ | ⟨c4, h⟩
      ·cases h
       simp only [go_sem, c_bmc_put_l1, c_bmc_Clauses_p2, c_bmc_put_p3, c_bmc_put_p2, *]
      ·cases h
       simp only [go_sem, c_bmc_put_l1, c_bmc_Clauses_p2, c_bmc_put_p3, c_bmc_put_p2, *]
    ·intro e τ hJ
     obtain ⟨rfl, f48, f49, f50, f51, f52, f53, f54, f55, f56, f57, f58, f59, ⟨gr_0_41, f60⟩, ⟨gr_1_0, f61⟩, f62, f63, f64, f65⟩ := hJ
     replace h := itb h; rcases h with ⟨c5, h⟩ | ⟨c5, h⟩
     ·cases h
      simp only [go_sem, c_bmc_put_l1, c_bmc_Clauses_p2, c_bmc_put_p3, *]
     ·replace h := itb h; rcases h with ⟨c6, h⟩ | ⟨c6, h⟩
      ·replace h := need h; obtain ⟨H10, h⟩ := h
       cases h
       simp only [go_sem, c_bmc_put_l1, c_bmc_Clauses_p2, c_bmc_put_p3, *]
      ·cases h
       simp only [go_sem, c_bmc_put_l1, c_bmc_Clauses_p2, c_bmc_put_p3, *]
   ·intro e τ hJ
    rcases x3 with x3' | x3'
    ·obtain ⟨rfl, f66, f67, f68, f69, f70, f71, f72, f73, f74, f75, f76, ⟨gr_0_41, f77⟩, ⟨gr_1_0, f78⟩, f79, f80, f81, f82⟩ := hJ
     cases h
     simp only [go_sem, LQ_inl, I_bmc_Clauses_L4, c_bmc_put_l1, c_bmc_Clauses_p2, *]
    ·obtain ⟨rfl, f83, f84, f85, f86, f87, f88, ⟨gr_0_41, f89⟩, f90, f91, f92, f93⟩ := hJ
     cases h
     simp only [go_sem, LQ_inr, J_bmc_Clauses_L4, c_bmc_put_l1, c_bmc_Clauses_p2, *]
  ·cases h
   simp only [go_sem, LQ_inr, J_bmc_Clauses_L4, c_bmc_put_l1, c_bmc_Clauses_p2, *]
) h hI hQ
def b_bmc_Clauses_L5 (r1 : S_Cnf × Int) (x0 : (List (List Int))) (x3' : (List Int)) (s5 : Int) : Option ((Int) ⊕ ((Unit) ⊕ (Unit))) :=
 if (decide (s5 < ((dd (isort x3')).length : Int))) = true then
  (idx (dd (isort x3')) s5).bind fun x4 =>
  (if (decide (s5 > 0)) = true then
    (idx (dd (isort x3')) (IntKind.wrap .i64 (s5 - 1))).bind fun x6 =>
    if (x6 == (xorI .i64 x4 1)) = true then
     some ((Int.tmod x4 2) == 1)
    else
     some false
   else
    some false).bind fun x5 =>
  if x5 = true then
   some (Sum.inr (Sum.inr ()))
  else
   some (Sum.inl (IntKind.wrap .i64 (s5 + 1)))
 else
  some (Sum.inr (Sum.inl ()))
def I_bmc_Clauses_L5 (r1 : S_Cnf × Int) (x0 : (List (List Int))) (x3' : (List Int)) (s5 : Int) (σ : St) : Prop := σ.get 0 = (.row 1 41 0 x0.length 1) ∧ σ.get 7 = (.row 0 0 0 ((dd (isort x3')).length) 1) ∧ σ.get 47 = (.row 0 0 0 ((dd (isort x3')).length) 1) ∧ σ.get 48 = (.d true (.int .i64 ((dd (isort x3')).length : Int))) ∧ σ.get 49 = (.d true (.int .i64 s5)) ∧ σ.obj 1 1 = oB4 (([] : List (List Int)).length) (([] : List (List Int)).length) ∧ σ.obj 1 2 = some (.rw 1 (([] : List (List Int)).map (eL 1 eI)) false) ∧ σ.obj 1 3 = some (.rw 1 (([] : List (List Int)).map (eL 1 eI)) false) ∧ σ.obj 1 4 = oB8 r1.1.Vars r1.1.Lits.length x0.length ∧ σ.obj 1 40 = some (.rw 1 (r1.1.Lits.map (eL 1 eI)) false) ∧ (∃ gr_0_41, σ.obj 1 41 = some (.rw 1 (x0.map (eL 1 eI)) gr_0_41)) ∧ σ.obj 0 0 = some (.rw 1 (((dd (isort x3')) ++ zs ((isort x3').length - (dd (isort x3')).length)).map eI) false) ∧ σ.obj 0 2 = none ∧ σ.obj 0 3 = none ∧ σ.obj 0 4 = none ∧ σ.up.length = 1
def J_bmc_Clauses_L5 (r1 : S_Cnf × Int) (x0 : (List (List Int))) (x3' : (List Int)) (r : (Unit) ⊕ (Unit)) (e : Ex) (σ' : St) : Prop := (Sum.elim (fun o0 => e = (.exit 2) ∧ σ'.get 0 = (.row 1 41 0 x0.length 1) ∧ σ'.get 7 = (.row 0 0 0 ((dd (isort x3')).length) 1) ∧ σ'.obj 1 1 = oB4 (([] : List (List Int)).length) (([] : List (List Int)).length) ∧ σ'.obj 1 2 = some (.rw 1 (([] : List (List Int)).map (eL 1 eI)) false) ∧ σ'.obj 1 3 = some (.rw 1 (([] : List (List Int)).map (eL 1 eI)) false) ∧ σ'.obj 1 4 = oB8 r1.1.Vars r1.1.Lits.length x0.length ∧ σ'.obj 1 40 = some (.rw 1 (r1.1.Lits.map (eL 1 eI)) false) ∧ (∃ gr_0_41, σ'.obj 1 41 = some (.rw 1 (x0.map (eL 1 eI)) gr_0_41)) ∧ σ'.obj 0 0 = some (.rw 1 (((dd (isort x3')) ++ zs ((isort x3').length - (dd (isort x3')).length)).map eI) false) ∧ σ'.obj 0 2 = none ∧ σ'.obj 0 3 = none ∧ σ'.obj 0 4 = none ∧ σ'.up.length = 1) (fun o1 => e = .ret ∧ σ'.get 6 = (.row 1 41 0 x0.length 1) ∧ σ'.obj 1 1 = oB4 (([] : List (List Int)).length) (([] : List (List Int)).length) ∧ σ'.obj 1 2 = some (.rw 1 (([] : List (List Int)).map (eL 1 eI)) false) ∧ σ'.obj 1 3 = some (.rw 1 (([] : List (List Int)).map (eL 1 eI)) false) ∧ σ'.obj 1 4 = oB8 r1.1.Vars r1.1.Lits.length x0.length ∧ σ'.obj 1 40 = some (.rw 1 (r1.1.Lits.map (eL 1 eI)) false) ∧ (∃ gr_0_41, σ'.obj 1 41 = some (.rw 1 (x0.map (eL 1 eI)) gr_0_41)) ∧ σ'.obj 0 2 = none ∧ σ'.obj 0 3 = none ∧ σ'.obj 0 4 = none ∧ σ'.up.length = 1)) r
theorem L_bmc_Clauses_L5 (r1 : S_Cnf × Int) (x0 : (List (List Int))) (x3' : (List Int)) {s : Int} {r : (Unit) ⊕ (Unit)} (h : Lp (b_bmc_Clauses_L5 r1 x0 x3') s = some r) {σ : St} {Q : Ex → St → Prop} (hI : I_bmc_Clauses_L5 r1 x0 x3' s σ) (hQ : ∀ e σ', J_bmc_Clauses_L5 r1 x0 x3' r e σ' → Q e σ') : WC env (.loop c_bmc_put_l2) σ Q :=
 WC_Lp (I_bmc_Clauses_L5 r1 x0 x3') (J_bmc_Clauses_L5 r1 x0 x3') (by
  clear h hI hQ
  clear s r σ Q
  intro s5 σ x hI h
  obtain ⟨f25, f26, f27, f28, f29, f30, f31, f32, f33, f34, ⟨gr_0_41, f35⟩, f36, f37, f38, f39, f40⟩ := hI
  unfold b_bmc_Clauses_L5 at h
  replace h := itb h; rcases h with ⟨c2, h⟩ | ⟨c2, h⟩
  ·replace h := bsome h; obtain ⟨x4, H8, h⟩ := h
   have n1 := idx_n H8; have q1 := idx_q H8; have y1 := idx_x H8
   replace y1 := get_head eI q1 y1
   replace h := bsome h; obtain ⟨x5, H9, h⟩ := h
   try simp only [go_sem, c_bmc_put_l2, c_bmc_Clauses_p2, *]
   refine WC.mono (Q := fun e σ' => e = .normal ∧ σ'.get 0 = (.row 1 41 0 x0.length 1) ∧ σ'.get 7 = (.row 0 0 0 ((dd (isort x3')).length) 1) ∧ σ'.get 47 = (.row 0 0 0 ((dd (isort x3')).length) 1) ∧ σ'.get 48 = (.d true (.int .i64 ((dd (isort x3')).length : Int))) ∧ σ'.get 49 = (.d true (.int .i64 s5)) ∧ σ'.get 70 = (.d true (.bool x5)) ∧ σ'.obj 1 1 = oB4 (([] : List (List Int)).length) (([] : List (List Int)).length) ∧ σ'.obj 1 2 = some (.rw 1 (([] : List (List Int)).map (eL 1 eI)) false) ∧ σ'.obj 1 3 = some (.rw 1 (([] : List (List Int)).map (eL 1 eI)) false) ∧ σ'.obj 1 4 = oB8 r1.1.Vars r1.1.Lits.length x0.length ∧ σ'.obj 1 40 = some (.rw 1 (r1.1.Lits.map (eL 1 eI)) false) ∧ (∃ gr_0_41, σ'.obj 1 41 = some (.rw 1 (x0.map (eL 1 eI)) gr_0_41)) ∧ σ'.obj 0 0 = some (.rw 1 (((dd (isort x3')) ++ zs ((isort x3').length - (dd (isort x3')).length)).map eI) false) ∧ σ'.obj 0 2 = none ∧ σ'.obj 0 3 = none ∧ σ'.obj 0 4 = none ∧ σ'.up.length = 1) ?_ ?_
   ·replace h := H9
    clear H9
    replace h := itb h; rcases h with ⟨c3, h⟩ | ⟨c3, h⟩
    ·replace h := bsome h; obtain ⟨x6, H10, h⟩ := h
     have n2 := idx_n H10; have q2 := idx_q H10; have y2 := idx_x H10
     replace y2 := get_head eI q2 y2
     replace h := itb h; rcases h with ⟨c4, h⟩ | ⟨c4, h⟩
     ·cases h
      simp only [go_sem, c_bmc_put_l2, c_bmc_Clauses_p2, c_bmc_put_p4, *]
     ·cases h
      simp only [go_sem, c_bmc_put_l2, c_bmc_Clauses_p2, c_bmc_put_p4, *]
    ·cases h
     simp only [go_sem, c_bmc_put_l2, c_bmc_Clauses_p2, c_bmc_put_p4, *]
   ·intro e τ hJ
    obtain ⟨rfl, f41, f42, f43, f44, f45, f46, f47, f48, f49, f50, f51, ⟨gr_0_41, f52⟩, f53, f54, f55, f56, f57⟩ := hJ
    replace h := itb h; rcases h with ⟨c5, h⟩ | ⟨c5, h⟩
    ·cases h
     simp only [go_sem, LQ_inr, J_bmc_Clauses_L5, c_bmc_put_l2, c_bmc_Clauses_p2, *]
    ·cases h
     simp only [go_sem, LQ_inl, I_bmc_Clauses_L5, c_bmc_put_l2, c_bmc_Clauses_p2, *]
  ·cases h
   simp only [go_sem, LQ_inr, J_bmc_Clauses_L5, c_bmc_put_l2, c_bmc_Clauses_p2, *]
) h hI hQ
noncomputable def s_bmc_Clauses (p0 : S_Circuit) (p1 : Int) : Option (S_Cnf × Int) :=
 (s_bmc_asked p0 p1 0).bind fun r0 =>
 if (r0 != 0) = true then
  some ((S_Cnf.mk 0 ([] : List (List Int)) ([] : List (List Int))), r0)
 else
  (s_unroll_Of p0 (IntKind.wrap .i64 (p1 + 1))).bind fun r1 =>
  if (r1.2 != 0) = true then
   some ((S_Cnf.mk 0 ([] : List (List Int)) ([] : List (List Int))), r1.2)
  else
   (Lp (b_bmc_Clauses_L0 p0 p1 r1) (r1.1.Clauses, 0)).bind fun x0 =>
   ((idx r1.1.Lits p1).bind fun x2 =>
    (Lp (b_bmc_Clauses_L4 p0 r1 x0 x2) (([] : List Int), 0)).bind fun x3 =>
    match x3 with
    | .inl x3' =>
     if x3'.length < 13 then
      if (isort x3').length < 1000000 then
       (Lp (b_bmc_Clauses_L5 r1 x0 x3') 0).bind fun x4 =>
       match x4 with
       | .inl x4' =>
        if x0.length + 1 ≤ big then
         some (x0 ++ ([(dd (isort x3'))] : List (List Int)))
        else none
       | .inr x4' =>
        some x0
      else none
     else none
    | .inr x3' =>
     some x0).bind fun x1 =>
   if (decide ((x1.length : Int) > 20000)) = true then
    some ((S_Cnf.mk 0 ([] : List (List Int)) ([] : List (List Int))), 4)
   else
    some ((S_Cnf.mk r1.1.Vars r1.1.Lits x1), 0)
theorem s_bmc_Clauses_ok {p0 : S_Circuit} {p1 : Int} {r : S_Cnf × Int} (h : s_bmc_Clauses p0 p1 = some r) : Ans env k_bmc_Clauses [(.ag [(.d true (.int .i64 p0.Inputs)), (.d false (.lst 2 (p0.Latches.map eS_Latch))), (.d false (.lst 2 (p0.Ands.map eS_And))), (.d false (.lst 1 (p0.Bads.map eI))), (.d false (.lst 1 (p0.Constraints.map eI)))]), (.d true (.int .i64 p1))] (.tp [(.ag [(.d true (.int .i64 r.1.Vars)), (.d true (.lst 1 (r.1.Lits.map (eL 1 eI)))), (.d true (.lst 1 (r.1.Clauses.map (eL 1 eI))))]), (.d true (.int .i64 r.2))]) := by
 unfold s_bmc_Clauses at h
 unfold Ans
 rw [AtF fn_bmc_Clauses]
 simp only [n_bmc_Clauses]
 replace h := bsome h; obtain ⟨r0, H0, h⟩ := h
 have k0 := AtCall_all (s_bmc_asked_ok H0); try dsimp only at k0
 replace h := itb h; rcases h with ⟨c0, h⟩ | ⟨c0, h⟩
 ·cases h
  simp only [go_sem, *]
  exact ⟨_, rfl⟩
 ·replace h := bsome h; obtain ⟨r1, H1, h⟩ := h
  have k1 := AtCallT_all (s_unroll_Of_tk H1); try dsimp only at k1
  replace h := itb h; rcases h with ⟨c1, h⟩ | ⟨c1, h⟩
  ·cases h
   simp only [go_sem, *]
   exact ⟨_, rfl⟩
  ·replace h := bsome h; obtain ⟨x0, H2, h⟩ := h
   try simp only [go_sem, *]
   refine L_bmc_Clauses_L0 p0 p1 r1 H2 ?_ ?_
   ·clear h
    simp only [go_sem, I_bmc_Clauses_L0, *]
   ·intro e τ hJ
    obtain ⟨rfl, f0, f1, f2, f3, f4, f5, f6, f7, f8, f9, ⟨gr_0_41, f10⟩, f11⟩ := hJ
    replace h := bsome h; obtain ⟨x1, H3, h⟩ := h
    try simp only [go_sem, *]
    refine WC.mono (Q := fun e σ' => e = .normal ∧ σ'.get 4 = (.ptr 0 1 0) ∧ σ'.get 7 = (.ptr 0 4 0) ∧ σ'.obj 0 1 = oB4 (([] : List (List Int)).length) (([] : List (List Int)).length) ∧ σ'.obj 0 2 = some (.rw 1 (([] : List (List Int)).map (eL 1 eI)) false) ∧ σ'.obj 0 3 = some (.rw 1 (([] : List (List Int)).map (eL 1 eI)) false) ∧ σ'.obj 0 4 = oB8 r1.1.Vars r1.1.Lits.length x1.length ∧ σ'.obj 0 40 = some (.rw 1 (r1.1.Lits.map (eL 1 eI)) false) ∧ (∃ gr_0_41, σ'.obj 0 41 = some (.rw 1 (x1.map (eL 1 eI)) gr_0_41)) ∧ σ'.up.length = 0) ?_ ?_
    ·replace h := H3
     clear H3
     replace h := bsome h; obtain ⟨x2, H4, h⟩ := h
     have n0 := idx_n H4; have q0 := idx_q H4; have y0 := idx_x H4
     replace h := bsome h; obtain ⟨x3, H5, h⟩ := h
     try simp only [go_sem, c_bmc_Clauses_p2, *]
     refine L_bmc_Clauses_L4 p0 r1 x0 x2 H5 ?_ ?_
     ·clear h
      simp only [go_sem, I_bmc_Clauses_L4, c_bmc_Clauses_p2, *]
     ·intro e τ hJ
      rcases x3 with x3' | x3'
      ·obtain ⟨rfl, f12, f13, f14, f15, f16, f17, f18, ⟨gr_0_41, f19⟩, ⟨gr_1_0, f20⟩, f21, f22, f23, f24⟩ := hJ
       replace h := need h; obtain ⟨H6, h⟩ := h
       have zH6 := @AtFn_sort x3' H6
       replace h := need h; obtain ⟨H7, h⟩ := h
       have zH7 := @AtFn_compact (isort x3') H7
       replace h := bsome h; obtain ⟨x4, H8, h⟩ := h
       try simp only [go_sem, c_bmc_Clauses_p2, (settle_stl (m := 0) (s := 1) (es := x3'.map eI) (g := gr_1_0)), *]
       refine L_bmc_Clauses_L5 r1 x0 x3' H8 ?_ ?_
       ·clear h
        simp only [go_sem, I_bmc_Clauses_L5, c_bmc_Clauses_p2, (settle_stl (m := 0) (s := 1) (es := x3'.map eI) (g := gr_1_0)), *]
       ·intro e τ hJ
        rcases x4 with x4' | x4'
        ·obtain ⟨rfl, f25, f26, f27, f28, f29, f30, f31, ⟨gr_0_41, f32⟩, f33, f34, f35, f36, f37⟩ := hJ
         replace h := need h; obtain ⟨H9, h⟩ := h
         cases h
         simp only [go_sem, c_bmc_Clauses_p2, (settle_stl (m := 0) (s := 1) (es := x3'.map eI) (g := gr_1_0)), *]
        ·obtain ⟨rfl, f38, f39, f40, f41, f42, f43, ⟨gr_0_41, f44⟩, f45, f46, f47, f48⟩ := hJ
         cases h
         simp only [go_sem, c_bmc_Clauses_p2, (settle_stl (m := 0) (s := 1) (es := x3'.map eI) (g := gr_1_0)), *]
      ·obtain ⟨rfl, f49, f50, f51, f52, f53, f54, ⟨gr_0_41, f55⟩, f56, f57, f58, f59⟩ := hJ
       cases h
       simp only [go_sem, c_bmc_Clauses_p2, *]
    ·intro e τ hJ
     obtain ⟨rfl, f60, f61, f62, f63, f64, f65, f66, ⟨gr_0_41, f67⟩, f68⟩ := hJ
     replace h := itb h; rcases h with ⟨c2, h⟩ | ⟨c2, h⟩
     ·cases h
      simp only [go_sem, *]
      exact ⟨_, rfl⟩
     ·cases h
      simp only [go_sem, *]
      exact ⟨_, rfl⟩
noncomputable def s_ref36_asked (p0 : S_Circuit) (p1 : Int) (p2 : Int) : Option (Int) :=
 (s_ref02_Check p0).bind fun r0 =>
 if (r0 != 0) = true then
  some r0
 else
  (if (decide (p1 < 0)) = true then
    some true
   else
    if (decide (p1 ≥ 100)) = true then
     some true
    else
     if (decide (p2 < 0)) = true then
      some true
     else
      some (decide (p2 > 100000))).bind fun x0 =>
  if x0 = true then
   some 2
  else
   some 0
theorem s_ref36_asked_ok {p0 : S_Circuit} {p1 : Int} {p2 : Int} {r : Int} (h : s_ref36_asked p0 p1 p2 = some r) : Ans env k_ref36_asked [(.ag [(.d true (.int .i64 p0.Inputs)), (.d false (.lst 2 (p0.Latches.map eS_Latch))), (.d false (.lst 2 (p0.Ands.map eS_And))), (.d false (.lst 1 (p0.Bads.map eI))), (.d false (.lst 1 (p0.Constraints.map eI)))]), (.d true (.int .i64 p1)), (.d true (.int .i64 p2))] (.d true (.int .i64 r)) := by
 unfold s_ref36_asked at h
 unfold Ans
 rw [AtF fn_ref36_asked]
 simp only [n_ref36_asked]
 replace h := bsome h; obtain ⟨r0, H0, h⟩ := h
 have k0 := AtCall_all (s_ref02_Check_ok H0); try dsimp only at k0
 replace h := itb h; rcases h with ⟨c0, h⟩ | ⟨c0, h⟩
 ·cases h
  simp only [go_sem, *]
  exact ⟨_, rfl⟩
 ·replace h := bsome h; obtain ⟨x0, H1, h⟩ := h
  try simp only [go_sem, *]
  refine WC.mono (Q := fun e σ' => e = .normal ∧ σ'.get 26 = (.d true (.bool x0)) ∧ σ'.up.length = 0) ?_ ?_
  ·replace h := H1
   clear H1
   replace h := itb h; rcases h with ⟨c1, h⟩ | ⟨c1, h⟩
   ·cases h
    simp only [go_sem, c_ref36_asked_p1, *]
   ·replace h := itb h; rcases h with ⟨c2, h⟩ | ⟨c2, h⟩
    ·cases h
     simp only [go_sem, c_ref36_asked_p1, *]
    ·replace h := itb h; rcases h with ⟨c3, h⟩ | ⟨c3, h⟩
     ·cases h
      simp only [go_sem, c_ref36_asked_p1, *]
     ·cases h
      simp only [go_sem, c_ref36_asked_p1, *]
  ·intro e τ hJ
   obtain ⟨rfl, f0, f1⟩ := hJ
   replace h := itb h; rcases h with ⟨c4, h⟩ | ⟨c4, h⟩
   ·cases h
    simp only [go_sem, *]
    exact ⟨_, rfl⟩
   ·cases h
    simp only [go_sem, *]
    exact ⟨_, rfl⟩
def b_ref23_Resets_L0 (p0 : S_Circuit) (p1 : Bool) (s0 : (List Int) × Int) : Option (((List Int) × Int) ⊕ ((List Int))) :=
 if (decide (s0.2 < (p0.Latches.length : Int))) = true then
  (idx p0.Latches s0.2).bind fun x0 =>
  ((if p1 = true then
     some true
    else
     some (x0.Reset == 2)).bind fun x2 =>
   if x2 = true then
    some (-1)
   else
    some x0.Reset).bind fun x1 =>
  if s0.1.length + 1 ≤ big then
   some (Sum.inl ((s0.1 ++ ([x1] : List Int)), (IntKind.wrap .i64 (s0.2 + 1))))
  else none
 else
  some (Sum.inr s0.1)
def I_ref23_Resets_L0 (p0 : S_Circuit) (p1 : Bool) (s0 : (List Int) × Int) (σ : St) : Prop := σ.get 1 = (.d true (.bool p1)) ∧ σ.get 2 = (.ptr 0 0 0) ∧ σ.get 5 = (.row 0 1 0 s0.1.length 1) ∧ σ.get 6 = (.d true (.int .i64 s0.2)) ∧ σ.obj 0 0 = oB0 p0 ∧ (∃ gr_0_1, σ.obj 0 1 = some (.rw 1 (s0.1.map eI) gr_0_1)) ∧ σ.obj 0 3 = none ∧ σ.up.length = 0
def J_ref23_Resets_L0 (p0 : S_Circuit) (p1 : Bool) (r : (List Int)) (e : Ex) (σ' : St) : Prop := e = (.exit 0) ∧ σ'.get 5 = (.row 0 1 0 r.length 1) ∧ (∃ gr_0_1, σ'.obj 0 1 = some (.rw 1 (r.map eI) gr_0_1)) ∧ σ'.obj 0 3 = none ∧ σ'.up.length = 0
theorem L_ref23_Resets_L0 (p0 : S_Circuit) (p1 : Bool) {s : (List Int) × Int} {r : (List Int)} (h : Lp (b_ref23_Resets_L0 p0 p1) s = some r) {σ : St} {Q : Ex → St → Prop} (hI : I_ref23_Resets_L0 p0 p1 s σ) (hQ : ∀ e σ', J_ref23_Resets_L0 p0 p1 r e σ' → Q e σ') : WC env (.loop c_ref23_Resets_l1) σ Q :=
 WC_Lp (I_ref23_Resets_L0 p0 p1) (J_ref23_Resets_L0 p0 p1) (by
  clear h hI hQ
  clear s r σ Q
  intro s0 σ x hI h
  obtain ⟨f0, f1, f2, f3, f4, ⟨gr_0_1, f5⟩, f6, f7⟩ := hI
  unfold b_ref23_Resets_L0 at h
  replace h := itb h; rcases h with ⟨c0, h⟩ | ⟨c0, h⟩
  ·replace h := bsome h; obtain ⟨x0, H0, h⟩ := h
   have n0 := idx_n H0; have q0 := idx_q H0; have y0 := idx_x H0
   replace h := bsome h; obtain ⟨x1, H1, h⟩ := h
   try simp only [go_sem, c_ref23_Resets_l1, *]
   refine WC.mono (Q := fun e σ' => e = .normal ∧ σ'.get 1 = (.d true (.bool p1)) ∧ σ'.get 2 = (.ptr 0 0 0) ∧ σ'.get 5 = (.row 0 1 0 s0.1.length 1) ∧ σ'.get 6 = (.d true (.int .i64 s0.2)) ∧ σ'.get 7 = (.d true (.int .i64 x1)) ∧ σ'.obj 0 0 = oB0 p0 ∧ (∃ gr_0_1, σ'.obj 0 1 = some (.rw 1 (s0.1.map eI) gr_0_1)) ∧ σ'.obj 0 3 = none ∧ σ'.up.length = 0) ?_ ?_
   ·replace h := H1
    clear H1
    replace h := bsome h; obtain ⟨x2, H2, h⟩ := h
    try simp only [go_sem, c_ref23_Resets_l1, c_ref23_Resets_p2, *]
    refine WC.mono (Q := fun e σ' => e = .normal ∧ σ'.get 1 = (.d true (.bool p1)) ∧ σ'.get 2 = (.ptr 0 0 0) ∧ σ'.get 5 = (.row 0 1 0 s0.1.length 1) ∧ σ'.get 6 = (.d true (.int .i64 s0.2)) ∧ σ'.get 7 = (.d true (.int .i64 x0.Reset)) ∧ σ'.get 25 = (.d true (.bool x2)) ∧ σ'.obj 0 0 = oB0 p0 ∧ (∃ gr_0_1, σ'.obj 0 1 = some (.rw 1 (s0.1.map eI) gr_0_1)) ∧ σ'.obj 0 3 = none ∧ σ'.up.length = 0) ?_ ?_
    ·replace h := H2
     clear H2
     replace h := itb h; rcases h with ⟨c1, h⟩ | ⟨c1, h⟩
     ·cases h
      simp only [go_sem, c_ref23_Resets_l1, c_ref23_Resets_p2, c_ref23_Resets_p1, *]
     ·cases h
      simp only [go_sem, c_ref23_Resets_l1, c_ref23_Resets_p2, c_ref23_Resets_p1, *]
    ·intro e τ hJ
     obtain ⟨rfl, f8, f9, f10, f11, f12, f13, f14, ⟨gr_0_1, f15⟩, f16, f17⟩ := hJ
     replace h := itb h; rcases h with ⟨c2, h⟩ | ⟨c2, h⟩
     ·cases h
      simp only [go_sem, c_ref23_Resets_l1, c_ref23_Resets_p2, *]
     ·cases h
      simp only [go_sem, c_ref23_Resets_l1, c_ref23_Resets_p2, *]
   ·intro e τ hJ
    obtain ⟨rfl, f18, f19, f20, f21, f22, f23, ⟨gr_0_1, f24⟩, f25, f26⟩ := hJ
    replace h := need h; obtain ⟨H3, h⟩ := h
    cases h
    simp only [go_sem, LQ_inl, I_ref23_Resets_L0, c_ref23_Resets_l1, *]
  ·cases h
   simp only [go_sem, LQ_inr, J_ref23_Resets_L0, c_ref23_Resets_l1, *]
) h hI hQ
noncomputable def s_ref23_Resets (p0 : S_Circuit) (p1 : Bool) : Option ((List Int)) :=
 (Lp (b_ref23_Resets_L0 p0 p1) (([] : List Int), 0)).bind fun x0 =>
 some x0
theorem s_ref23_Resets_ok {p0 : S_Circuit} {p1 : Bool} {r : (List Int)} (h : s_ref23_Resets p0 p1 = some r) : Ans env k_ref23_Resets [(.ag [(.d true (.int .i64 p0.Inputs)), (.d false (.lst 2 (p0.Latches.map eS_Latch))), (.d false (.lst 2 (p0.Ands.map eS_And))), (.d false (.lst 1 (p0.Bads.map eI))), (.d false (.lst 1 (p0.Constraints.map eI)))]), (.d true (.bool p1))] (.d true (.lst 1 (r.map eI))) := by
 unfold s_ref23_Resets at h
 unfold Ans
 rw [AtF fn_ref23_Resets]
 simp only [n_ref23_Resets]
 replace h := bsome h; obtain ⟨x0, H0, h⟩ := h
 try simp only [go_sem, *]
 refine L_ref23_Resets_L0 p0 p1 H0 ?_ ?_
 ·clear h
  simp only [go_sem, I_ref23_Resets_L0, *]
 ·intro e τ hJ
  obtain ⟨rfl, f0, ⟨gr_0_1, f1⟩, f2, f3⟩ := hJ
  cases h
  simp only [go_sem, *]
  exact ⟨_, rfl⟩
def s_ref02_Gate (p0 : S_Circuit) (p1 : Int) : Option (Int) :=
 some (IntKind.wrap .i64 ((IntKind.wrap .i64 ((IntKind.wrap .i64 (p1 - 1)) - p0.Inputs)) - (p0.Latches.length : Int)))
theorem s_ref02_Gate_ok {p0 : S_Circuit} {p1 : Int} {r : Int} (h : s_ref02_Gate p0 p1 = some r) : Ans env k_ref02_Gate [(.ag [(.d true (.int .i64 p0.Inputs)), (.d false (.lst 2 (p0.Latches.map eS_Latch))), (.d false (.lst 2 (p0.Ands.map eS_And))), (.d false (.lst 1 (p0.Bads.map eI))), (.d false (.lst 1 (p0.Constraints.map eI)))]), (.d true (.int .i64 p1))] (.d true (.int .i64 r)) := by
 unfold s_ref02_Gate at h
 unfold Ans
 rw [AtF fn_ref02_Gate]
 simp only [n_ref02_Gate]
 cases h
 simp only [go_sem, *]
 exact ⟨_, rfl⟩
def s_ref13_Not (p0 : Int) : Option (Int) :=
 if ((Int.tmod p0 2) == 0) = true then
  some (IntKind.wrap .i64 (p0 + 1))
 else
  some (IntKind.wrap .i64 (p0 - 1))
theorem s_ref13_Not_ok {p0 : Int} {r : Int} (h : s_ref13_Not p0 = some r) : Ans env k_ref13_Not [(.d true (.int .i64 p0))] (.d true (.int .i64 r)) := by
 unfold s_ref13_Not at h
 unfold Ans
 rw [AtF fn_ref13_Not]
 simp only [n_ref13_Not]
 replace h := itb h; rcases h with ⟨c0, h⟩ | ⟨c0, h⟩
 ·cases h
  simp only [go_sem, *]
  exact ⟨_, rfl⟩
 ·cases h
  simp only [go_sem, *]
  exact ⟨_, rfl⟩
noncomputable def s_ref22_Not (p0 : Int) : Option (Int) :=
 (s_ref13_Not p0).bind fun r0 =>
 some r0
theorem s_ref22_Not_ok {p0 : Int} {r : Int} (h : s_ref22_Not p0 = some r) : Ans env k_ref22_Not [(.d true (.int .i64 p0))] (.d true (.int .i64 r)) := by
 unfold s_ref22_Not at h
 unfold Ans
 rw [AtF fn_ref22_Not]
 simp only [n_ref22_Not]
 replace h := bsome h; obtain ⟨r0, H0, h⟩ := h
 have k0 := AtCall_all (s_ref13_Not_ok H0); try dsimp only at k0
 cases h
 simp only [go_sem, *]
 exact ⟨_, rfl⟩
noncomputable def s_ref22_Lit (p0 : (List Int)) (p1 : Int) : Option (Int) :=
 if ((Int.tmod p1 2) == 1) = true then
  (idx p0 (IntKind.wrap .i64 (Int.tdiv p1 2))).bind fun x0 =>
  (s_ref22_Not x0).bind fun r0 =>
  some r0
 else
  (idx p0 (IntKind.wrap .i64 (Int.tdiv p1 2))).bind fun x1 =>
  some x1
theorem s_ref22_Lit_ok {p0 : (List Int)} {p1 : Int} {r : Int} (h : s_ref22_Lit p0 p1 = some r) : Ans env k_ref22_Lit [(.d false (.lst 1 (p0.map eI))), (.d true (.int .i64 p1))] (.d true (.int .i64 r)) := by
 unfold s_ref22_Lit at h
 unfold Ans
 rw [AtF fn_ref22_Lit]
 simp only [n_ref22_Lit]
 replace h := itb h; rcases h with ⟨c0, h⟩ | ⟨c0, h⟩
 ·replace h := bsome h; obtain ⟨x0, H0, h⟩ := h
  have n0 := idx_n H0; have q0 := idx_q H0; have y0 := idx_x H0
  replace h := bsome h; obtain ⟨r0, H1, h⟩ := h
  have k0 := AtCall_all (s_ref22_Not_ok H1); try dsimp only at k0
  cases h
  simp only [go_sem, *]
  exact ⟨_, rfl⟩
 ·replace h := bsome h; obtain ⟨x1, H2, h⟩ := h
  have n1 := idx_n H2; have q1 := idx_q H2; have y1 := idx_x H2
  cases h
  simp only [go_sem, *]
  exact ⟨_, rfl⟩
def b_ref13_Has_L0 (p0 : (List Int)) (p1 : Int) (s0 : Int) : Option ((Int) ⊕ ((Unit) ⊕ (Unit))) :=
 if (decide (s0 < (p0.length : Int))) = true then
  (idx p0 s0).bind fun x0 =>
  if (x0 == p1) = true then
   some (Sum.inr (Sum.inr ()))
  else
   some (Sum.inl (IntKind.wrap .i64 (s0 + 1)))
 else
  some (Sum.inr (Sum.inl ()))
def I_ref13_Has_L0 (p0 : (List Int)) (p1 : Int) (s0 : Int) (σ : St) : Prop := σ.get 0 = (.d false (.lst 1 (p0.map eI))) ∧ σ.get 1 = (.d true (.int .i64 p1)) ∧ σ.get 5 = (.d true (.int .i64 s0)) ∧ σ.up.length = 0
def J_ref13_Has_L0 (p0 : (List Int)) (p1 : Int) (r : (Unit) ⊕ (Unit)) (e : Ex) (σ' : St) : Prop := (Sum.elim (fun o0 => e = (.exit 0) ∧ σ'.up.length = 0) (fun o1 => e = .ret ∧ σ'.get 4 = (.d true (.bool true)) ∧ σ'.up.length = 0)) r
theorem L_ref13_Has_L0 (p0 : (List Int)) (p1 : Int) {s : Int} {r : (Unit) ⊕ (Unit)} (h : Lp (b_ref13_Has_L0 p0 p1) s = some r) {σ : St} {Q : Ex → St → Prop} (hI : I_ref13_Has_L0 p0 p1 s σ) (hQ : ∀ e σ', J_ref13_Has_L0 p0 p1 r e σ' → Q e σ') : WC env (.loop c_ref13_Has_l1) σ Q :=
 WC_Lp (I_ref13_Has_L0 p0 p1) (J_ref13_Has_L0 p0 p1) (by
  clear h hI hQ
  clear s r σ Q
  intro s0 σ x hI h
  obtain ⟨f0, f1, f2, f3⟩ := hI
  unfold b_ref13_Has_L0 at h
  replace h := itb h; rcases h with ⟨c0, h⟩ | ⟨c0, h⟩
  ·replace h := bsome h; obtain ⟨x0, H0, h⟩ := h
   have n0 := idx_n H0; have q0 := idx_q H0; have y0 := idx_x H0
   replace h := itb h; rcases h with ⟨c1, h⟩ | ⟨c1, h⟩
   ·cases h
    simp only [go_sem, LQ_inr, J_ref13_Has_L0, c_ref13_Has_l1, *]
   ·cases h
    simp only [go_sem, LQ_inl, I_ref13_Has_L0, c_ref13_Has_l1, *]
  ·cases h
   simp only [go_sem, LQ_inr, J_ref13_Has_L0, c_ref13_Has_l1, *]
) h hI hQ
noncomputable def s_ref13_Has (p0 : (List Int)) (p1 : Int) : Option (Bool) :=
 (Lp (b_ref13_Has_L0 p0 p1) 0).bind fun x0 =>
 match x0 with
 | .inl x0' =>
  some false
 | .inr x0' =>
  some true
theorem s_ref13_Has_ok {p0 : (List Int)} {p1 : Int} {r : Bool} (h : s_ref13_Has p0 p1 = some r) : Ans env k_ref13_Has [(.d false (.lst 1 (p0.map eI))), (.d true (.int .i64 p1))] (.d true (.bool r)) := by
 unfold s_ref13_Has at h
 unfold Ans
 rw [AtF fn_ref13_Has]
 simp only [n_ref13_Has]
 replace h := bsome h; obtain ⟨x0, H0, h⟩ := h
 try simp only [go_sem, *]
 refine L_ref13_Has_L0 p0 p1 H0 ?_ ?_
 ·clear h
  simp only [go_sem, I_ref13_Has_L0, *]
 ·intro e τ hJ
  rcases x0 with x0' | x0'
  ·obtain ⟨rfl, f0⟩ := hJ
   cases h
   simp only [go_sem, *]
   exact ⟨_, rfl⟩
  ·obtain ⟨rfl, f1, f2⟩ := hJ
   cases h
   simp only [go_sem, *]
   exact ⟨_, rfl⟩
def b_ref13_Without_L0 (p0 : (List Int)) (p1 : Int) (s0 : (List Int) × Int) : Option (((List Int) × Int) ⊕ ((List Int))) :=
 if (decide (s0.2 < (p0.length : Int))) = true then
  ((idx p0 s0.2).bind fun x1 =>
   if (x1 != p1) = true then
    if s0.1.length + 1 ≤ big then
     some (s0.1 ++ ([x1] : List Int))
    else none
   else
    some s0.1).bind fun x0 =>
  some (Sum.inl (x0, (IntKind.wrap .i64 (s0.2 + 1))))
 else
  some (Sum.inr s0.1)
def I_ref13_Without_L0 (p0 : (List Int)) (p1 : Int) (s0 : (List Int) × Int) (σ : St) : Prop := σ.get 0 = (.d false (.lst 1 (p0.map eI))) ∧ σ.get 1 = (.d true (.int .i64 p1)) ∧ σ.get 5 = (.row 0 0 0 s0.1.length 1) ∧ σ.get 6 = (.d true (.int .i64 s0.2)) ∧ (∃ gr_0_0, σ.obj 0 0 = some (.rw 1 (s0.1.map eI) gr_0_0)) ∧ σ.obj 0 2 = none ∧ σ.up.length = 0
def J_ref13_Without_L0 (p0 : (List Int)) (p1 : Int) (r : (List Int)) (e : Ex) (σ' : St) : Prop := e = (.exit 0) ∧ σ'.get 5 = (.row 0 0 0 r.length 1) ∧ (∃ gr_0_0, σ'.obj 0 0 = some (.rw 1 (r.map eI) gr_0_0)) ∧ σ'.obj 0 2 = none ∧ σ'.up.length = 0
theorem L_ref13_Without_L0 (p0 : (List Int)) (p1 : Int) {s : (List Int) × Int} {r : (List Int)} (h : Lp (b_ref13_Without_L0 p0 p1) s = some r) {σ : St} {Q : Ex → St → Prop} (hI : I_ref13_Without_L0 p0 p1 s σ) (hQ : ∀ e σ', J_ref13_Without_L0 p0 p1 r e σ' → Q e σ') : WC env (.loop c_ref13_Without_l1) σ Q :=
 WC_Lp (I_ref13_Without_L0 p0 p1) (J_ref13_Without_L0 p0 p1) (by
  clear h hI hQ
  clear s r σ Q
  intro s0 σ x hI h
  obtain ⟨f0, f1, f2, f3, ⟨gr_0_0, f4⟩, f5, f6⟩ := hI
  unfold b_ref13_Without_L0 at h
  replace h := itb h; rcases h with ⟨c0, h⟩ | ⟨c0, h⟩
  ·replace h := bsome h; obtain ⟨x0, H0, h⟩ := h
   try simp only [go_sem, c_ref13_Without_l1, *]
   refine WC.mono (Q := fun e σ' => e = .normal ∧ σ'.get 0 = (.d false (.lst 1 (p0.map eI))) ∧ σ'.get 1 = (.d true (.int .i64 p1)) ∧ σ'.get 5 = (.row 0 0 0 x0.length 1) ∧ σ'.get 6 = (.d true (.int .i64 s0.2)) ∧ (∃ gr_0_0, σ'.obj 0 0 = some (.rw 1 (x0.map eI) gr_0_0)) ∧ σ'.obj 0 2 = none ∧ σ'.up.length = 0) ?_ ?_
   ·replace h := H0
    clear H0
    replace h := bsome h; obtain ⟨x1, H1, h⟩ := h
    have n0 := idx_n H1; have q0 := idx_q H1; have y0 := idx_x H1
    replace h := itb h; rcases h with ⟨c1, h⟩ | ⟨c1, h⟩
    ·replace h := need h; obtain ⟨H2, h⟩ := h
     cases h
     simp only [go_sem, c_ref13_Without_l1, c_ref13_Without_p1, *]
    ·cases h
     simp only [go_sem, c_ref13_Without_l1, c_ref13_Without_p1, *]
   ·intro e τ hJ
    obtain ⟨rfl, f7, f8, f9, f10, ⟨gr_0_0, f11⟩, f12, f13⟩ := hJ
    cases h
    simp only [go_sem, LQ_inl, I_ref13_Without_L0, c_ref13_Without_l1, *]
  ·cases h
   simp only [go_sem, LQ_inr, J_ref13_Without_L0, c_ref13_Without_l1, *]
) h hI hQ
noncomputable def s_ref13_Without (p0 : (List Int)) (p1 : Int) : Option ((List Int)) :=
 (Lp (b_ref13_Without_L0 p0 p1) (([] : List Int), 0)).bind fun x0 =>
 some x0
theorem s_ref13_Without_ok {p0 : (List Int)} {p1 : Int} {r : (List Int)} (h : s_ref13_Without p0 p1 = some r) : Ans env k_ref13_Without [(.d false (.lst 1 (p0.map eI))), (.d true (.int .i64 p1))] (.d true (.lst 1 (r.map eI))) := by
 unfold s_ref13_Without at h
 unfold Ans
 rw [AtF fn_ref13_Without]
 simp only [n_ref13_Without]
 replace h := bsome h; obtain ⟨x0, H0, h⟩ := h
 try simp only [go_sem, *]
 refine L_ref13_Without_L0 p0 p1 H0 ?_ ?_
 ·clear h
  simp only [go_sem, I_ref13_Without_L0, *]
 ·intro e τ hJ
  obtain ⟨rfl, f0, ⟨gr_0_0, f1⟩, f2, f3⟩ := hJ
  cases h
  simp only [go_sem, *]
  exact ⟨_, rfl⟩
noncomputable def b_ref13_Always_L0 (p0 : (List Int)) (s0 : Int) : Option ((Int) ⊕ ((Unit) ⊕ (Unit))) :=
 if (decide (s0 < (p0.length : Int))) = true then
  (idx p0 s0).bind fun x0 =>
  (s_ref13_Not x0).bind fun r0 =>
  (s_ref13_Has p0 r0).bind fun r1 =>
  if r1 = true then
   some (Sum.inr (Sum.inr ()))
  else
   some (Sum.inl (IntKind.wrap .i64 (s0 + 1)))
 else
  some (Sum.inr (Sum.inl ()))
def I_ref13_Always_L0 (p0 : (List Int)) (s0 : Int) (σ : St) : Prop := σ.get 0 = (.d false (.lst 1 (p0.map eI))) ∧ σ.get 3 = (.d true (.int .i64 s0)) ∧ σ.up.length = 0
def J_ref13_Always_L0 (p0 : (List Int)) (r : (Unit) ⊕ (Unit)) (e : Ex) (σ' : St) : Prop := (Sum.elim (fun o0 => e = (.exit 0) ∧ σ'.up.length = 0) (fun o1 => e = .ret ∧ σ'.get 2 = (.d true (.bool true)) ∧ σ'.up.length = 0)) r
theorem L_ref13_Always_L0 (p0 : (List Int)) {s : Int} {r : (Unit) ⊕ (Unit)} (h : Lp (b_ref13_Always_L0 p0) s = some r) {σ : St} {Q : Ex → St → Prop} (hI : I_ref13_Always_L0 p0 s σ) (hQ : ∀ e σ', J_ref13_Always_L0 p0 r e σ' → Q e σ') : WC env (.loop c_ref13_Always_l1) σ Q :=
 WC_Lp (I_ref13_Always_L0 p0) (J_ref13_Always_L0 p0) (by
  clear h hI hQ
  clear s r σ Q
  intro s0 σ x hI h
  obtain ⟨f0, f1, f2⟩ := hI
  unfold b_ref13_Always_L0 at h
  replace h := itb h; rcases h with ⟨c0, h⟩ | ⟨c0, h⟩
  ·replace h := bsome h; obtain ⟨x0, H0, h⟩ := h
   have n0 := idx_n H0; have q0 := idx_q H0; have y0 := idx_x H0
   replace h := bsome h; obtain ⟨r0, H1, h⟩ := h
   have k0 := AtCall_all (s_ref13_Not_ok H1); try dsimp only at k0
   replace h := bsome h; obtain ⟨r1, H2, h⟩ := h
   have k1 := AtCall_all (s_ref13_Has_ok H2); try dsimp only at k1
   replace h := itb h; rcases h with ⟨c1, h⟩ | ⟨c1, h⟩
   ·cases h
    simp only [go_sem, LQ_inr, J_ref13_Always_L0, c_ref13_Always_l1, *]
   ·cases h
    simp only [go_sem, LQ_inl, I_ref13_Always_L0, c_ref13_Always_l1, *]
  ·cases h
   simp only [go_sem, LQ_inr, J_ref13_Always_L0, c_ref13_Always_l1, *]
) h hI hQ
noncomputable def s_ref13_Always (p0 : (List Int)) : Option (Bool) :=
 (Lp (b_ref13_Always_L0 p0) 0).bind fun x0 =>
 match x0 with
 | .inl x0' =>
  some false
 | .inr x0' =>
  some true
theorem s_ref13_Always_ok {p0 : (List Int)} {r : Bool} (h : s_ref13_Always p0 = some r) : Ans env k_ref13_Always [(.d false (.lst 1 (p0.map eI)))] (.d true (.bool r)) := by
 unfold s_ref13_Always at h
 unfold Ans
 rw [AtF fn_ref13_Always]
 simp only [n_ref13_Always]
 replace h := bsome h; obtain ⟨x0, H0, h⟩ := h
 try simp only [go_sem, *]
 refine L_ref13_Always_L0 p0 H0 ?_ ?_
 ·clear h
  simp only [go_sem, I_ref13_Always_L0, *]
 ·intro e τ hJ
  rcases x0 with x0' | x0'
  ·obtain ⟨rfl, f0⟩ := hJ
   cases h
   simp only [go_sem, *]
   exact ⟨_, rfl⟩
  ·obtain ⟨rfl, f1, f2⟩ := hJ
   cases h
   simp only [go_sem, *]
   exact ⟨_, rfl⟩
def b_ref13_Sorted_L1 (p0 : (List Int)) (s0 : (List Int) × Int) (s1 : (List Int) × Int) : Option (((List Int) × Int) ⊕ ((List Int))) :=
 (if (decide (s1.2 > 0)) = true then
   (idx s1.1 s1.2).bind fun x3 =>
   (idx s1.1 (IntKind.wrap .i64 (s1.2 - 1))).bind fun x4 =>
   some (decide (x3 < x4))
  else
   some false).bind fun x2 =>
 if x2 = true then
  (idx s1.1 (IntKind.wrap .i64 (s1.2 - 1))).bind fun x5 =>
  (idx s1.1 s1.2).bind fun x6 =>
  (idx (s1.1.set (Int.toNat s1.2) x5) (IntKind.wrap .i64 (s1.2 - 1))).bind fun x7 =>
  some (Sum.inl (((s1.1.set (Int.toNat s1.2) x5).set (Int.toNat (IntKind.wrap .i64 (s1.2 - 1))) x6), (IntKind.wrap .i64 (s1.2 - 1))))
 else
  some (Sum.inr s1.1)
def I_ref13_Sorted_L1 (p0 : (List Int)) (s0 : (List Int) × Int) (s1 : (List Int) × Int) (σ : St) : Prop := σ.get 0 = (.d false (.lst 1 (p0.map eI))) ∧ σ.get 3 = (.row 0 0 0 s1.1.length 1) ∧ σ.get 4 = (.d true (.int .i64 s0.2)) ∧ σ.get 5 = (.d true (.int .i64 s1.2)) ∧ σ.obj 0 0 = some (.rw 1 (s1.1.map eI) false) ∧ σ.obj 0 2 = none ∧ σ.up.length = 0
def J_ref13_Sorted_L1 (p0 : (List Int)) (s0 : (List Int) × Int) (r : (List Int)) (e : Ex) (σ' : St) : Prop := e = (.exit 2) ∧ σ'.get 0 = (.d false (.lst 1 (p0.map eI))) ∧ σ'.get 3 = (.row 0 0 0 r.length 1) ∧ σ'.get 4 = (.d true (.int .i64 s0.2)) ∧ σ'.obj 0 0 = some (.rw 1 (r.map eI) false) ∧ σ'.obj 0 2 = none ∧ σ'.up.length = 0
theorem L_ref13_Sorted_L1 (p0 : (List Int)) (s0 : (List Int) × Int) {s : (List Int) × Int} {r : (List Int)} (h : Lp (b_ref13_Sorted_L1 p0 s0) s = some r) {σ : St} {Q : Ex → St → Prop} (hI : I_ref13_Sorted_L1 p0 s0 s σ) (hQ : ∀ e σ', J_ref13_Sorted_L1 p0 s0 r e σ' → Q e σ') : WC env (.loop c_ref13_Sorted_l1) σ Q :=
 WC_Lp (I_ref13_Sorted_L1 p0 s0) (J_ref13_Sorted_L1 p0 s0) (by
  clear h hI hQ
  clear s r σ Q
  intro s1 σ x hI h
  obtain ⟨f6, f7, f8, f9, f10, f11, f12⟩ := hI
  unfold b_ref13_Sorted_L1 at h
  replace h := bsome h; obtain ⟨x2, H4, h⟩ := h
  try simp only [go_sem, c_ref13_Sorted_l1, c_ref13_Sorted_l2, c_ref13_Sorted_p2, *]
  refine WC.mono (Q := fun e σ' => e = .normal ∧ σ'.get 0 = (.d false (.lst 1 (p0.map eI))) ∧ σ'.get 3 = (.row 0 0 0 s1.1.length 1) ∧ σ'.get 4 = (.d true (.int .i64 s0.2)) ∧ σ'.get 5 = (.d true (.int .i64 s1.2)) ∧ σ'.get 41 = (.d true (.bool x2)) ∧ σ'.obj 0 0 = some (.rw 1 (s1.1.map eI) false) ∧ σ'.obj 0 2 = none ∧ σ'.up.length = 0) ?_ ?_
  ·replace h := H4
   clear H4
   replace h := itb h; rcases h with ⟨c2, h⟩ | ⟨c2, h⟩
   ·replace h := bsome h; obtain ⟨x3, H5, h⟩ := h
    have n1 := idx_n H5; have q1 := idx_q H5; have y1 := idx_x H5
    replace h := bsome h; obtain ⟨x4, H6, h⟩ := h
    have n2 := idx_n H6; have q2 := idx_q H6; have y2 := idx_x H6
    cases h
    simp only [go_sem, c_ref13_Sorted_l1, c_ref13_Sorted_l2, c_ref13_Sorted_p2, c_ref13_Sorted_p1, *]
   ·cases h
    simp only [go_sem, c_ref13_Sorted_l1, c_ref13_Sorted_l2, c_ref13_Sorted_p2, c_ref13_Sorted_p1, *]
  ·intro e τ hJ
   obtain ⟨rfl, f13, f14, f15, f16, f17, f18, f19, f20⟩ := hJ
   replace h := itb h; rcases h with ⟨c3, h⟩ | ⟨c3, h⟩
   ·replace h := bsome h; obtain ⟨x5, H7, h⟩ := h
    have n3 := idx_n H7; have q3 := idx_q H7; have y3 := idx_x H7
    replace h := bsome h; obtain ⟨x6, H8, h⟩ := h
    have n4 := idx_n H8; have q4 := idx_q H8; have y4 := idx_x H8
    replace h := bsome h; obtain ⟨x7, H9, h⟩ := h
    have n5 := idx_n H9; have q5 := idx_q H9; have y5 := idx_x H9
    try simp only [List.length_cons, List.length_nil, cpl_length, List.length_append, List.length_set, List.length_replicate, Nat.zero_add, Nat.reduceAdd] at n5 q5
    replace y5 := idx_m eI H9; try simp only [List.map_cons, List.map_nil, List.map_append, List.map_set, List.nil_append, List.map_replicate, eI, eU8, eB, eL, eS_Latch, eS_And, eS_Circuit, eS_Cnf, eA4_Int, List.length_map] at y5
    cases h
    simp only [go_sem, LQ_inl, I_ref13_Sorted_L1, c_ref13_Sorted_l1, c_ref13_Sorted_l2, c_ref13_Sorted_p2, *]
   ·cases h
    simp only [go_sem, LQ_inr, J_ref13_Sorted_L1, c_ref13_Sorted_l1, c_ref13_Sorted_l2, c_ref13_Sorted_p2, *]
) h hI hQ
noncomputable def b_ref13_Sorted_L0 (p0 : (List Int)) (s0 : (List Int) × Int) : Option (((List Int) × Int) ⊕ ((List Int))) :=
 if (decide (s0.2 < (p0.length : Int))) = true then
  ((idx p0 s0.2).bind fun x1 =>
   (s_ref13_Has s0.1 x1).bind fun r0 =>
   if r0 = true then
    some s0.1
   else
    if s0.1.length + 1 ≤ big then
     (Lp (b_ref13_Sorted_L1 p0 s0) ((s0.1 ++ ([x1] : List Int)), (IntKind.wrap .i64 (((s0.1 ++ ([x1] : List Int)).length : Int) - 1)))).bind fun x2 =>
     some x2
    else none).bind fun x0 =>
  some (Sum.inl (x0, (IntKind.wrap .i64 (s0.2 + 1))))
 else
  some (Sum.inr s0.1)
def I_ref13_Sorted_L0 (p0 : (List Int)) (s0 : (List Int) × Int) (σ : St) : Prop := σ.get 0 = (.d false (.lst 1 (p0.map eI))) ∧ σ.get 3 = (.row 0 0 0 s0.1.length 1) ∧ σ.get 4 = (.d true (.int .i64 s0.2)) ∧ σ.obj 0 0 = some (.rw 1 (s0.1.map eI) false) ∧ σ.obj 0 2 = none ∧ σ.up.length = 0
def J_ref13_Sorted_L0 (p0 : (List Int)) (r : (List Int)) (e : Ex) (σ' : St) : Prop := e = (.exit 0) ∧ σ'.get 3 = (.row 0 0 0 r.length 1) ∧ σ'.obj 0 0 = some (.rw 1 (r.map eI) false) ∧ σ'.obj 0 2 = none ∧ σ'.up.length = 0
theorem L_ref13_Sorted_L0 (p0 : (List Int)) {s : (List Int) × Int} {r : (List Int)} (h : Lp (b_ref13_Sorted_L0 p0) s = some r) {σ : St} {Q : Ex → St → Prop} (hI : I_ref13_Sorted_L0 p0 s σ) (hQ : ∀ e σ', J_ref13_Sorted_L0 p0 r e σ' → Q e σ') : WC env (.loop c_ref13_Sorted_l2) σ Q :=
 WC_Lp (I_ref13_Sorted_L0 p0) (J_ref13_Sorted_L0 p0) (by
  clear h hI hQ
  clear s r σ Q
  intro s0 σ x hI h
  obtain ⟨f0, f1, f2, f3, f4, f5⟩ := hI
  unfold b_ref13_Sorted_L0 at h
  replace h := itb h; rcases h with ⟨c0, h⟩ | ⟨c0, h⟩
  ·replace h := bsome h; obtain ⟨x0, H0, h⟩ := h
   try simp only [go_sem, c_ref13_Sorted_l2, *]
   refine WC.mono (Q := fun e σ' => e = .normal ∧ σ'.get 0 = (.d false (.lst 1 (p0.map eI))) ∧ σ'.get 3 = (.row 0 0 0 x0.length 1) ∧ σ'.get 4 = (.d true (.int .i64 s0.2)) ∧ σ'.obj 0 0 = some (.rw 1 (x0.map eI) false) ∧ σ'.obj 0 2 = none ∧ σ'.up.length = 0) ?_ ?_
   ·replace h := H0
    clear H0
    replace h := bsome h; obtain ⟨x1, H1, h⟩ := h
    have n0 := idx_n H1; have q0 := idx_q H1; have y0 := idx_x H1
    replace h := bsome h; obtain ⟨r0, H2, h⟩ := h
    have k0 := AtCall_all (s_ref13_Has_ok H2); try dsimp only at k0
    replace h := itb h; rcases h with ⟨c1, h⟩ | ⟨c1, h⟩
    ·cases h
     simp only [go_sem, c_ref13_Sorted_l2, c_ref13_Sorted_p2, *]
    ·replace h := need h; obtain ⟨H3, h⟩ := h
     replace h := bsome h; obtain ⟨x2, H4, h⟩ := h
     try simp only [go_sem, c_ref13_Sorted_l2, c_ref13_Sorted_p2, (settle_stl (m := 0) (s := 1) (es := (s0.1 ++ ([x1] : List Int)).map eI) (g := true)), *]
     refine L_ref13_Sorted_L1 p0 s0 H4 ?_ ?_
     ·clear h
      simp only [go_sem, I_ref13_Sorted_L1, c_ref13_Sorted_l2, c_ref13_Sorted_p2, (settle_stl (m := 0) (s := 1) (es := (s0.1 ++ ([x1] : List Int)).map eI) (g := true)), *]
     ·intro e τ hJ
      obtain ⟨rfl, f6, f7, f8, f9, f10, f11⟩ := hJ
      cases h
      simp only [go_sem, c_ref13_Sorted_l2, c_ref13_Sorted_p2, (settle_stl (m := 0) (s := 1) (es := (s0.1 ++ ([x1] : List Int)).map eI) (g := true)), *]
   ·intro e τ hJ
    obtain ⟨rfl, f12, f13, f14, f15, f16, f17⟩ := hJ
    cases h
    simp only [go_sem, LQ_inl, I_ref13_Sorted_L0, c_ref13_Sorted_l2, *]
  ·cases h
   simp only [go_sem, LQ_inr, J_ref13_Sorted_L0, c_ref13_Sorted_l2, *]
) h hI hQ
noncomputable def s_ref13_Sorted (p0 : (List Int)) : Option ((List Int)) :=
 (Lp (b_ref13_Sorted_L0 p0) (([] : List Int), 0)).bind fun x0 =>
 some x0
theorem s_ref13_Sorted_ok {p0 : (List Int)} {r : (List Int)} (h : s_ref13_Sorted p0 = some r) : Ans env k_ref13_Sorted [(.d false (.lst 1 (p0.map eI)))] (.d true (.lst 1 (r.map eI))) := by
 unfold s_ref13_Sorted at h
 unfold Ans
 rw [AtF fn_ref13_Sorted]
 simp only [n_ref13_Sorted]
 replace h := bsome h; obtain ⟨x0, H0, h⟩ := h
 try simp only [go_sem, *]
 refine L_ref13_Sorted_L0 p0 H0 ?_ ?_
 ·clear h
  simp only [go_sem, I_ref13_Sorted_L0, *]
 ·intro e τ hJ
  obtain ⟨rfl, f0, f1, f2, f3⟩ := hJ
  cases h
  simp only [go_sem, *]
  exact ⟨_, rfl⟩
noncomputable def b_ref23_Behind_L0 (p0 : S_Circuit) (p1 : (List Int)) (s0 : (List Int) × Int) : Option (((List Int) × Int) ⊕ ((List Int))) :=
 if (decide (s0.2 < (p0.Latches.length : Int))) = true then
  (idx p0.Latches s0.2).bind fun x0 =>
  (s_ref22_Lit p1 x0.Next).bind fun r0 =>
  if s0.1.length + 1 ≤ big then
   some (Sum.inl ((s0.1 ++ ([r0] : List Int)), (IntKind.wrap .i64 (s0.2 + 1))))
  else none
 else
  some (Sum.inr s0.1)
def I_ref23_Behind_L0 (p0 : S_Circuit) (p1 : (List Int)) (s0 : (List Int) × Int) (σ : St) : Prop := σ.get 1 = (.d false (.lst 1 (p1.map eI))) ∧ σ.get 2 = (.ptr 0 0 0) ∧ σ.get 5 = (.row 0 1 0 s0.1.length 1) ∧ σ.get 6 = (.d true (.int .i64 s0.2)) ∧ σ.obj 0 0 = oB0 p0 ∧ (∃ gr_0_1, σ.obj 0 1 = some (.rw 1 (s0.1.map eI) gr_0_1)) ∧ σ.obj 0 3 = none ∧ σ.up.length = 0
def J_ref23_Behind_L0 (p0 : S_Circuit) (p1 : (List Int)) (r : (List Int)) (e : Ex) (σ' : St) : Prop := e = (.exit 0) ∧ σ'.get 5 = (.row 0 1 0 r.length 1) ∧ (∃ gr_0_1, σ'.obj 0 1 = some (.rw 1 (r.map eI) gr_0_1)) ∧ σ'.obj 0 3 = none ∧ σ'.up.length = 0
theorem L_ref23_Behind_L0 (p0 : S_Circuit) (p1 : (List Int)) {s : (List Int) × Int} {r : (List Int)} (h : Lp (b_ref23_Behind_L0 p0 p1) s = some r) {σ : St} {Q : Ex → St → Prop} (hI : I_ref23_Behind_L0 p0 p1 s σ) (hQ : ∀ e σ', J_ref23_Behind_L0 p0 p1 r e σ' → Q e σ') : WC env (.loop c_ref23_Behind_l1) σ Q :=
 WC_Lp (I_ref23_Behind_L0 p0 p1) (J_ref23_Behind_L0 p0 p1) (by
  clear h hI hQ
  clear s r σ Q
  intro s0 σ x hI h
  obtain ⟨f0, f1, f2, f3, f4, ⟨gr_0_1, f5⟩, f6, f7⟩ := hI
  unfold b_ref23_Behind_L0 at h
  replace h := itb h; rcases h with ⟨c0, h⟩ | ⟨c0, h⟩
  ·replace h := bsome h; obtain ⟨x0, H0, h⟩ := h
   have n0 := idx_n H0; have q0 := idx_q H0; have y0 := idx_x H0
   replace h := bsome h; obtain ⟨r0, H1, h⟩ := h
   have k0 := AtCall_all (s_ref22_Lit_ok H1); try dsimp only at k0
   replace h := need h; obtain ⟨H2, h⟩ := h
   cases h
   simp only [go_sem, LQ_inl, I_ref23_Behind_L0, c_ref23_Behind_l1, *]
  ·cases h
   simp only [go_sem, LQ_inr, J_ref23_Behind_L0, c_ref23_Behind_l1, *]
) h hI hQ
noncomputable def s_ref23_Behind (p0 : S_Circuit) (p1 : (List Int)) : Option ((List Int)) :=
 (Lp (b_ref23_Behind_L0 p0 p1) (([] : List Int), 0)).bind fun x0 =>
 some x0
theorem s_ref23_Behind_ok {p0 : S_Circuit} {p1 : (List Int)} {r : (List Int)} (h : s_ref23_Behind p0 p1 = some r) : Ans env k_ref23_Behind [(.ag [(.d true (.int .i64 p0.Inputs)), (.d false (.lst 2 (p0.Latches.map eS_Latch))), (.d false (.lst 2 (p0.Ands.map eS_And))), (.d false (.lst 1 (p0.Bads.map eI))), (.d false (.lst 1 (p0.Constraints.map eI)))]), (.d false (.lst 1 (p1.map eI)))] (.d true (.lst 1 (r.map eI))) := by
 unfold s_ref23_Behind at h
 unfold Ans
 rw [AtF fn_ref23_Behind]
 simp only [n_ref23_Behind]
 replace h := bsome h; obtain ⟨x0, H0, h⟩ := h
 try simp only [go_sem, *]
 refine L_ref23_Behind_L0 p0 p1 H0 ?_ ?_
 ·clear h
  simp only [go_sem, I_ref23_Behind_L0, *]
 ·intro e τ hJ
  obtain ⟨rfl, f0, ⟨gr_0_1, f1⟩, f2, f3⟩ := hJ
  cases h
  simp only [go_sem, *]
  exact ⟨_, rfl⟩
end Go.Proofs.Ytbmhmfcjjhjkgaa.Vm
