/- Walks over the code of functions. Printed. -/
import Derived.Test.YtbmhmfcjjhjkgaaVmH5
namespace Go.Proofs.Ytbmhmfcjjhjkgaa.Vm
open Go
set_option linter.unusedSimpArgs false
set_option linter.unusedVariables false
set_option maxRecDepth 4000
set_option maxHeartbeats 4000000
attribute [local go_sem] WC_skip WC_exit WC_ret WC_seq WC_block WC_cond WC_rg KSeq_normal KSeq_ret KSeq_exit KBlock_normal KBlock_ret KBlock_exit KN_eq KRg_eq KSt_eq KSet_eq KLen_eq KPick_eq KG_eq KCond_eq boolP_d biteC_true biteC_false biteO_true biteO_false WO_nil WO_mv WO_nilr WO_pick WO_bin WO_beq WO_eqs WO_un WO_cvt WO_alloc WO_box WO_load WO_store WO_fad WO_fval WO_ix WO_ixb WO_ixa WO_bld WO_bsl WO_mks WO_slc WO_len WO_mx WO_mn WO_app WO_cpy WO_clr WO_xt WO_fn WO_chk WO_g
  WO_call WO_callv callK KHand KCallv KRes KBack_ret KRet_eq KAns env_fn St.hand St.lend St.lends St.lend1 St.vals St.frz St.frz1 St.rowOf List.foldl_nil List.foldl_cons List.map_cons List.map_nil
  optP_some optP_none
  St.get_set St.obj_set St.get_setObj St.obj_setObj St.get_kill St.obj_kill0 St.obj_killS St.get_ini St.obj_ini0 gt_nil gt_zero gt_succ St.val_t St.val_c
  stl_get stl_obj0 stl_objS stl_upl stv_d stv_dx stv_nil stv_row0 stv_rowS stv_ptr stv_rel0 stv_pd stv_ag stv_tp stv_cl stvs_nil stvs_cons obs_box obs_rw obs_fz
  ret_get ret_obj ret_up ini_objS ini_upl ini_upl0 set_upl kill_upl setObj_upl0 setObj_uplS
  kill_d kill_dx kill_nil kill_row0 kill_rowS kill_ptr0 kill_ptrS kill_rel0 kill_relS kill_pd kill_ag kill_tp kill_cl kills_nil kills_cons obk_box obk_rw obk_fz
  pre step bin_int bin_shr bin_shl beq_bool arith_add arith_sub arith_mul arith_and arith_or arith_xor arith_eql arith_neq arith_lss arith_leq arith_gtr arith_geq arith_quo2 arith_rem2 arith_shr1 arith_shl1 maxOf_two minOf_two un lenOf cellsOf ofCells wid sub? slice_map slice_head slice_full' slice_z slice_c slice_s put St.new zcells St.load St.store Vm.fad St.ix St.slc St.els St.app St.wants St.skip I.dst resVal resVals Z.v Z.t? ofT T.cells V.shift V.shifts V.down V.downs downL chkV eqs eqFlat fill fillT flatFill T.noL T.flat
  dat dat2 dat1 dats1 dats2 Fn.pure
  Option.map_some Option.map_none Option.bind_some List.length_cons List.length_nil List.length_append List.length_set List.length_map List.length_replicate List.map_append List.map_set List.map_replicate List.getElem?_map List.getElem?_cons_zero List.getElem?_cons_succ List.drop_zero List.take_zero List.drop_succ_cons List.take_succ_cons List.take_nil List.drop_nil List.zip_cons_cons List.zip_nil_left List.zip_nil_right List.mapM_cons List.mapM_nil Option.pure_def Option.bind_eq_bind List.all_cons List.all_nil List.append_eq_nil_iff List.cons_ne_nil List.map_eq_nil_iff List.set_cons_zero List.set_cons_succ List.replicate_succ List.replicate_zero
  Nat.reduceEqDiff Nat.reduceLeDiff Nat.reduceAdd Nat.reduceSub Nat.reduceLT Nat.reduceMul Nat.reduceBEq Nat.ble_eq reduceIte reduceCtorEq Nat.add_zero Nat.sub_zero Nat.zero_add and_true true_and and_false false_and and_self or_true true_or false_or or_false if_true if_false Nat.one_ne_zero not_true not_false_eq_true not_false_iff Bool.false_eq_true forall_const true_implies false_implies implies_true BEq.rfl Bool.not_true Bool.not_false Bool.and_true Bool.true_and Bool.and_false Bool.false_and Bool.and_self not_true_eq_false List.nil_append List.append_nil List.cons_append dInt dBool Nat.le_refl Nat.le_add_right St.toT St.toTs ne_eq
  Sum.elim_inl Sum.elim_inr Option.some.injEq Ob.rw.injEq exists_eq2 eI eU8 eU64 eB eL eS_Latch eS_And eS_Circuit eS_Cnf eA4_Int oB0 oB1 oB2 oB3 oB4 oB5 oB6 oB7 oB8 oB9 oB10 oB11 oB12 oB13 c_ref13_Sorted c_ref23_Behind fn_ref13_Has fn_ref22_Lit n_ref13_Has n_ref22_Lit
def b_ref13_Sorted_L1 (p0 : (List Int)) (s0 : (List Int) × Int) (s1 : (List Int) × Int) : Option (((List Int) × Int) ⊕ ((List Int))) :=
  (if (decide (s1.2 > 0)) = true then
      (idx s1.1 s1.2).bind fun x3 =>
      (idx s1.1 (IntKind.wrap .i64 (s1.2 - 1))).bind fun x4 =>
      some (decide (x3 < x4))
    else
      some false).bind fun x2 =>
  if x2 = true then
    (idx s1.1 (IntKind.wrap .i64 (s1.2 - 1))).bind fun x5 =>
    (idx s1.1 s1.2).bind fun x6 =>
    (idx (s1.1.set (Int.toNat s1.2) x5) (IntKind.wrap .i64 (s1.2 - 1))).bind fun x7 =>
    some (Sum.inl (((s1.1.set (Int.toNat s1.2) x5).set (Int.toNat (IntKind.wrap .i64 (s1.2 - 1))) x6), (IntKind.wrap .i64 (s1.2 - 1))))
  else
    some (Sum.inr s1.1)
def I_ref13_Sorted_L1 (p0 : (List Int)) (s0 : (List Int) × Int) (s1 : (List Int) × Int) (σ : St) : Prop := σ.get 0 = (.d false (.lst 1 (p0.map eI))) ∧ σ.get 3 = (.row 0 0 0 s1.1.length 1) ∧ σ.get 4 = (.d true (.int .i64 s0.2)) ∧ σ.get 5 = (.d true (.int .i64 s1.2)) ∧ σ.obj 0 0 = some (.rw 1 (s1.1.map eI) false) ∧ σ.obj 0 2 = none ∧ σ.up.length = 0
def J_ref13_Sorted_L1 (p0 : (List Int)) (s0 : (List Int) × Int) (r : (List Int)) (e : Ex) (σ' : St) : Prop := e = (.exit 2) ∧ σ'.get 0 = (.d false (.lst 1 (p0.map eI))) ∧ σ'.get 3 = (.row 0 0 0 r.length 1) ∧ σ'.get 4 = (.d true (.int .i64 s0.2)) ∧ σ'.obj 0 0 = some (.rw 1 (r.map eI) false) ∧ σ'.obj 0 2 = none ∧ σ'.up.length = 0
theorem L_ref13_Sorted_L1 (p0 : (List Int)) (s0 : (List Int) × Int) {s : (List Int) × Int} {r : (List Int)} (h : Lp (b_ref13_Sorted_L1 p0 s0) s = some r) {σ : St} {Q : Ex → St → Prop} (hI : I_ref13_Sorted_L1 p0 s0 s σ) (hQ : ∀ e σ', J_ref13_Sorted_L1 p0 s0 r e σ' → Q e σ') : WC env (.loop c_ref13_Sorted_l1) σ Q :=
  WC_Lp (I_ref13_Sorted_L1 p0 s0) (J_ref13_Sorted_L1 p0 s0) (by
    clear h hI hQ
    clear s r σ Q
    intro s1 σ x hI h
    obtain ⟨f6, f7, f8, f9, f10, f11, f12⟩ := hI
    unfold b_ref13_Sorted_L1 at h
    replace h := bsome h; obtain ⟨x2, H5, h⟩ := h
    try simp only [go_sem, c_ref13_Sorted_l1, c_ref13_Sorted_l2, c_ref13_Sorted_p2, *]
    refine WC.mono (Q := fun e σ' => e = .normal ∧ σ'.get 0 = (.d false (.lst 1 (p0.map eI))) ∧ σ'.get 3 = (.row 0 0 0 s1.1.length 1) ∧ σ'.get 4 = (.d true (.int .i64 s0.2)) ∧ σ'.get 5 = (.d true (.int .i64 s1.2)) ∧ σ'.get 41 = (.d true (.bool x2)) ∧ σ'.obj 0 0 = some (.rw 1 (s1.1.map eI) false) ∧ σ'.obj 0 2 = none ∧ σ'.up.length = 0) ?_ ?_
    · replace h := H5
      clear H5
      replace h := itb h; rcases h with ⟨c2, h⟩ | ⟨c2, h⟩
      · replace h := bsome h; obtain ⟨x3, H6, h⟩ := h
        have n1 := idx_n H6; have q1 := idx_q H6; have y1 := idx_x H6
        replace h := bsome h; obtain ⟨x4, H7, h⟩ := h
        have n2 := idx_n H7; have q2 := idx_q H7; have y2 := idx_x H7
        cases h
        simp only [go_sem, c_ref13_Sorted_l1, c_ref13_Sorted_l2, c_ref13_Sorted_p2, c_ref13_Sorted_p1, *]
      · cases h
        simp only [go_sem, c_ref13_Sorted_l1, c_ref13_Sorted_l2, c_ref13_Sorted_p2, c_ref13_Sorted_p1, *]
    · intro e τ hJ
      obtain ⟨rfl, f13, f14, f15, f16, f17, f18, f19, f20⟩ := hJ
      replace h := itb h; rcases h with ⟨c3, h⟩ | ⟨c3, h⟩
      · replace h := bsome h; obtain ⟨x5, H8, h⟩ := h
        have n3 := idx_n H8; have q3 := idx_q H8; have y3 := idx_x H8
        replace h := bsome h; obtain ⟨x6, H9, h⟩ := h
        have n4 := idx_n H9; have q4 := idx_q H9; have y4 := idx_x H9
        replace h := bsome h; obtain ⟨x7, H10, h⟩ := h
        have n5 := idx_n H10; have q5 := idx_q H10; have y5 := idx_x H10
        try simp only [List.length_cons, List.length_nil, List.length_append, List.length_set, List.length_replicate, Nat.zero_add, Nat.reduceAdd] at n5 q5
        replace y5 := idx_m eI H10; try simp only [List.map_cons, List.map_nil, List.map_append, List.map_set, List.nil_append, List.map_replicate, eI, eU8, eB, eL, eS_Latch, eS_And, eS_Circuit, eS_Cnf, eA4_Int, List.length_map] at y5
        cases h
        simp only [go_sem, LQ_inl, I_ref13_Sorted_L1, c_ref13_Sorted_l1, c_ref13_Sorted_l2, c_ref13_Sorted_p2, *]
      · cases h
        simp only [go_sem, LQ_inr, J_ref13_Sorted_L1, c_ref13_Sorted_l1, c_ref13_Sorted_l2, c_ref13_Sorted_p2, *]
) h hI hQ
noncomputable def b_ref13_Sorted_L0 (p0 : (List Int)) (s0 : (List Int) × Int) : Option (((List Int) × Int) ⊕ ((List Int))) :=
  if (decide (s0.2 < (p0.length : Int))) = true then
    ((idx p0 s0.2).bind fun x1 =>
      (s_ref13_Has s0.1 x1).bind fun r0 =>
      if r0 = true then
        some s0.1
      else
        if s0.1.length + 1 ≤ big then
          if (s0.1 ++ ([x1] : List Int)) ≠ [] then
            (Lp (b_ref13_Sorted_L1 p0 s0) ((s0.1 ++ ([x1] : List Int)), (IntKind.wrap .i64 (((s0.1 ++ ([x1] : List Int)).length : Int) - 1)))).bind fun x2 =>
            some x2
          else none
        else none).bind fun x0 =>
    some (Sum.inl (x0, (IntKind.wrap .i64 (s0.2 + 1))))
  else
    some (Sum.inr s0.1)
def I_ref13_Sorted_L0 (p0 : (List Int)) (s0 : (List Int) × Int) (σ : St) : Prop := σ.get 0 = (.d false (.lst 1 (p0.map eI))) ∧ σ.get 3 = (.row 0 0 0 s0.1.length 1) ∧ σ.get 4 = (.d true (.int .i64 s0.2)) ∧ σ.obj 0 0 = some (.rw 1 (s0.1.map eI) false) ∧ σ.obj 0 2 = none ∧ σ.up.length = 0
def J_ref13_Sorted_L0 (p0 : (List Int)) (r : (List Int)) (e : Ex) (σ' : St) : Prop := e = (.exit 0) ∧ σ'.get 3 = (.row 0 0 0 r.length 1) ∧ σ'.obj 0 0 = some (.rw 1 (r.map eI) false) ∧ σ'.obj 0 2 = none ∧ σ'.up.length = 0
theorem L_ref13_Sorted_L0 (p0 : (List Int)) {s : (List Int) × Int} {r : (List Int)} (h : Lp (b_ref13_Sorted_L0 p0) s = some r) {σ : St} {Q : Ex → St → Prop} (hI : I_ref13_Sorted_L0 p0 s σ) (hQ : ∀ e σ', J_ref13_Sorted_L0 p0 r e σ' → Q e σ') : WC env (.loop c_ref13_Sorted_l2) σ Q :=
  WC_Lp (I_ref13_Sorted_L0 p0) (J_ref13_Sorted_L0 p0) (by
    clear h hI hQ
    clear s r σ Q
    intro s0 σ x hI h
    obtain ⟨f0, f1, f2, f3, f4, f5⟩ := hI
    unfold b_ref13_Sorted_L0 at h
    replace h := itb h; rcases h with ⟨c0, h⟩ | ⟨c0, h⟩
    · replace h := bsome h; obtain ⟨x0, H0, h⟩ := h
      try simp only [go_sem, c_ref13_Sorted_l2, *]
      refine WC.mono (Q := fun e σ' => e = .normal ∧ σ'.get 0 = (.d false (.lst 1 (p0.map eI))) ∧ σ'.get 3 = (.row 0 0 0 x0.length 1) ∧ σ'.get 4 = (.d true (.int .i64 s0.2)) ∧ σ'.obj 0 0 = some (.rw 1 (x0.map eI) false) ∧ σ'.obj 0 2 = none ∧ σ'.up.length = 0) ?_ ?_
      · replace h := H0
        clear H0
        replace h := bsome h; obtain ⟨x1, H1, h⟩ := h
        have n0 := idx_n H1; have q0 := idx_q H1; have y0 := idx_x H1
        replace h := bsome h; obtain ⟨r0, H2, h⟩ := h
        have k0 := AtCall_all (s_ref13_Has_ok H2); try dsimp only at k0
        replace h := itb h; rcases h with ⟨c1, h⟩ | ⟨c1, h⟩
        · cases h
          simp only [go_sem, c_ref13_Sorted_l2, c_ref13_Sorted_p2, *]
        · replace h := need h; obtain ⟨H3, h⟩ := h
          replace h := need h; obtain ⟨H4, h⟩ := h
          replace h := bsome h; obtain ⟨x2, H5, h⟩ := h
          try simp only [go_sem, c_ref13_Sorted_l2, c_ref13_Sorted_p2, (settle_stl (m := 0) (s := 1) (es := (s0.1 ++ ([x1] : List Int)).map eI) (g := true)), *]
          refine L_ref13_Sorted_L1 p0 s0 H5 ?_ ?_
          · clear h
            simp only [go_sem, I_ref13_Sorted_L1, c_ref13_Sorted_l2, c_ref13_Sorted_p2, (settle_stl (m := 0) (s := 1) (es := (s0.1 ++ ([x1] : List Int)).map eI) (g := true)), *]
          · intro e τ hJ
            obtain ⟨rfl, f6, f7, f8, f9, f10, f11⟩ := hJ
            cases h
            simp only [go_sem, c_ref13_Sorted_l2, c_ref13_Sorted_p2, (settle_stl (m := 0) (s := 1) (es := (s0.1 ++ ([x1] : List Int)).map eI) (g := true)), *]
      · intro e τ hJ
        obtain ⟨rfl, f12, f13, f14, f15, f16, f17⟩ := hJ
        cases h
        simp only [go_sem, LQ_inl, I_ref13_Sorted_L0, c_ref13_Sorted_l2, *]
    · cases h
      simp only [go_sem, LQ_inr, J_ref13_Sorted_L0, c_ref13_Sorted_l2, *]
) h hI hQ
/-- spiritlevel/spiritlevelref13.Sorted -/
noncomputable def s_ref13_Sorted (p0 : (List Int)) : Option ((List Int)) :=
  (Lp (b_ref13_Sorted_L0 p0) (([] : List Int), 0)).bind fun x0 =>
  some x0
theorem s_ref13_Sorted_ok {p0 : (List Int)} {r : (List Int)} (h : s_ref13_Sorted p0 = some r) : Ans env k_ref13_Sorted [(.d false (.lst 1 (p0.map eI)))] (.d true (.lst 1 (r.map eI))) := by
  unfold s_ref13_Sorted at h
  unfold Ans
  rw [AtF fn_ref13_Sorted]
  simp only [n_ref13_Sorted]
  replace h := bsome h; obtain ⟨x0, H0, h⟩ := h
  try simp only [go_sem, *]
  refine L_ref13_Sorted_L0 p0 H0 ?_ ?_
  · clear h
    simp only [go_sem, I_ref13_Sorted_L0, *]
  · intro e τ hJ
    obtain ⟨rfl, f0, f1, f2, f3⟩ := hJ
    cases h
    simp only [go_sem, *]
    exact ⟨_, rfl⟩
noncomputable def b_ref23_Behind_L0 (p0 : S_Circuit) (p1 : (List Int)) (s0 : (List Int) × Int) : Option (((List Int) × Int) ⊕ ((List Int))) :=
  if (decide (s0.2 < (p0.Latches.length : Int))) = true then
    (idx p0.Latches s0.2).bind fun x0 =>
    (s_ref22_Lit p1 x0.Next).bind fun r0 =>
    if s0.1.length + 1 ≤ big then
      some (Sum.inl ((s0.1 ++ ([r0] : List Int)), (IntKind.wrap .i64 (s0.2 + 1))))
    else none
  else
    some (Sum.inr s0.1)
def I_ref23_Behind_L0 (p0 : S_Circuit) (p1 : (List Int)) (s0 : (List Int) × Int) (σ : St) : Prop := σ.get 1 = (.d false (.lst 1 (p1.map eI))) ∧ σ.get 2 = (.ptr 0 0 0) ∧ σ.get 5 = (.row 0 1 0 s0.1.length 1) ∧ σ.get 6 = (.d true (.int .i64 s0.2)) ∧ σ.obj 0 0 = oB0 p0 ∧ (∃ gr_0_1, σ.obj 0 1 = some (.rw 1 (s0.1.map eI) gr_0_1)) ∧ σ.obj 0 3 = none ∧ σ.up.length = 0
def J_ref23_Behind_L0 (p0 : S_Circuit) (p1 : (List Int)) (r : (List Int)) (e : Ex) (σ' : St) : Prop := e = (.exit 0) ∧ σ'.get 5 = (.row 0 1 0 r.length 1) ∧ (∃ gr_0_1, σ'.obj 0 1 = some (.rw 1 (r.map eI) gr_0_1)) ∧ σ'.obj 0 3 = none ∧ σ'.up.length = 0
theorem L_ref23_Behind_L0 (p0 : S_Circuit) (p1 : (List Int)) {s : (List Int) × Int} {r : (List Int)} (h : Lp (b_ref23_Behind_L0 p0 p1) s = some r) {σ : St} {Q : Ex → St → Prop} (hI : I_ref23_Behind_L0 p0 p1 s σ) (hQ : ∀ e σ', J_ref23_Behind_L0 p0 p1 r e σ' → Q e σ') : WC env (.loop c_ref23_Behind_l1) σ Q :=
  WC_Lp (I_ref23_Behind_L0 p0 p1) (J_ref23_Behind_L0 p0 p1) (by
    clear h hI hQ
    clear s r σ Q
    intro s0 σ x hI h
    obtain ⟨f0, f1, f2, f3, f4, ⟨gr_0_1, f5⟩, f6, f7⟩ := hI
    unfold b_ref23_Behind_L0 at h
    replace h := itb h; rcases h with ⟨c0, h⟩ | ⟨c0, h⟩
    · replace h := bsome h; obtain ⟨x0, H0, h⟩ := h
      have n0 := idx_n H0; have q0 := idx_q H0; have y0 := idx_x H0
      replace h := bsome h; obtain ⟨r0, H1, h⟩ := h
      have k0 := AtCall_all (s_ref22_Lit_ok H1); try dsimp only at k0
      replace h := need h; obtain ⟨H2, h⟩ := h
      cases h
      simp only [go_sem, LQ_inl, I_ref23_Behind_L0, c_ref23_Behind_l1, *]
    · cases h
      simp only [go_sem, LQ_inr, J_ref23_Behind_L0, c_ref23_Behind_l1, *]
) h hI hQ
/-- spiritlevel/spiritlevelref23.Behind -/
noncomputable def s_ref23_Behind (p0 : S_Circuit) (p1 : (List Int)) : Option ((List Int)) :=
  (Lp (b_ref23_Behind_L0 p0 p1) (([] : List Int), 0)).bind fun x0 =>
  some x0
theorem s_ref23_Behind_ok {p0 : S_Circuit} {p1 : (List Int)} {r : (List Int)} (h : s_ref23_Behind p0 p1 = some r) : Ans env k_ref23_Behind [(.ag [(.d true (.int .i64 p0.Inputs)), (.d false (.lst 2 (p0.Latches.map eS_Latch))), (.d false (.lst 2 (p0.Ands.map eS_And))), (.d false (.lst 1 (p0.Bads.map eI))), (.d false (.lst 1 (p0.Constraints.map eI)))]), (.d false (.lst 1 (p1.map eI)))] (.d true (.lst 1 (r.map eI))) := by
  unfold s_ref23_Behind at h
  unfold Ans
  rw [AtF fn_ref23_Behind]
  simp only [n_ref23_Behind]
  replace h := bsome h; obtain ⟨x0, H0, h⟩ := h
  try simp only [go_sem, *]
  refine L_ref23_Behind_L0 p0 p1 H0 ?_ ?_
  · clear h
    simp only [go_sem, I_ref23_Behind_L0, *]
  · intro e τ hJ
    obtain ⟨rfl, f0, ⟨gr_0_1, f1⟩, f2, f3⟩ := hJ
    cases h
    simp only [go_sem, *]
    exact ⟨_, rfl⟩
end Go.Proofs.Ytbmhmfcjjhjkgaa.Vm
