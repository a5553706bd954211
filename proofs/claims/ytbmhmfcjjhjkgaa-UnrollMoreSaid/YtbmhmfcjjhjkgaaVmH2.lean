/- Walks over the code of functions. Printed. -/
import Derived.Test.YtbmhmfcjjhjkgaaVmH1
namespace Go.Proofs.Ytbmhmfcjjhjkgaa.Vm
open Go
set_option linter.unusedSimpArgs false
set_option linter.unusedVariables false
set_option maxRecDepth 4000
set_option maxHeartbeats 4000000
attribute [local go_sem] WC_skip WC_exit WC_ret WC_seq WC_block WC_cond WC_rg KSeq_normal KSeq_ret KSeq_exit KBlock_normal KBlock_ret KBlock_exit KN_eq KRg_eq KSt_eq KSet_eq KLen_eq KPick_eq KG_eq KCond_eq boolP_d biteC_true biteC_false biteO_true biteO_false WO_nil WO_mv WO_nilr WO_pick WO_bin WO_beq WO_eqs WO_un WO_cvt WO_alloc WO_box WO_load WO_store WO_fad WO_fval WO_ix WO_ixb WO_ixa WO_bld WO_bsl WO_mks WO_slc WO_len WO_mx WO_mn WO_app WO_cpy WO_clr WO_xt WO_fn WO_chk WO_g
  WO_call WO_callv callK KHand KCallv KRes KBack_ret KRet_eq KAns env_fn St.hand St.lend St.lends St.lend1 St.vals St.frz St.frz1 St.rowOf List.foldl_nil List.foldl_cons List.map_cons List.map_nil
  optP_some optP_none
  St.get_set St.obj_set St.get_setObj St.obj_setObj St.get_kill St.obj_kill0 St.obj_killS St.get_ini St.obj_ini0 gt_nil gt_zero gt_succ St.val_t St.val_c
  stl_get stl_obj0 stl_objS stl_upl stv_d stv_dx stv_nil stv_row0 stv_rowS stv_ptr stv_rel0 stv_pd stv_ag stv_tp stv_cl stvs_nil stvs_cons obs_box obs_rw obs_fz
  ret_get ret_obj ret_up ini_objS ini_upl ini_upl0 set_upl kill_upl setObj_upl0 setObj_uplS
  kill_d kill_dx kill_nil kill_row0 kill_rowS kill_ptr0 kill_ptrS kill_rel0 kill_relS kill_pd kill_ag kill_tp kill_cl kills_nil kills_cons obk_box obk_rw obk_fz
  pre step bin_int bin_shr bin_shl beq_bool arith_add arith_sub arith_mul arith_and arith_or arith_xor arith_eql arith_neq arith_lss arith_leq arith_gtr arith_geq arith_quo2 arith_rem2 arith_shr1 arith_shl1 maxOf_two minOf_two un lenOf cellsOf ofCells wid sub? slice_map slice_head slice_full' slice_z slice_c slice_s put St.new zcells St.load St.store Vm.fad St.ix St.slc St.els St.app St.wants St.skip I.dst resVal resVals Z.v Z.t? ofT T.cells V.shift V.shifts V.down V.downs downL chkV eqs eqFlat fill fillT flatFill T.noL T.flat
  dat dat2 dat1 dats1 dats2 Fn.pure
  Option.map_some Option.map_none Option.bind_some List.length_cons List.length_nil List.length_append List.length_set List.length_map List.length_replicate List.map_append List.map_set List.map_replicate List.getElem?_map List.getElem?_cons_zero List.getElem?_cons_succ List.drop_zero List.take_zero List.drop_succ_cons List.take_succ_cons List.take_nil List.drop_nil List.zip_cons_cons List.zip_nil_left List.zip_nil_right List.mapM_cons List.mapM_nil Option.pure_def Option.bind_eq_bind List.all_cons List.all_nil List.append_eq_nil_iff List.cons_ne_nil List.map_eq_nil_iff List.set_cons_zero List.set_cons_succ List.replicate_succ List.replicate_zero
  Nat.reduceEqDiff Nat.reduceLeDiff Nat.reduceAdd Nat.reduceSub Nat.reduceLT Nat.reduceMul Nat.reduceBEq Nat.ble_eq reduceIte reduceCtorEq Nat.add_zero Nat.sub_zero Nat.zero_add and_true true_and and_false false_and and_self or_true true_or false_or or_false if_true if_false Nat.one_ne_zero not_true not_false_eq_true not_false_iff Bool.false_eq_true forall_const true_implies false_implies implies_true BEq.rfl Bool.not_true Bool.not_false Bool.and_true Bool.true_and Bool.and_false Bool.false_and Bool.and_self not_true_eq_false List.nil_append List.append_nil List.cons_append dInt dBool Nat.le_refl Nat.le_add_right St.toT St.toTs ne_eq
  Sum.elim_inl Sum.elim_inr Option.some.injEq Ob.rw.injEq exists_eq2 eI eU8 eU64 eB eL eS_Latch eS_And eS_Circuit eS_Cnf eA4_Int oB0 oB1 oB2 oB3 oB4 oB5 oB6 oB7 oB8 oB9 oB10 oB11 oB12 oB13 c_clause_Make cloneX ex_slices_Clone_of_int fn_clause_known fn_slices_Clone_of_int fn_slices_Compact_of_int fn_slices_Sort_of_int isort_length n_clause_known n_slices_Compact_of_int n_slices_Sort_of_int
noncomputable def b_clause_Make_L0 (p0 : Int) (p1 : (List Int)) (s0 : Int) : Option ((Int) ⊕ ((Unit) ⊕ (Unit))) :=
  if (decide (s0 < (p1.length : Int))) = true then
    (idx p1 s0).bind fun x1 =>
    (s_clause_known p0 x1).bind fun r0 =>
    if r0 = true then
      some (Sum.inl (IntKind.wrap .i64 (s0 + 1)))
    else
      some (Sum.inr (Sum.inr ()))
  else
    some (Sum.inr (Sum.inl ()))
def I_clause_Make_L0 (p0 : Int) (p1 : (List Int)) (s0 : Int) (σ : St) : Prop := σ.get 0 = (.d true (.int .i64 p0)) ∧ σ.get 1 = (.d false (.lst 1 (p1.map eI))) ∧ σ.get 16 = (.d false (.lst 1 (p1.map eI))) ∧ σ.get 17 = (.d true (.int .i64 (p1.length : Int))) ∧ σ.get 18 = (.d true (.int .i64 s0)) ∧ σ.obj 0 20 = none ∧ σ.up.length = 0
def J_clause_Make_L0 (p0 : Int) (p1 : (List Int)) (r : (Unit) ⊕ (Unit)) (e : Ex) (σ' : St) : Prop := (Sum.elim (fun o0 => e = (.exit 0) ∧ σ'.get 1 = (.d false (.lst 1 (p1.map eI))) ∧ σ'.obj 0 20 = none ∧ σ'.up.length = 0) (fun o1 => e = .ret ∧ σ'.get 4 = (.nil 1) ∧ σ'.get 5 = (.d true (.bool false)) ∧ σ'.get 6 = (.d true (.int .i64 8)) ∧ σ'.obj 0 20 = none ∧ σ'.up.length = 0)) r
theorem L_clause_Make_L0 (p0 : Int) (p1 : (List Int)) {s : Int} {r : (Unit) ⊕ (Unit)} (h : Lp (b_clause_Make_L0 p0 p1) s = some r) {σ : St} {Q : Ex → St → Prop} (hI : I_clause_Make_L0 p0 p1 s σ) (hQ : ∀ e σ', J_clause_Make_L0 p0 p1 r e σ' → Q e σ') : WC env (.loop c_clause_Make_l1) σ Q :=
  WC_Lp (I_clause_Make_L0 p0 p1) (J_clause_Make_L0 p0 p1) (by
    clear h hI hQ
    clear s r σ Q
    intro s0 σ x hI h
    obtain ⟨f5, f6, f7, f8, f9, f10, f11⟩ := hI
    unfold b_clause_Make_L0 at h
    replace h := itb h; rcases h with ⟨c2, h⟩ | ⟨c2, h⟩
    · replace h := bsome h; obtain ⟨x1, H1, h⟩ := h
      have n0 := idx_n H1; have q0 := idx_q H1; have y0 := idx_x H1
      replace h := bsome h; obtain ⟨r0, H2, h⟩ := h
      have k0 := AtCall_all (s_clause_known_ok H2); try dsimp only at k0
      replace h := itb h; rcases h with ⟨c3, h⟩ | ⟨c3, h⟩
      · cases h
        simp only [go_sem, LQ_inl, I_clause_Make_L0, c_clause_Make_l1, *]
      · cases h
        simp only [go_sem, LQ_inr, J_clause_Make_L0, c_clause_Make_l1, *]
    · cases h
      simp only [go_sem, LQ_inr, J_clause_Make_L0, c_clause_Make_l1, *]
) h hI hQ
def b_clause_Make_L1 (p1 : (List Int)) (s1 : Int) : Option ((Int) ⊕ ((Unit) ⊕ (Unit))) :=
  if (decide (s1 < ((dd (isort p1)).length : Int))) = true then
    (if (decide (s1 > 0)) = true then
        (idx (dd (isort p1)) s1).bind fun x3 =>
        (idx (dd (isort p1)) (IntKind.wrap .i64 (s1 - 1))).bind fun x4 =>
        some ((IntKind.wrap .i64 (Int.tdiv x3 2)) == (IntKind.wrap .i64 (Int.tdiv x4 2)))
      else
        some false).bind fun x2 =>
    if x2 = true then
      some (Sum.inr (Sum.inr ()))
    else
      some (Sum.inl (IntKind.wrap .i64 (s1 + 1)))
  else
    some (Sum.inr (Sum.inl ()))
def I_clause_Make_L1 (p1 : (List Int)) (s1 : Int) (σ : St) : Prop := σ.get 4 = (.row 0 20 0 ((dd (isort p1)).length) 1) ∧ σ.get 34 = (.d true (.int .i64 ((dd (isort p1)).length : Int))) ∧ σ.get 35 = (.d true (.int .i64 s1)) ∧ σ.obj 0 20 = some (.rw 1 (((dd (isort p1)) ++ zs ((isort p1).length - (dd (isort p1)).length)).map eI) false) ∧ σ.up.length = 0
def J_clause_Make_L1 (p1 : (List Int)) (r : (Unit) ⊕ (Unit)) (e : Ex) (σ' : St) : Prop := (Sum.elim (fun o0 => e = (.exit 2) ∧ σ'.get 4 = (.row 0 20 0 ((dd (isort p1)).length) 1) ∧ σ'.obj 0 20 = some (.rw 1 (((dd (isort p1)) ++ zs ((isort p1).length - (dd (isort p1)).length)).map eI) false) ∧ σ'.up.length = 0) (fun o1 => e = .ret ∧ σ'.get 4 = (.nil 1) ∧ σ'.get 5 = (.d true (.bool true)) ∧ σ'.get 6 = (.d true (.int .i64 0)) ∧ σ'.up.length = 0)) r
theorem L_clause_Make_L1 (p1 : (List Int)) {s : Int} {r : (Unit) ⊕ (Unit)} (h : Lp (b_clause_Make_L1 p1) s = some r) {σ : St} {Q : Ex → St → Prop} (hI : I_clause_Make_L1 p1 s σ) (hQ : ∀ e σ', J_clause_Make_L1 p1 r e σ' → Q e σ') : WC env (.loop c_clause_Make_l2) σ Q :=
  WC_Lp (I_clause_Make_L1 p1) (J_clause_Make_L1 p1) (by
    clear h hI hQ
    clear s r σ Q
    intro s1 σ x hI h
    obtain ⟨f8, f9, f10, f11, f12⟩ := hI
    unfold b_clause_Make_L1 at h
    replace h := itb h; rcases h with ⟨c2, h⟩ | ⟨c2, h⟩
    · replace h := bsome h; obtain ⟨x2, H5, h⟩ := h
      try simp only [go_sem, c_clause_Make_l2, *]
      refine WC.mono (Q := fun e σ' => e = .normal ∧ σ'.get 4 = (.row 0 20 0 ((dd (isort p1)).length) 1) ∧ σ'.get 34 = (.d true (.int .i64 ((dd (isort p1)).length : Int))) ∧ σ'.get 35 = (.d true (.int .i64 s1)) ∧ σ'.get 53 = (.d true (.bool x2)) ∧ σ'.obj 0 20 = some (.rw 1 (((dd (isort p1)) ++ zs ((isort p1).length - (dd (isort p1)).length)).map eI) false) ∧ σ'.up.length = 0) ?_ ?_
      · replace h := H5
        clear H5
        replace h := itb h; rcases h with ⟨c3, h⟩ | ⟨c3, h⟩
        · replace h := bsome h; obtain ⟨x3, H6, h⟩ := h
          have n0 := idx_n H6; have q0 := idx_q H6; have y0 := idx_x H6
          replace y0 := get_head eI q0 y0
          replace h := bsome h; obtain ⟨x4, H7, h⟩ := h
          have n1 := idx_n H7; have q1 := idx_q H7; have y1 := idx_x H7
          replace y1 := get_head eI q1 y1
          cases h
          simp only [go_sem, c_clause_Make_l2, c_clause_Make_p2, *]
        · cases h
          simp only [go_sem, c_clause_Make_l2, c_clause_Make_p2, *]
      · intro e τ hJ
        obtain ⟨rfl, f13, f14, f15, f16, f17, f18⟩ := hJ
        replace h := itb h; rcases h with ⟨c4, h⟩ | ⟨c4, h⟩
        · cases h
          simp only [go_sem, LQ_inr, J_clause_Make_L1, c_clause_Make_l2, *]
        · cases h
          simp only [go_sem, LQ_inl, I_clause_Make_L1, c_clause_Make_l2, *]
    · cases h
      simp only [go_sem, LQ_inr, J_clause_Make_L1, c_clause_Make_l2, *]
) h hI hQ
/-- spiritlevel/clause.Make -/
noncomputable def s_clause_Make (p0 : Int) (p1 : (List Int)) : Option ((List Int) × Bool × Int) :=
  (if (decide (p0 < 0)) = true then
      some true
    else
      some (decide (p0 > 4000))).bind fun x0 =>
  if x0 = true then
    some (([] : List Int), false, 2)
  else
    (Lp (b_clause_Make_L0 p0 p1) 0).bind fun x1 =>
    match x1 with
    | .inl x1' =>
      if p1.length ≤ big then
        if p1.length < 13 then
          if (isort p1).length < 1000000 then
            (Lp (b_clause_Make_L1 p1) 0).bind fun x2 =>
            match x2 with
            | .inl x2' =>
              some ((dd (isort p1)), false, 0)
            | .inr x2' =>
              some (([] : List Int), true, 0)
          else none
        else none
      else none
    | .inr x1' =>
      some (([] : List Int), false, 8)
theorem s_clause_Make_ok {p0 : Int} {p1 : (List Int)} {r : (List Int) × Bool × Int} (h : s_clause_Make p0 p1 = some r) : Ans env k_clause_Make [(.d true (.int .i64 p0)), (.d false (.lst 1 (p1.map eI)))] (.tp [(.d true (.lst 1 (r.1.map eI))), (.d true (.bool r.2.1)), (.d true (.int .i64 r.2.2))]) := by
  unfold s_clause_Make at h
  unfold Ans
  rw [AtF fn_clause_Make]
  simp only [n_clause_Make]
  replace h := bsome h; obtain ⟨x0, H0, h⟩ := h
  try simp only [go_sem, *]
  refine WC.mono (Q := fun e σ' => e = .normal ∧ σ'.get 0 = (.d true (.int .i64 p0)) ∧ σ'.get 1 = (.d false (.lst 1 (p1.map eI))) ∧ σ'.get 15 = (.d true (.bool x0)) ∧ σ'.obj 0 20 = none ∧ σ'.up.length = 0) ?_ ?_
  · replace h := H0
    clear H0
    replace h := itb h; rcases h with ⟨c0, h⟩ | ⟨c0, h⟩
    · cases h
      simp only [go_sem, c_clause_Make_p1, *]
    · cases h
      simp only [go_sem, c_clause_Make_p1, *]
  · intro e τ hJ
    obtain ⟨rfl, f0, f1, f2, f3, f4⟩ := hJ
    replace h := itb h; rcases h with ⟨c1, h⟩ | ⟨c1, h⟩
    · cases h
      simp only [go_sem, *]
      exact ⟨_, rfl⟩
    · replace h := bsome h; obtain ⟨x1, H1, h⟩ := h
      try simp only [go_sem, *]
      refine L_clause_Make_L0 p0 p1 H1 ?_ ?_
      · clear h
        simp only [go_sem, I_clause_Make_L0, *]
      · intro e τ hJ
        rcases x1 with x1' | x1'
        · obtain ⟨rfl, f5, f6, f7⟩ := hJ
          replace h := need h; obtain ⟨H2, h⟩ := h
          replace h := need h; obtain ⟨H3, h⟩ := h
          have zH3 := @AtFn_sort p1 H3
          replace h := need h; obtain ⟨H4, h⟩ := h
          have zH4 := @AtFn_compact (isort p1) H4
          replace h := bsome h; obtain ⟨x2, H5, h⟩ := h
          try simp only [go_sem, *]
          refine L_clause_Make_L1 p1 H5 ?_ ?_
          · clear h
            simp only [go_sem, I_clause_Make_L1, *]
          · intro e τ hJ
            rcases x2 with x2' | x2'
            · obtain ⟨rfl, f8, f9, f10⟩ := hJ
              cases h
              simp only [go_sem, *]
              exact ⟨_, rfl⟩
            · obtain ⟨rfl, f11, f12, f13, f14⟩ := hJ
              cases h
              simp only [go_sem, *]
              exact ⟨_, rfl⟩
        · obtain ⟨rfl, f15, f16, f17, f18, f19⟩ := hJ
          cases h
          simp only [go_sem, *]
          exact ⟨_, rfl⟩
end Go.Proofs.Ytbmhmfcjjhjkgaa.Vm
