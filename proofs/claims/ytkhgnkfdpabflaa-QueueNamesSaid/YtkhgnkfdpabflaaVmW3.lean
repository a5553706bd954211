/- Loops over queue.chain: the numbers of a chain, one by one. -/
import Derived.Test.YtkhgnkfdpabflaaVmEnv
import Derived.Test.YtkhgnkfdpabflaaVmP1
import Derived.Test.YtkhgnkfdpabflaaVmW0
import Derived.Test.YtkhgnkfdpabflaaVmW4
import Derived.Attr
namespace Go.Proofs.Ytkhgnkfdpabflaa.Vm
open Go
set_option linter.unusedVariables false
set_option linter.unusedSimpArgs false
set_option maxRecDepth 4000
attribute [local go_sem] WC_skip WC_exit WC_ret WC_seq WC_block WC_cond WC_rg KSeq_normal KSeq_ret KSeq_exit KBlock_normal KBlock_ret KBlock_exit KN_eq KRg_eq KSt_eq KSet_eq KLen_eq KPick_eq KG_eq KCond_eq boolP_d biteC_true biteC_false biteO_true biteO_false WO_nil WO_mv WO_nilr WO_pick WO_bin WO_beq WO_eqs WO_un WO_cvt WO_alloc WO_box WO_load WO_store WO_fad WO_fval WO_ix WO_ixb WO_ixa WO_bld WO_bsl WO_mks WO_slc WO_len WO_mx WO_mn WO_app WO_cpy WO_clr WO_xt WO_fn WO_chk WO_g
  WO_call WO_callv callK KHand KCallv KRes KBack_ret KRet_eq KAns env_fn St.hand St.lend St.lends St.lend1 St.vals St.frz fr1_obj fr1_get fr1_upl frO_rw frO_fz frO_none St.rowOf List.foldl_nil List.foldl_cons List.map_cons List.map_nil
  optP_some optP_none
  St.get_set St.obj_set St.get_setObj St.obj_setObj St.get_kill St.obj_kill0 St.obj_killS St.get_ini St.obj_ini0 gt_nil gt_zero gt_succ St.val_t St.val_c
  stl_get stl_obj0 stl_objS stl_upl stv_d stv_dx stv_nil stv_row0 stv_rowS stv_ptr stv_rel0 stv_pd stv_ag stv_tp stv_cl stvs_nil stvs_cons obs_box obs_rw obs_fz
  ret_get ret_obj ret_up ini_objS ini_upl ini_upl0 set_upl kill_upl setObj_upl0 setObj_uplS
  kill_d kill_dx kill_nil kill_row0 kill_rowS kill_ptr0 kill_ptrS kill_rel0 kill_relS kill_pd kill_ag kill_tp kill_cl kills_nil kills_cons obk_box obk_rw obk_fz
  pre step bin_int bin_shr bin_shl beq_bool arith_add arith_sub arith_mul arith_and arith_or arith_xor arith_eql arith_neq arith_lss arith_leq arith_gtr arith_geq arith_quo2 arith_rem2 arith_shr1 arith_shl1 maxOf_two minOf_two un lenOf cellsOf ofCells wid sub? slice_map slice_head slice_full' slice_z slice_c slice_s put St.new zcells St.load St.store Vm.fad St.ix St.slc St.els St.app St.wants St.skip I.dst resVal resVals Z.v Z.t? ofT T.cells V.shift V.shifts V.down V.downs downL chkV eqs eqFlat fill fillT flatFill T.noL T.flat
  dat dat2 dat1 dats1 dats2 Fn.pure FreeRows_nil FreeRows_cons setRows ren ren2 ren1 KTk take takes2 take2 takes1 take1 take0 rowsOb Vm.st Option.isNone_none Option.isNone_some List.mem_cons List.not_mem_nil not_or
  Option.map_some Option.map_none Option.bind_some List.length_cons List.length_nil List.length_append List.length_set cpl_length List.length_map List.length_replicate List.map_append List.map_set List.map_replicate List.getElem?_map List.getElem?_cons_zero List.getElem?_cons_succ List.drop_zero List.take_zero List.drop_succ_cons List.take_succ_cons List.take_nil List.drop_nil List.zip_cons_cons List.zip_nil_left List.zip_nil_right List.mapM_cons List.mapM_nil Option.pure_def Option.bind_eq_bind List.all_cons List.all_nil List.append_eq_nil_iff List.cons_ne_nil List.map_eq_nil_iff List.set_cons_zero List.set_cons_succ List.replicate_succ List.replicate_zero
  Nat.reduceEqDiff Nat.reduceLeDiff Nat.reduceAdd Nat.reduceSub Nat.reduceLT Nat.reduceMul Nat.reduceBEq Nat.ble_eq reduceIte reduceCtorEq Nat.add_zero Nat.sub_zero Nat.zero_add and_true true_and and_false false_and and_self or_true true_or false_or or_false if_true if_false Nat.one_ne_zero not_true not_false_eq_true not_false_iff Bool.false_eq_true forall_const true_implies false_implies implies_true BEq.rfl Bool.not_true Bool.not_false Bool.and_true Bool.true_and Bool.and_false Bool.false_and Bool.and_self Bool.true_bne Bool.false_bne not_true_eq_false List.nil_append List.append_nil List.cons_append dInt dBool Nat.le_refl Nat.le_add_right St.toT St.toTs ne_eq
  ff_set ff_setObj ff_setObjl ff_ini0 ff_iniS ff_ret ff_frz1 mg_get mg_obj0 mg_objS mg_up KBack_mg mrv_d mrv_nil mrv_ptr0 mrv_ptrS mrv_row0 mrv_rowS mrv_ag mrv_tp mrv_cl mrvs_nil mrvs_cons obm_box obm_rw obm_fz
  Sum.elim_inl Sum.elim_inr Option.some.injEq Ob.rw.injEq exists_eq2 eI eU8 eU64 eB eL
noncomputable def chn {α : Type} (nx : α → Int) (l : List α) (n : Int) : Option (List Int) :=
  Lp (fun s : Int × List Int => if decide (s.1 ≥ 0) = true then (idx l s.1).bind fun o => some (.inl (nx o, s.2 ++ [s.1])) else some (.inr s.2)) (n, [])
inductive ChainT (l : List T) : Int → List Int → Int → Prop
  | nil {n : Int} (h : decide (n ≥ 0) = false) : ChainT l n [] n
  | cons {n m e : Int} {a b : T} {ks : List Int} (h0 : decide (n ≥ 0) = true) (hn : ∀ (p : Bool) (k : IntKind), natOf l.length (.d p (.int k n)) = some n.toNat) (hl : l[n.toNat]? = some (.agg [a, b, .int .i64 m])) (h : ChainT l m ks e) : ChainT l n (n :: ks) e
theorem chn_T {α : Type} {nx : α → Int} {enc : α → T} {ca cb : α → T} (he : ∀ o, enc o = .agg [ca o, cb o, .int .i64 (nx o)]) {l : List α} {n : Int} {ks : List Int} (h : chn nx l n = some ks) : ∃ m, ChainT (l.map enc) n ks m := by
  have key : ∀ (s : Int × List Int) (r : List Int), Lp (fun s : Int × List Int => if decide (s.1 ≥ 0) = true then (idx l s.1).bind fun o => some (.inl (nx o, s.2 ++ [s.1])) else some (.inr s.2)) s = some r → ∃ ks m, r = s.2 ++ ks ∧ ChainT (l.map enc) s.1 ks m := by
    intro s r h
    refine Lp_ind (P := fun s r => ∃ ks m, r = s.2 ++ ks ∧ ChainT (l.map enc) s.1 ks m) ?_ ?_ h
    · intro s r h
      split at h
      · obtain ⟨o, _, h⟩ := bsome h; cases h
      · rename_i hn
        cases h
        exact ⟨[], s.1, by simp, .nil (by simpa using hn)⟩
    · intro s s' r h hr
      split at h
      · rename_i hn
        obtain ⟨o, hi, h⟩ := bsome h
        cases h
        obtain ⟨ks, m, h1, h2⟩ := hr
        refine ⟨s.1 :: ks, m, by rw [h1]; simp, .cons (a := ca o) (b := cb o) hn (by intro p k; rw [List.length_map]; exact idx_n hi p k) (by rw [List.getElem?_map, idx_x hi]; simp only [Option.map_some, he]) h2⟩
      · cases h
  obtain ⟨ks', m, h1, h2⟩ := key _ _ h
  simp only [List.nil_append] at h1
  subst h1
  exact ⟨m, h2⟩
section
variable {E : Env} {y : Yc} {lv nb lb L : Nat} {l : List T} {p : Bool}
theorem iop1 {j : Option Ex} {ys : List Nat} {i : I} {is : List G} {σ σ₁ : St} {r : Res} (hy : isY ys ⟨i, none⟩ = false) (hd : keep0 ⟨i, none⟩ = true) (hs : step σ i = some σ₁) (hr : Ev E (.iops y j (dropY ys ⟨i, none⟩) is σ₁) r) : Ev E (.iops y j ys (⟨i, none⟩ :: is) σ) r :=
  .iop hy hd (.step rfl hs .nil) hr
structure ItSt (lv nb lb L : Nat) (l : List T) (p : Bool) (n : Int) (σ : St) : Prop where
  g0 : σ.get 0 = .u
  g1 : σ.get 1 = .ptr (lv + 1) nb 0
  g2 : σ.get 2 = .ptr (lv + 1) lb 0
  up : σ.up.length = L + 1
  nb : σ.obj (lv + 1) nb = some (.box [.d true (.int .i64 n)])
  lb : σ.obj (lv + 1) lb = some (.box [.d p (.lst 3 l)])
theorem ItSt.set {n : Int} {σ : St} (h : ItSt lv nb lb L l p n σ) {d : Nat} (hd : 2 < d) (v : V) : ItSt lv nb lb L l p n (σ.set d v) :=
  ⟨by rw [St.get_set, if_neg (by omega)]; exact h.g0, by rw [St.get_set, if_neg (by omega)]; exact h.g1, by rw [St.get_set, if_neg (by omega)]; exact h.g2, h.up, by rw [St.obj_set]; exact h.nb, by rw [St.obj_set]; exact h.lb⟩
theorem ItSt.ldn {n : Int} {σ : St} (h : ItSt lv nb lb L l p n σ) : σ.load (.ptr (lv + 1) nb 0) 0 = some (.d true (.int .i64 n)) := by
  simp [St.load, h.nb, sub?, wid, slice, ofCells, V.shifts, V.shift]
theorem ItSt.ldl {n : Int} {σ : St} (h : ItSt lv nb lb L l p n σ) : σ.load (.ptr (lv + 1) lb 0) 0 = some (.d p (.lst 3 l)) := by
  simp [St.load, h.lb, sub?, wid, slice, ofCells, V.shifts, V.shift]
theorem head_ev {n : Int} {σ : St} (h : ItSt lv nb lb L l p n σ) : ∃ σ' : St, Ev E (.icode y none (.rg 0 false [] [⟨.load 4 (.t 1) 0, none⟩, ⟨.bin 5 .geq (.t 4) (.c (.d true (.int .i64 0))), none⟩] []) σ) (.icode none .normal σ') ∧
    ItSt lv nb lb L l p n σ' ∧ σ'.get 5 = .d true (.bool (decide (n ≥ 0))) ∧ ∀ l n, σ'.obj l n = σ.obj l n := by
  refine ⟨(σ.set 4 (.d true (.int .i64 n))).set 5 (.d true (.bool (decide (n ≥ 0)))), .irg rfl h.g0 (iop1 rfl rfl (by simp only [step, St.val, h.g1, h.ldn]; rfl) (iop1 rfl rfl ?_ .inil)), (h.set (by omega) _).set (by omega) _, by simp [St.get_set], fun l n => by simp [St.obj_set]⟩
  simp [step, St.val, St.get_set, Vm.bin, arith]
theorem chain_it {B : Nat} (hps : y.ps.length = 1) (Inv : List Int → (Nat → Nat → Option Ob) → Prop) (hset : ∀ pre O O', Inv pre O → (∀ l n, ¬ (l = lv ∧ n = nb) → O' l n = O l n) → Inv pre O')
    (hround : ∀ (pre : List Int) (k : Int) (a b c : T) (σ : St), ItSt lv nb lb L l p k σ → (∀ (p : Bool) (kd : IntKind), natOf l.length (.d p (.int kd k)) = some k.toNat) → l[k.toNat]? = some (.agg [a, b, c]) → pre.length + 1 ≤ B → Inv pre (fun l n => σ.obj (l + 1) n) →
      ∃ τ₁ τ₂, Ev E (.code y.a (roundSt y σ [.d true (.int .i64 k)])) (.code .normal τ₁) ∧ Ev E (.code y.b τ₁) (.code .normal τ₂) ∧ τ₂.up.length = L + 2 ∧ Inv (pre ++ [k]) (fun l n => τ₂.obj (l + 2) n) ∧
        τ₂.obj (lv + 2) nb = some (.box [.d true (.int .i64 k)]) ∧ τ₂.obj (lv + 2) lb = some (.box [.d p (.lst 3 l)]))
    (hlv : lv ≤ L) {n m : Int} {ks : List Int} (h : ChainT l n ks m) : ∀ {pre : List Int} {σ : St}, pre.length + ks.length ≤ B → ItSt lv nb lb L l p n σ → Inv pre (fun l n => σ.obj (l + 1) n) →
      ∃ τ, Ev E (.icode y none (.loop c_queue_chain_1_l1) σ) (.icode none (.exit 0) τ) ∧ ItSt lv nb lb L l p m τ ∧ Inv (pre ++ ks) (fun l n => τ.obj (l + 1) n) := by
  induction h with
  | nil h =>
    intro pre σ hB hI hv
    obtain ⟨σ', h1, h2, h3, h4⟩ := head_ev (E := E) (y := y) hI
    refine ⟨σ', .iloopX (by simp) (.iseqX (by simp) (.iseq h1 (.icond (p := true) (t := false) (by show σ'.get 5 = _; rw [h3, h]) .iexit))), h2, ?_⟩
    rw [List.append_nil]
    exact hset _ _ _ hv fun l n _ => h4 _ _
  | @cons n m e a b ks h0 hn hl _ ih =>
    intro pre σ hB hI hv
    obtain ⟨σ', h1, h2, h3, h4⟩ := head_ev (E := E) (y := y) hI
    have hv' : Inv pre (fun l n => σ'.obj (l + 1) n) := hset _ _ _ hv fun l n _ => h4 _ _
    -- the yield's region
    have h2a : ItSt lv nb lb L l p n ((σ'.set 11 .u).set 12 (.d true (.int .i64 n))) := (h2.set (by omega) _).set (by omega) _
    obtain ⟨τ₁, τ₂, ha, hb, hu, hv2, hnb, hlb⟩ := hround pre n a b (.int .i64 m) _ h2a hn hl (by simp only [List.length_cons] at hB; omega) (hset _ _ _ hv' fun l n _ => by simp [St.obj_set])
    have hle : leave false ((σ'.set 11 .u).set 12 (.d true (.int .i64 n))) τ₂ = some (((σ'.set 11 .u).set 12 (.d true (.int .i64 n))).ret τ₂) := by
      unfold leave
      cases hx : τ₂.up with
      | nil => rw [hx] at hu; cases hu
      | cons ob up => simp [St.ret, hx, gt]
    generalize hσ2 : ((σ'.set 11 .u).set 12 (.d true (.int .i64 n))).ret τ₂ = σ2 at hle
    have hg2 : ∀ i, σ2.get i = ((σ'.set 11 .u).set 12 (.d true (.int .i64 n))).get i := fun i => by rw [← hσ2]; exact ret_get _ _ _
    have ho2 : ∀ l n, σ2.obj l n = τ₂.obj (l + 1) n := fun l n => by rw [← hσ2]; exact ret_obj _ _ _ _
    have h2b : ItSt lv nb lb L l p n σ2 := by
      refine ⟨by rw [hg2]; exact h2a.g0, by rw [hg2]; exact h2a.g1, by rw [hg2]; exact h2a.g2, by rw [← hσ2, ret_up, hu]; rfl, by rw [ho2]; exact hnb, by rw [ho2]; exact hlb⟩
    have hy : Ev E (.icode y none (.rg 2 false [] [⟨.mv 11 (.t 0), none⟩, ⟨.load 12 (.t 1) 0, none⟩, ⟨.callv 13 (.t 11) [(.t 12)] none, none⟩, ⟨.un 14 .not (.t 13), none⟩] []) σ') (.icode none .normal ((σ2.set 13 (dBool true)).set 14 (dBool false))) := by
      refine .irg rfl h2.g0 (.imv rfl rfl (iop1 rfl rfl (by simp only [step, St.val, (h2.set (d := 11) (by omega) .u).g1, (h2.set (d := 11) (by omega) .u).ldn]; rfl) ?_))
      refine .iyield rfl rfl hps.symm (τ₁ := τ₁) (e := .normal) (τ₂ := τ₂) (σ₂ := σ2) (by simpa [St.vals, St.val, St.get_set] using ha) hb hle ?_
      exact iop1 rfl rfl (by simp [step, St.val, St.get_set, jump, Vm.un]) .inil
    have h2c : ItSt lv nb lb L l p n ((σ2.set 13 (dBool true)).set 14 (dBool false)) := (h2b.set (by omega) _).set (by omega) _
    generalize hσ3 : (σ2.set 13 (dBool true)).set 14 (dBool false) = σ3 at hy h2c
    have hg3 : σ3.get 14 = .d true (.bool false) := by rw [← hσ3, St.get_set, if_pos rfl]
    have ho3 : ∀ l n, σ3.obj l n = τ₂.obj (l + 1) n := fun l n => by rw [← hσ3, St.obj_set, St.obj_set, ho2]
    have hlv2 : lv + 1 ≤ σ3.up.length := by rw [h2c.up]; omega
    have hr : ∃ σ4, Ev E (.icode y none (.rg 1 false [] [⟨.load 6 (.t 2) 0, none⟩, ⟨.load 7 (.t 1) 0, none⟩, ⟨.ix 8 (.t 6) (.t 7) 3, none⟩, ⟨.fad 9 (.t 8) 2 0, none⟩, ⟨.load 10 (.t 9) 0, none⟩, ⟨.store (.t 1) (.t 10) 0, none⟩] []) σ3) (.icode none .normal σ4) ∧
        ItSt lv nb lb L l p m σ4 ∧ ∀ l n, ¬ (l = lv + 1 ∧ n = nb) → σ4.obj l n = σ3.obj l n := by
      have e6 := h2c.set (d := 6) (by omega) (.d p (.lst 3 l))
      have e7 := e6.set (d := 7) (by omega) (.d true (.int .i64 n))
      have e8 := e7.set (d := 8) (by omega) (.pd (.agg [a, b, .int .i64 m]))
      have e9 := e8.set (d := 9) (by omega) (.pd (.int .i64 m))
      have e10 := e9.set (d := 10) (by omega) (.d true (.int .i64 m))
      generalize hσ4 : (((((σ3.set 6 (.d p (.lst 3 l))).set 7 (.d true (.int .i64 n))).set 8 (.pd (.agg [a, b, .int .i64 m]))).set 9 (.pd (.int .i64 m))).set 10 (.d true (.int .i64 m))) = σ4 at e10
      have hst : step σ4 (.store (.t 1) (.t 10) 0) = some (σ4.setObj (lv + 1) nb (some (.box [.d true (.int .i64 m)]))) := by
        have hg : σ4.get 10 = .d true (.int .i64 m) := by rw [← hσ4, St.get_set, if_pos rfl]
        simp [step, St.val, hg, e10.g1, St.store, e10.nb, cellsOf, V.downs, V.down, put]
      refine ⟨σ4.setObj (lv + 1) nb (some (.box [.d true (.int .i64 m)])), ?_, ?_, fun l' n' hc => ?_⟩
      · refine .irg rfl h2c.g0 (iop1 rfl rfl (by simp only [step, St.val, h2c.g2, h2c.ldl]; rfl) (iop1 rfl rfl (by simp only [step, St.val, e6.g1, e6.ldn]; rfl) (iop1 rfl rfl (σ₁ := ((σ3.set 6 (.d p (.lst 3 l))).set 7 (.d true (.int .i64 n))).set 8 (.pd (.agg [a, b, .int .i64 m]))) ?_
          (iop1 rfl rfl (σ₁ := (((σ3.set 6 (.d p (.lst 3 l))).set 7 (.d true (.int .i64 n))).set 8 (.pd (.agg [a, b, .int .i64 m]))).set 9 (.pd (.int .i64 m))) ?_ (iop1 rfl rfl (σ₁ := σ4) ?_ (iop1 rfl rfl hst .inil))))))
        · simp [step, St.val, St.get_set, St.ix, hn, hl]
        · simp [step, St.val, St.get_set, Vm.fad, sub?, wid, slice]
        · rw [← hσ4]
          simp [step, St.val, St.get_set, St.load, T.cells, ofCells, wid]
      · have hO : ∀ l' n', (σ4.setObj (lv + 1) nb (some (.box [.d true (.int .i64 m)]))).obj l' n' = if lv + 1 = l' ∧ nb = n' then some (.box [.d true (.int .i64 m)]) else σ4.obj l' n' := fun l' n' => St.obj_setObj _ _ _ _ _ _
        have hup4 : σ4.up.length = σ3.up.length := by rw [← hσ4]; rfl
        refine ⟨by rw [St.get_setObj]; exact e10.g0, by rw [St.get_setObj]; exact e10.g1, by rw [St.get_setObj]; exact e10.g2, by rw [St.up_setObj _ _ _ _ (by rw [hup4]; exact hlv2)]; exact e10.up, by rw [hO, if_pos ⟨rfl, rfl⟩], ?_⟩
        rw [hO]
        split
        · rename_i hc
          have h1 := h2c.nb
          have h2 := h2c.lb
          rw [hc.2] at h1
          rw [h1] at h2
          simp at h2
        · exact e10.lb
      · rw [St.obj_setObj, if_neg (fun h => hc ⟨h.1.symm, h.2.symm⟩), ← hσ4]
        simp [St.obj_set]
    obtain ⟨σ4, hr1, hr2, hr3⟩ := hr
    obtain ⟨τ, q1, q2, q3⟩ := ih (pre := pre ++ [n]) (by simp only [List.length_append, List.length_cons, List.length_nil] at hB ⊢; omega) hr2 (hset _ _ _ hv2 fun l' n' hc => by
      show σ4.obj (l' + 1) n' = τ₂.obj (l' + 2) n'
      rw [hr3 _ _ (fun h => hc ⟨by omega, h.2⟩), ho3])
    refine ⟨τ, .iloop (σ₁ := σ4) (j₁ := none) (.iseq (.iseq h1 (.icond (p := true) (t := true) (by show σ'.get 5 = _; rw [h3, h0]) .iskip)) (.iseq (.iblock (.iseq hy (.icond (p := true) (t := false) hg3 .iskip))) hr1)) q1, q2, ?_⟩
    rw [List.append_assoc] at q3
    exact q3
theorem round_get (y : Yc) (σ : St) (q : Nat) (v : V) (hq : y.ps = [q]) (i : Nat) : (roundSt y σ [v]).get i = if q = i then v.shift 1 else (gt .u y.sl i).shift 2 := by
  show gt .u (setsl (V.shifts 2 y.sl) y.ps (V.shifts 1 [v])) i = _
  rw [hq]
  simp only [setsl, V.shifts, List.zip_cons_cons, List.zip_nil_left, List.foldl_cons, List.foldl_nil]
  rw [gt_st]
  have gts : ∀ (cs : List V) (i : Nat), gt .u (V.shifts 2 cs) i = V.shift 2 (gt .u cs i) := fun cs => by
    induction cs with
    | nil => intro i; simp [V.shifts, gt, V.shift]
    | cons c cs ih => intro i; cases i with
      | zero => rfl
      | succ i => exact ih i
  rw [gts]
theorem round_obj0 (y : Yc) (σ : St) (vs : List V) (n : Nat) : (roundSt y σ vs).obj 0 n = none := rfl
theorem round_objS (y : Yc) (σ : St) (vs : List V) (l n : Nat) : (roundSt y σ vs).obj (l + 1) n = σ.obj l n := by cases l <;> rfl
theorem round_up (y : Yc) (σ : St) (vs : List V) : (roundSt y σ vs).up.length = σ.up.length + 1 := rfl
theorem WC_split {E : Env} {a b : C} {σ : St} {F : St → Prop} (h : WC E (.seq a b) σ (fun e τ => e = .normal ∧ F τ)) : ∃ τ₁ τ₂, Ev E (.code a σ) (.code .normal τ₁) ∧ Ev E (.code b τ₁) (.code .normal τ₂) ∧ F τ₂ := by
  obtain ⟨e, τ, h, rfl, hF⟩ := h
  cases h with
  | seq ha hb => exact ⟨_, _, ha, hb, hF⟩
  | seqX he ha => exact absurd rfl he
theorem WC_chain {B : Nat} {x : X} {q : Nat} {a b : C} {σ : St} {Q : Ex → St → Prop} {n m : Int} {ks : List Int} (hE : E.fn k_queue_chain_1 = some n_queue_chain_1) (ha : a.noRf = true) (hb : b.noRf = true) (hx : σ.val x = .cl k_queue_chain_1 [.ptr lv nb 0, .ptr lv lb 0]) (hlv : lv ≤ σ.up.length)
    (hnb : σ.obj lv nb = some (.box [.d true (.int .i64 n)])) (hlb : σ.obj lv lb = some (.box [.d p (.lst 3 l)])) (h : ChainT l n ks m) (hB : ks.length ≤ B)
    (Inv : List Int → (Nat → Nat → Option Ob) → Prop) (hset : ∀ pre O O', Inv pre O → (∀ l n, ¬ (l = lv ∧ n = nb) → O' l n = O l n) → Inv pre O')
    (hround : ∀ (pre : List Int) (k : Int) (a' b' c' : T) (ρ : St), (∀ i, ρ.get i = if q = i then .d true (.int .i64 k) else (σ.get i).shift 2) → (∀ n, ρ.obj 0 n = none) → ρ.up.length = σ.up.length + 2 → Inv pre (fun l n => ρ.obj (l + 2) n) →
      ρ.obj (lv + 2) nb = some (.box [.d true (.int .i64 k)]) → ρ.obj (lv + 2) lb = some (.box [.d p (.lst 3 l)]) → (∀ (p : Bool) (kd : IntKind), natOf l.length (.d p (.int kd k)) = some k.toNat) → l[k.toNat]? = some (.agg [a', b', c']) → pre.length + 1 ≤ B →
      WC E (.seq a b) ρ (fun e τ => e = .normal ∧ τ.up.length = σ.up.length + 2 ∧ Inv (pre ++ [k]) (fun l n => τ.obj (l + 2) n) ∧ τ.obj (lv + 2) nb = some (.box [.d true (.int .i64 k)]) ∧ τ.obj (lv + 2) lb = some (.box [.d p (.lst 3 l)])))
    (h0 : Inv [] (fun l n => σ.obj l n)) (hQ : ∀ σ', (∀ i, σ'.get i = σ.get i) → σ'.up.length = σ.up.length → Inv ks (fun l n => σ'.obj l n) → Q .normal σ') : WC E (.rfun x [q] a b) σ Q := by
  have hI : ItSt lv nb lb σ.up.length l p n ⟨V.shifts 1 (.u :: [.ptr lv nb 0, .ptr lv lb 0]), [], σ.ob :: σ.up⟩ := by
    refine ⟨rfl, rfl, rfl, rfl, ?_, ?_⟩
    · rw [← hnb]; cases lv <;> rfl
    · rw [← hlb]; cases lv <;> rfl
  obtain ⟨τ, h1, h2, h3⟩ := chain_it (E := E) (y := ⟨[q], a, b, σ.sl⟩) rfl Inv hset (fun pre k a' b' c' σ' hI hn hl hB hv => WC_split (hround pre k a' b' c' _ (fun i => round_get _ _ q _ rfl i) (fun n => round_obj0 _ _ _ n) (by rw [round_up, hI.up]) (hset _ _ _ hv fun l n _ => round_objS _ _ _ _ _) (by rw [round_objS]; exact hI.nb) (by rw [round_objS]; exact hI.lb) hn hl hB)) hlv h (pre := []) (by simpa using hB) hI (hset _ _ _ h0 fun l n _ => by cases l <;> rfl)
  have hu := h2.up
  have hle : leave false σ τ = some (σ.ret τ) := by
    unfold leave
    cases hx : τ.up with
    | nil => rw [hx] at hu; cases hu
    | cons ob up => simp [St.ret, hx, gt]
  refine ⟨.normal, σ.ret τ, ?_, hQ _ (fun i => ret_get _ _ _) (by rw [ret_up, hu]; rfl) (hset _ _ _ h3 fun l n _ => ret_obj _ _ _ _)⟩
  exact .rfun (j := none) hx rfl hE rfl (by rw [ha, hb]; rfl) (.iblockX h1) (.inl rfl) rfl hle
end
def InvA (nb : Nat) (O0 : Nat → Nat → Option Ob) (pre : List Int) (O : Nat → Nat → Option Ob) : Prop :=
  O 0 0 = some (.box [.row 0 30 0 pre.length 1]) ∧ (∃ gr, O 0 30 = some (.rw 1 (pre.map eI) gr)) ∧ ∀ l n, l ≠ 0 → ¬ (l = 2 ∧ n = nb) → O l n = O0 l n
theorem E_append {σ : St} {l : List T} {p : Bool} {n m : Int} {ks : List Int} {nb lb : Nat} {K : V → St → Prop} (h : ChainT l n ks m) (hk : ks.length ≤ big) (hnb : σ.obj 1 nb = some (.box [.d true (.int .i64 n)])) (hlb : σ.obj 1 lb = some (.box [.d p (.lst 3 l)])) (hu : 1 ≤ σ.up.length)
    (hK : ∀ τ, τ.up.length = σ.up.length + 1 → (∃ gr, τ.obj 0 30 = some (.rw 1 (ks.map eI) gr)) → (∀ l n, ¬ (l = 1 ∧ n = nb) → τ.obj (l + 1) n = σ.obj l n) → K (.row 0 30 0 ks.length 1) τ) :
    AtFn env k_slices_AppendSeq_of_int [.nil 1, .cl k_queue_chain_1 [.ptr 2 nb 0, .ptr 2 lb 0]] (σ.ob :: σ.up) K := by
  rw [AtFn_eq (show env.fn k_slices_AppendSeq_of_int = some n_slices_AppendSeq_of_int from fn_slices_AppendSeq_of_int)]
  simp only [n_slices_AppendSeq_of_int, c_slices_AppendSeq_of_int]
  simp only [go_sem, St.nrw]
  generalize hτ : ((((((St.ini [V.nil 1, V.cl k_queue_chain_1 [V.ptr 2 nb 0, V.ptr 2 lb 0]] (σ.ob :: σ.up)).setObj 0 30 (some (Ob.rw 1 [] false))).set 0 (V.row 0 30 0 0 1)).setObj 0 0 (some (Ob.box [V.row 0 30 0 0 1]))).set 2 (V.ptr 0 0 0)).set 4 (V.nil 1)).set 6 (V.cl k_queue_chain_1 [V.ptr 2 nb 0, V.ptr 2 lb 0]) = τ0
  have hoS : ∀ l n, τ0.obj (l + 1) n = σ.obj l n := fun l n => by rw [← hτ]; simp only [go_sem]
  have hup : τ0.up.length = σ.up.length + 1 := by rw [← hτ]; simp only [go_sem]
  have hg6 : τ0.get 6 = .cl k_queue_chain_1 [.ptr 2 nb 0, .ptr 2 lb 0] := by rw [← hτ]; simp only [go_sem]
  have hg2 : τ0.get 2 = .ptr 0 0 0 := by rw [← hτ]; simp only [go_sem]
  have h00 : τ0.obj 0 0 = some (.box [.row 0 30 0 0 1]) := by rw [← hτ]; simp only [go_sem]
  have h030 : τ0.obj 0 30 = some (.rw 1 [] false) := by rw [← hτ]; simp only [go_sem]
  clear hτ
  rw [c_slices_AppendSeq_of_int_r1]
  refine WC_chain (B := big) (lv := 2) (nb := nb) (lb := lb) (p := p) (l := l) (show env.fn k_queue_chain_1 = _ from fn_queue_chain_1) rfl rfl hg6 (by omega) (by rw [hoS]; exact hnb) (by rw [hoS]; exact hlb) h hk (InvA nb (fun l n => τ0.obj l n)) ?_ ?_ ⟨h00, ⟨_, h030⟩, fun _ _ _ _ => rfl⟩ ?_
  · rintro pre O O' ⟨h1, ⟨gr, h2⟩, h3⟩ hO
    exact ⟨by rw [hO _ _ (by simp)]; exact h1, ⟨gr, by rw [hO _ _ (by simp)]; exact h2⟩, fun l n hl hc => by rw [hO _ _ hc]; exact h3 l n hl hc⟩
  · rintro pre k a' b' c' ρ hg ho0 hu' ⟨h1, ⟨gr, h2⟩, h3⟩ hnb' hlb' _ _ hB
    simp only at h1 h2 h3
    simp only [go_sem, hg, hg2, h1, h2, hB, ho0]
    refine ⟨?_, ⟨by simp, ⟨true, by simp [eI]⟩, fun l n hl hc => ?_⟩, hnb', hlb'⟩
    · have e1 : ∀ (τ : St) (m : Nat) (o : Option Ob), 2 < τ.up.length + 1 → (τ.setObj 2 m o).up.length = τ.up.length := fun τ m o h => setObj_uplS τ 1 m o (by omega)
      rw [e1 _ _ _ (by rw [set_upl, e1 _ _ _ (by simp only [set_upl, setObj_upl0, hu']; omega)]; simp only [set_upl, setObj_upl0, hu']; omega), set_upl, e1 _ _ _ (by simp only [set_upl, setObj_upl0, hu']; omega)]
      simp only [set_upl, setObj_upl0, hu']
    · simp only [if_neg (show ¬ (l = 0 ∧ 0 = n) from fun h => hl h.1), if_neg (show ¬ (l = 0 ∧ 30 = n) from fun h => hl h.1)]
      exact h3 l n hl hc
  · rintro σ' hg' hu' ⟨h1, ⟨gr, h2⟩, h3⟩
    simp only at h1 h2
    simp only [go_sem, hg', hg2, h1]
    refine hK _ ?_ ?_ ?_
    · simp only [go_sem, hu', hup]
    · exact ⟨gr, by simp only [go_sem, h2]⟩
    · intro l n hc
      have h4 : σ'.obj (l + 1) n = τ0.obj (l + 1) n := h3 (l + 1) n (by omega) (fun h => hc ⟨by omega, h.2⟩)
      simp only [go_sem, h4, hoS]
theorem E_collect {σ : St} {l : List T} {p : Bool} {n m : Int} {ks : List Int} {nb lb : Nat} {K : V → St → Prop} (h : ChainT l n ks m) (hk : ks.length ≤ big) (hnb : σ.obj 0 nb = some (.box [.d true (.int .i64 n)])) (hlb : σ.obj 0 lb = some (.box [.d p (.lst 3 l)]))
    (hK : ∀ τ, τ.up.length = σ.up.length + 1 → (∀ l n, ¬ (l = 0 ∧ n = nb) → τ.obj (l + 1) n = σ.obj l n) → K (.d true (.lst 1 (ks.map eI))) τ) :
    AtFn env k_slices_Collect_of_int [.cl k_queue_chain_1 [.ptr 1 nb 0, .ptr 1 lb 0]] (σ.ob :: σ.up) K := by
  rw [AtFn_eq (show env.fn k_slices_Collect_of_int = some n_slices_Collect_of_int from fn_slices_Collect_of_int)]
  simp only [n_slices_Collect_of_int, c_slices_Collect_of_int]
  simp only [go_sem, fn_slices_AppendSeq_of_int, n_slices_AppendSeq_of_int]
  refine E_append (p := p) h hk (by simp only [go_sem, hnb]) (by simp only [go_sem, hlb]) (by simp only [go_sem]) fun τ hu ⟨gr, h30⟩ ho => ?_
  simp only [go_sem] at hu
  simp only [go_sem, h30, hu, Nat.succ_pos]
  refine hK _ ?_ fun l n hc => ?_
  · simp only [go_sem, hu]; omega
  · simp only [go_sem]
    rw [ho (l + 1) n (fun h => hc ⟨by omega, h.2⟩)]
    simp only [go_sem]
theorem E_collectT {α : Type} {enc : α → T} {ca cb : α → T} {nx : α → Int} (he : ∀ o, enc o = .agg [ca o, cb o, .int .i64 (nx o)]) {σ : St} {l : List α} {p : Bool} {n : Int} {ks : List Int} {nb lb u : Nat} {K : V → St → Prop} (h : chn nx l n = some ks) (hk : ks.length ≤ big)
    (hu : σ.up.length = u) (hnb : σ.obj 0 nb = some (.box [.d true (.int .i64 n)])) (hlb : σ.obj 0 lb = some (.box [.d p (.lst 3 (l.map enc))]))
    (hK : ∀ τ, τ.up.length = u + 1 → (∀ l n, ¬ (l = 0 ∧ n = nb) → τ.obj (l + 1) n = σ.obj l n) → K (.d true (.lst 1 (ks.map eI))) τ) :
    AtFn env k_slices_Collect_of_int [.cl k_queue_chain_1 [.ptr 1 nb 0, .ptr 1 lb 0]] (σ.ob :: σ.up) K := by
  obtain ⟨m, hc⟩ := chn_T he h
  exact E_collect hc hk hnb hlb fun τ h1 h2 => hK τ (by rw [h1, hu]) h2
end Go.Proofs.Ytkhgnkfdpabflaa.Vm
