/- A machine for the seat's programs and its soundness, part 5. -/
import Derived.Test.YtcgjebaomhfbdaaGreatVmP4
import Derived.WalkKit
import Derived.ProofKit
import Derived.OpenShut
import Derived.ChangeOld
import Derived.Below
import Derived.Carry
import Derived.SizedLaws
import Derived.RowKit
import Derived.ChangeShapes
import Derived.Test.YtcgjebaomhfbdaaGreatVmP1
/- A law's row, out of the machine's answer. -/
namespace Go.Proofs.YtcgjebaomhfbdaaGreat.Vm
open Go Go.RowKit
def argV (P : Program) (t : TypeId) (x : List T) : V := ofT (mkT P t x)
def ArgsT (P : Program) (k : Nat) : List TypeId → List (List T) → Prop
  | [], [] => True
  | t :: ts, x :: xs => TyT P k t x ∧ ArgsT P k ts xs
  | _, _ => False
def argVs (P : Program) : List TypeId → List (List T) → List V
  | t :: ts, x :: xs => argV P t x :: argVs P ts xs
  | _, _ => []
/-- a type that the machine reads, and that reads again behind a run -/
def argOk (P : Program) (k : Nat) (t : TypeId) : Bool := tyOk P k t && (P.readableRec t && decide (t < P.types.size))
section
variable {P : Program} {W : World}
theorem val_den {k : Nat} {t : TypeId} {ok : Nat → Prop} {ts : List T} {v : Value} {base : Nat} {r : Reach} (ht : tyOk P k t = true) (hval : Value.okWide P W r base t v) (h : DenL W ok ts v.cells.toList) (hl : v.cells.toList.length = P.cellsOf t) :
    Den W ok (mkT P t ts) v := by
  cases k with
  | zero => simp [tyOk] at ht
  | succ k =>
    unfold tyOk at ht
    have one : wOf P t = some 0 → (∀ cs, v ≠ .agg cs) → Den W ok (mkT P t ts) v := by
      intro h0 hna
      have hv : v.cells.toList = [v] := by cases v <;> first | rfl | exact absurd rfl (hna _)
      rw [hv] at h
      have h2 := mkT_den (P := P) (t := t) (fun _ => rfl) h
      have hc : (mkT P t ts).isCell = true := by
        match ts, h with
        | [t'], h =>
          obtain ⟨_, _, _, hc, _⟩ := h
          unfold mkT
          rw [h0]
          exact hc
        | [], h => exact absurd h (by simp [DenL])
        | _ :: _ :: _, h =>
          obtain ⟨_, _, he, _, _, h2⟩ := h
          simp only [List.cons.injEq] at he
          obtain ⟨_, rfl⟩ := he
          obtain ⟨_, _, he, _⟩ := h2
          cases he
      cases hm : mkT P t ts with
      | agg cs => rw [hm] at hc; cases hc
      | _ => rw [hm] at h2; exact h2
    have many : ∀ n, wOf P t = some (n + 1) → (∃ cs, v = .agg cs) → Den W ok (mkT P t ts) v := by
      intro n h0 ⟨cs, hv⟩
      subst hv
      have hv : (Value.agg cs).cells.toList = cs.toList := rfl
      rw [hv] at h
      unfold mkT
      rw [h0]
      exact ⟨cs.toList, by simp, h⟩
    split at ht
    · rename_i hu
      simp only [Bool.and_eq_true, decide_eq_true_eq] at ht
      refine one ht.1 fun cs hv => ?_
      subst hv
      unfold Value.okWide at hval
      simp only [hu] at hval
      obtain ⟨b, hb⟩ := Go.WideShapes.okWide_bool hu (by unfold Value.okWide; simp only [hu]; exact hval)
      cases hb
    · rename_i kd hu
      simp only [Bool.and_eq_true, decide_eq_true_eq] at ht
      refine one ht.1 fun cs hv => ?_
      subst hv
      obtain ⟨b, hb⟩ := Go.WideShapes.okWide_int hu hval
      cases hb
    · rename_i e hu
      simp only [Bool.and_eq_true, decide_eq_true_eq] at ht
      refine one ht.1.1.1 fun cs hv => ?_
      subst hv
      obtain ⟨a, b, c, hb⟩ := Go.WideShapes.okWide_slice hu hval
      cases hb
    · rename_i fs hu
      simp only [Bool.and_eq_true, decide_eq_true_eq] at ht
      obtain ⟨cs, hv, _⟩ := Go.WideShapes.okWide_struct hu hval
      exact many _ ht.1.1 ⟨cs, hv⟩
    · rename_i n e hu
      simp only [Bool.and_eq_true, decide_eq_true_eq] at ht
      unfold Value.okWide at hval
      simp only [hu] at hval
      obtain ⟨cs, hv, _⟩ := hval
      exact many _ ht.1.1 ⟨cs, hv⟩
    · cases ht
theorem trodAll_args {H : Type} {enc : TypeId × Value → H} {spare : Nat → Bool} {held : Bool} {k : Nat} {base : Nat} {r : Reach} {g : Gh} {O : Obs} {D : Nat} (hg : g.ok = (· < W.heap.size)) : ∀ (ts : List TypeId) (vs : List Value) (ds : List (DataW H)) (ps : List MemPlace),
    (∀ t ∈ ts, tyOk P k t = true) → (∀ (j : Nat) t v, ts[j]? = some t → vs[j]? = some v → Value.okWide P W r base t v) → DataW.TrodAll enc P W 0 spare held ts vs ds ps →
    ∃ xs, ArgsT P k ts xs ∧ VRs g W O D (argVs P ts xs) vs ∧ xs.length = ts.length
  | [], vs, ds, ps, _, _, h => by
    obtain ⟨rfl, _, _⟩ := Go.ChangeShapes.trodAll_nil h
    exact ⟨[], trivial, rfl, rfl⟩
  | t :: ts, vs, ds, ps, hok, hval, h => by
    match vs, ds, h with
    | v :: vs, d :: ds, ⟨p, q, ⟨fuel, h1⟩, h2, _⟩ =>
      obtain ⟨x, q1, q2, q3⟩ := trod_den k fuel t _ _ (hok t (by simp)) h1
      obtain ⟨xs, r1, r2, r3⟩ := trodAll_args (g := g) (O := O) (D := D) hg ts vs ds q (fun t h => hok t (by simp [h])) (fun j t v ht hv => hval (j + 1) t v (by simpa using ht) (by simpa using hv)) h2
      refine ⟨x :: xs, ⟨q1, r1⟩, ⟨v, vs, rfl, ofT_vr ?_, r2⟩, by simp [r3]⟩
      have := val_den (ok := g.ok) (hok t (by simp)) (hval 0 t v rfl rfl) (by rw [hg]; exact q2) q3
      exact this
theorem trodAll_back {H : Type} {enc : TypeId × Value → H} {W' : World} (hl : laidOutB P = true) (hb : Below W.heap.size W W') : ∀ (ts : List TypeId) (vs : List Value) (ds : List (DataW H)) (ps : List MemPlace),
    (∀ t ∈ ts, P.readableRec t = true ∧ t < P.types.size) → DataW.TrodAll enc P W 0 (fun _ => true) true ts vs ds ps → DataW.TrodAll enc P W' 0 (fun b => decide (b < W.heap.size)) true ts vs ds ps
  | [], vs, ds, ps, _, h => by
    obtain ⟨rfl, rfl, rfl⟩ := Go.ChangeShapes.trodAll_nil h
    exact rfl
  | t :: ts, vs, ds, ps, hok, h => by
    match vs, ds, h with
    | v :: vs, d :: ds, ⟨p, q, h1, h2, he⟩ =>
      have hlt : ∀ x ∈ p, x.block < W.heap.size := by obtain ⟨m, hm⟩ := h1; exact DataW.trod_lt m _ _ _ hm
      exact ⟨p, q, Below.trod hl (hok t (by simp)).1 (hok t (by simp)).2 h1 hb hlt, trodAll_back hl hb ts vs ds q (fun t h => hok t (by simp [h])) h2, he⟩
theorem trodAll_length {H : Type} {enc : TypeId × Value → H} {base : Nat} {spare : Nat → Bool} {held : Bool} : ∀ (ts : List TypeId) (vs : List Value) (ds : List (DataW H)) (ps : List MemPlace),
    DataW.TrodAll enc P W base spare held ts vs ds ps → ds.length = ts.length ∧ vs.length = ts.length
  | [], vs, ds, ps, h => by
    obtain ⟨rfl, rfl, rfl⟩ := Go.ChangeShapes.trodAll_nil h
    exact ⟨rfl, rfl⟩
  | t :: ts, vs, ds, ps, h => by
    match vs, ds, h with
    | v :: vs, d :: ds, ⟨p, q, h1, h2, he⟩ => have := trodAll_length ts vs ds q h2; simp [this.1, this.2]
theorem argVs_length : ∀ (ts : List TypeId) (xs : List (List T)), xs.length = ts.length → (argVs P ts xs).length = ts.length
  | [], xs, _ => by cases xs <;> rfl
  | t :: ts, [], h => by simp at h
  | t :: ts, x :: xs, h => by simp only [argVs, List.length_cons]; rw [argVs_length ts xs (by simpa using h)]
/-- what the machine says of a law -/
def Law (P : Program) (E : Env) (k f : Nat) (ts : List TypeId) : Prop := ∀ xs, ArgsT P k ts xs → ∃ p σ, Ev E (.fn f (argVs P ts xs) []) (.fn (.d p (.bool true)) σ)
theorem law_calls {E : Env} {H : Type} {enc : TypeId × Value → H} {k f : Nat} {ts : List TypeId} {args : Array Value} {base : Nat} {r : Reach} {ds : List (DataW H)} {ps : List MemPlace}
    (hE : EnvOk P E) (hX : ExtOk E) (hF : FnsOk P E) (hm : P.follows .mixedOrders = true) (law : Law P E k f ts) (hok : ∀ t ∈ ts, tyOk P k t = true)
    (hval : ∀ (j : Nat) t v, ts[j]? = some t → args[j]? = some v → Value.okWide P W r base t v) (h : DataW.TrodAll enc P W 0 (fun _ => true) true ts args.toList ds ps) :
    Calls P f args W fun e W' => e = .returned (.bool true) ∧ Below W.heap.size W W' := by
  let g : Gh := { own := fun _ => none, loc := fun _ _ => (0, 0, 0), ok := (· < W.heap.size), base := W.heap.size }
  obtain ⟨xs, hxs, hv, hl⟩ := trodAll_args (g := g) (O := fun _ _ => none) (D := 1) rfl ts args.toList ds ps hok (fun j t v ht hv => hval j t v ht (by simpa using hv)) h
  obtain ⟨p, σ, hev⟩ := law xs hxs
  have sem : FnSem P f (argVs P ts xs) [] (.d p (.bool true)) σ := ev_sound hE hX hF hm hev
  have hlen : (argVs P ts xs).length = args.size := by rw [argVs_length ts xs hl, ← (trodAll_length ts _ ds ps h).2, Array.length_toList]
  have hO : (⟨argVs P ts xs, [], []⟩ : St).O = fun _ _ => none := by
    funext a n
    simp only [St.O, List.length_nil]
    split
    · have ha0 : a = 0 := by omega
      subst ha0; rfl
    · rfl
  have R : Rel g ⟨argVs P ts xs, [], []⟩ args [] W := by
    refine ⟨fun i => ?_, fun a n o ha ho => ?_, fun r hr => (by cases hr), fun b a n hb => (by cases hb), fun b hb => hb, Nat.le_refl _⟩
    · have := VRs.at _ _ i hv
      rw [hO]
      simpa [St.get] using this
    · rw [hO] at ho; cases ho
  refine (sem g [] W args hlen R).mono fun e W' ⟨x, he, g', tmps', _, hx, A, _⟩ => ?_
  have : x = .bool true := VR.bool hx
  subst this
  exact ⟨he, A.os, A.tape, A.output, A.size, fun i hi => A.heap i hi rfl⟩
end
/-- the row of a law that returns true and leaves its arguments as they are -/
theorem law_row {C : Checked} {E : Env} {H : Type} {enc : TypeId × Value → H} {os : Os} {k f : Nat} {fn : Func} {s : ChangeSpec} {conds : List PathCond} {fresh handsOn : Bool} {rt : TypeId} (zero : Array Value)
    (hE : EnvOk C.prog E) (hX : ExtOk E) (hF : FnsOk C.prog E) (hm : C.prog.follows .mixedOrders = true)
    (own : ownKnob C.prog.godebug = none) (started : os.Started) (noInit : C.prog.inits.idxOf? f = none) (hfn : C.prog.funcs[f]? = some fn)
    (w1 : (World.plainHolding C.prog os ⟨#[], zero, []⟩).variablesB C.prog = true)
    (w2 : ((World.plainHolding C.prog os ⟨#[], zero, []⟩).heap.toList.drop C.prog.globals.size).take ((begin C.prog (fun _ _ => 0) default).world.heap.size - C.prog.globals.size) =
      (begin C.prog (fun _ _ => 0) default).world.heap.toList.drop C.prog.globals.size)
    (w3 : Input.okWideB C.prog (World.plainHolding C.prog os ⟨#[], zero, []⟩) f ⟨#[], zero, []⟩ = true)
    (w4 : s.preB enc C.prog fn conds false (World.plainHolding C.prog os ⟨#[], zero, []⟩).memory zero 8 = true)
    (w5 : s.sizedB enc C.prog fn false (World.plainHolding C.prog os ⟨#[], zero, []⟩).memory zero 8 = true)
    (hargs : fn.params.toList.all (argOk C.prog k) = true) (hl : laidOutB C.prog = true) (hres : fn.resultTypes = #[rt]) (hrt : C.prog.underlying rt = some .bool)
    (hs : s.vars = []) (hspec : ∀ ds : List (DataW H), ds.length = fn.params.size → s.fn H ds = { results := [.lit (.bool true)], args := ds })
    (law : Law C.prog E k f fn.params.toList) :
    ReturnsInHanded {} C os f .any (s.pre6 enc C.prog fn conds false) (s.post enc C.prog fn false fresh handsOn false) := by
  have hok : ∀ t ∈ fn.params.toList, tyOk C.prog k t = true ∧ C.prog.readableRec t = true ∧ t < C.prog.types.size := by
    intro t ht
    have := List.all_eq_true.1 hargs t ht
    simp only [argOk, Bool.and_eq_true, decide_eq_true_eq] at this
    exact this
  refine returnsInHanded_of_change_sized own started noInit hfn (ChangeSpec.witness6 (enc := enc) (C := C) false ⟨#[], zero, []⟩ 8 w1 w2 w3 w4 w5) ?_
  intro W base args ds gs before hval hW _ _ _
  have hW' := hW
  obtain ⟨p, q, hA, hV, rfl, _, _⟩ := hW
  rw [hs] at hV
  obtain ⟨rfl, rfl⟩ := Go.ChangeShapes.trodVars_none hV
  have hlen : ds.length = fn.params.size := by rw [(trodAll_length _ _ _ _ hA).1, Array.length_toList]
  refine (law_calls hE hX hF hm law (fun t ht => (hok t ht).1) (fun j t v ht hv => hval j t v (by simpa using ht) hv) hA).mono fun e W' ⟨he, bel⟩ => ?_
  subst he
  refine ⟨_, rfl, ds, [], _, [], p, [], hW', ?_, ?_, ?_, bel.frame _, fun h => by cases h⟩
  · rw [List.append_nil, hspec ds hlen, hres]
    exact Go.ChangeShapes.trodAll_mk1 (Go.RowKit.shut_bool hrt true)
  · rw [List.append_nil, hspec ds hlen]
    exact trodAll_back hl bel _ _ _ _ (fun t ht => (hok t ht).2) hA
  · rw [List.append_nil, hspec ds hlen, hs]
    exact rfl
end Go.Proofs.YtcgjebaomhfbdaaGreat.Vm

/- Functions of Go's library that ask what the machine does not know: tools, and slices.Clone. -/
namespace Go.Proofs.YtcgjebaomhfbdaaGreat.Vm
open Go
section
variable {P : Program} {E : Env} {g : Gh} {σ : St} {tmps : Array Value} {rts : Roots} {w : World}
theorem ops_wp2 (hE : EnvOk P E) {nt : Nat} {ops : Array Oper} {Q : Exit → Act → World → Prop} {ds : List Deferred} {is : List G} {σ' : St} {rest : List Nat} (h1 : Ops1 P E σ is σ') : ∀ {js : List Nat} {g : Gh} {tmps : Array Value} {w : World}, OkL P nt ops is js →
    Rel g σ tmps rts w → tmps.size = nt → (∀ a' w', Next g w rts nt σ.up.length σ' ds a' w' → wpOps P ops Q rest a' w') → wpOps P ops Q (js ++ rest) ⟨tmps, ds⟩ w := by
  induction h1 with
  | nil =>
    intro js g tmps w hL h hnt hQ
    cases hL
    exact hQ _ _ ⟨g, tmps, rfl, hnt, h, Adv.refl g w, rfl⟩
  | @cons σ σ₁ σ' i is h1 hr ih =>
    intro js g tmps w hL h hnt hQ
    cases hL with
    | @cons _ _ j js o hj ho hL =>
      simp only [List.cons_append]
      unfold wpOps
      simp only [hj]
      refine OpWp.plain (op_wp (K := wpOps P ops Q (js ++ rest)) hE ho h hnt h1 (fun a' w' hn => ?_))
      obtain ⟨g1, tmps1, rfl, hs1, R1, A1, hup1⟩ := hn
      refine ih hL R1 hs1 (fun a2 w2 hn2 => hQ _ _ ?_)
      exact hn2.trans A1 hup1
theorem value_wp {ops : Array Oper} {Q : Exit → Act → World → Prop} {ds : List Deferred} {rest : List Nat} {j : Nat} {o : Oper} {x : Value} {w' : World} (hj : ops[j]? = some o) (hg : o.guard = none)
    (hr : (execOp (evalT tmps) o).run P w = .ok (.value x) w') (h : wpOps P ops Q rest ⟨putT tmps o.dst x, ds⟩ w') : wpOps P ops Q (j :: rest) ⟨tmps, ds⟩ w := by
  unfold wpOps
  simp only [hj]
  have hw : Region.wanted o (yielded ops tmps) = true := by simp [Region.wanted, hg]
  rw [hw]
  simp only [if_true]
  refine .inl ?_
  unfold Oper.wp
  rw [Act.eval_T, hr, Oper.upon_value, putT_put]
  exact h
/-- a piece of code, where its runs end as K says -/
theorem wc_wp (hE : EnvOk P E) (hX : ExtOk E) (hF : FnsOk P E) (hm : P.follows .mixedOrders = true) {c : C} {K : Ex → St → Prop} (h : WC E c σ K) {nt : Nat} {mc : Code} (hnr : c.noRf = true) (hok : okCode P E nt c mc = true)
    (R : Rel g σ tmps rts w) (hnt : tmps.size = nt) {Q : Exit → Act → World → Prop} (hQ : ∀ e σ' a' w', K e σ' → Next g w rts nt σ.up.length σ' [] a' w' → Q (exitOf e) a' w') : mc.wp P Q ⟨tmps, []⟩ w := by
  obtain ⟨e, σ', h, k⟩ := h
  have m : Mot P E (.code c σ) (.code e σ') := ev_sound hE hX hF hm h
  refine wpIn_Wd.1 (CodeGoal.wp (m none nt mc (.inl rfl) hok g tmps rts w [] 0 R hnt (Nat.zero_le _) Q fun a' w' hn => ?_))
  obtain ⟨g', tmps', ds', rfl, hs, R', A, hu, _, hd⟩ := hn
  obtain rfl := hd hnr
  exact hQ e σ' _ w' k ⟨g', tmps', rfl, hs, R', A, hu⟩
/-- a function's run, out of its body's -/
theorem fn_wp {f : Nat} {fn : Func} {c : Code} {as : List V} {up : List Lv} {args : Array Value} {rs : List Rv} {K : V → St → Prop} (hfn : P.funcs[f]? = some fn) (hbody : fn.body = some c) (hlen : as.length = args.size)
    (R : Rel g ⟨as, [], up⟩ args rts w) (hres : okRv P rs fn.results.toList = true)
    (hwp : ∀ tmps nt, fn.ntmps ≤ nt → tmps.size = nt → Rel g ⟨as, [], up⟩ tmps rts w → ∀ Q : Exit → Act → World → Prop,
      (∀ e σ a' w', (e = .normal ∨ e = .ret) → (∃ v, resVal σ rs = some v ∧ K v σ) → Next g w rts nt up.length σ [] a' w' → Q (exitOf e) a' w') → c.wp P Q ⟨tmps, []⟩ w) :
    Calls P f args w fun e w' => ∃ r, e = .returned r ∧ ∃ v σ, K v σ ∧ Left g rts w up v σ r w' := by
  refine calls_of_wp hfn hbody (hwp (args ++ Array.replicate (fn.ntmps - args.size) undef) _ (by simp; omega) rfl ?_ _ fun e σ a' w' he hk hn => ?_)
  · refine ⟨fun i => ?_, R.ob, R.rt, R.own, R.okb, R.base⟩
    have := R.sl i
    by_cases hi : i < args.size
    · have e1 : (args ++ Array.replicate (fn.ntmps - args.size) undef).getD i undef = args.getD i undef := by
        simp [Array.getD_eq_getD_getElem?, Array.getElem?_append, hi]
      rw [e1]; exact this
    · have : (⟨as, [], up⟩ : St).get i = .u := gt_far _ _ _ (by simp; omega)
      rw [this]; trivial
  · obtain ⟨v, hv, hk⟩ := hk
    obtain ⟨g', tmps', rfl, hs, R', Ad, hup⟩ := hn
    obtain ⟨r, hr, hvr⟩ := results_sound R' hres hv
    have post : ([] : List Deferred) = [] ∧ ∃ x, (results fn tmps').run P w' = .ok x w' ∧ ∃ r, Ending.returned x = .returned r ∧ ∃ v σ, K v σ ∧ Left g rts w up v σ r w' :=
      ⟨rfl, r, hr, r, rfl, v, σ, hk, g', tmps', R', hvr, Ad, hup⟩
    rcases he with rfl | rfl
    · exact post
    · exact post
/-- an environment of nothing -/
def noEnv : Env := ⟨fun _ => none, fun _ => none⟩
theorem noEnv_ok : EnvOk P noEnv := ⟨fun _ _ h => (by cases h), fun _ _ h => (by cases h)⟩
theorem noEnv_ext : ExtOk noEnv := ⟨fun _ _ h => (by cases h), fun _ _ h => (by cases h), fun _ _ h => (by cases h)⟩
theorem noEnv_fns : FnsOk P noEnv := ⟨fun _ _ h => (by cases h)⟩
/-! A row that a callee made becomes the caller's. -/
theorem leave_self (σ : St) {σc : St} (h : σc.up = σ.ob :: σ.up) : leave false σ σc = some σ := by
  unfold leave
  simp only [Bool.false_eq_true, if_false, h]
theorem Left.row {w' : World} {σc : St} {r : Value} {k nm s : Nat} {es : List T} {gr : Bool} (hrt : ∀ q ∈ rts, q.1 ≤ σ.up.length) (h : Left g (slotRoots σ tmps ++ rts) w (σ.ob :: σ.up) (.row 0 k 0 es.length s) σc r w')
    (hup : σc.up = σ.ob :: σ.up) (hobj : σc.obj 0 k = some (.rw s es gr)) (hno : σ.obj 0 nm = none) :
    ∃ g', Rel g' (σ.setObj 0 nm (some (.rw s es false))) tmps rts w' ∧ VR g' w' (σ.setObj 0 nm (some (.rw s es false))).O (σ.up.length + 1) (.row 0 nm 0 es.length s) r ∧ Adv g w g' w' := by
  obtain ⟨g1, tmps', R, hv, Ad, hlen⟩ := h
  have hl : σc.up.length = σ.up.length + 1 := by rw [hup]; rfl
  obtain ⟨R3, K3, hl3⟩ := Rel.leave R (leave_self σ hup) hl hrt
  have hO : σc.O (σ.up.length + 1) k = some (.rw s es gr) := by
    have := St.O_obj σc 0 k (Nat.zero_le _)
    rw [hl] at this
    rw [show σ.up.length + 1 - 0 = σ.up.length + 1 by omega] at this
    rw [this]; exact hobj
  obtain ⟨_, A, c, hr, hrow⟩ := hv
  rw [hl, show σ.up.length + 1 + 1 - 1 - 0 = σ.up.length + 1 by omega] at hrow
  unfold RowV at hrow
  rw [hO] at hrow
  simp only at hrow
  obtain ⟨_, hfit, hcap, hrow⟩ := hrow
  let own2 : Nat → Option Nat := fun b => match g1.own b with | some (a, n) => if a = σ.up.length + 1 ∧ n = k then some nm else none | none => none
  let loc2 : Nat → Nat × Nat × Nat := fun _ => g1.loc (σ.up.length + 1) k
  have own2_some : ∀ b m, own2 b = some m → g1.own b = some (σ.up.length + 1, k) ∧ m = nm := fun b m hb => by
    simp only [own2] at hb
    split at hb
    · rename_i a n hh
      split at hb
      · rename_i hc; cases hb; obtain ⟨rfl, rfl⟩ := hc; exact ⟨hh, rfl⟩
      · cases hb
    · cases hb
  have own2_of : ∀ b, g1.own b = some (σ.up.length + 1, k) → own2 b = some nm := fun b hb => by simp only [own2, hb, and_self, if_true]
  have hset : σ.setObj 0 nm (some (.rw s es false)) = { σ with ob := st none σ.ob nm (some (.rw s es false)) } := rfl
  have hgt : ∀ n, gt none (st none σ.ob nm (some (.rw s es false))) n = if nm = n then some (.rw s es false) else σ.obj 0 n := fun n => gt_st _ _ _ _
  have hold : ∀ n, σ.obj 0 n ≠ none → gt none (st none σ.ob nm (some (.rw s es false))) n = σ.obj 0 n := fun n hn => by
    rw [hgt, if_neg (fun e => hn (by rw [← e]; exact hno))]
  have hown : ∀ b m, own2 b = some m → (g1.low (σ.up.length + 1)).own b = none ∧ ¬ (g1.low (σ.up.length + 1)).ok b ∧ (g1.low (σ.up.length + 1)).base ≤ b ∧ b < w'.heap.size := fun b m hb => by
    obtain ⟨h1, _⟩ := own2_some b m hb
    obtain ⟨q1, q2, q3, _⟩ := R.own b _ _ h1
    exact ⟨by simp only [Gh.low, h1]; rw [if_neg (by omega)], q2, q3, q1⟩
  have hlocn : ((g1.low (σ.up.length + 1)).gain σ own2 loc2).loc σ.up.length nm = g1.loc (σ.up.length + 1) k := by
    simp only [Gh.gain, hno, and_self, if_true, loc2]
  have hownn : ∀ b, g1.own b = some (σ.up.length + 1, k) → ((g1.low (σ.up.length + 1)).gain σ own2 loc2).own b = some (σ.up.length, nm) := fun b hb => by simp only [Gh.gain, own2_of b hb]
  refine ⟨(g1.low (σ.up.length + 1)).gain σ own2 loc2, ?_, ?_, ?_⟩
  · rw [hset]
    refine Rel.gain R3 hold hown fun m o hm hmo => ?_
    rw [hgt] at hmo
    split at hmo
    · rename_i hnm
      subst hnm
      cases hmo
      rcases R.ob (σ.up.length + 1) k _ (by omega) hO with hh | ⟨q1, q2, cs, el, q3, q4, q5⟩
      · exact .inl (by rw [hlocn]; exact hh)
      · exact .inr ⟨by rw [hlocn]; exact hownn _ q1, by rw [hlocn]; exact q2, cs, el, by rw [hlocn]; exact q3, by rw [hlocn]; exact q4, by rw [hlocn]; exact q5⟩
    · rw [hm] at hmo; cases hmo
  · refine ⟨Nat.succ_pos _, A, c, hr, ?_⟩
    rw [show σ.up.length + 1 - 1 - 0 = σ.up.length by omega]
    unfold RowV
    rw [hset, St.O_top, hgt, if_pos rfl]
    refine ⟨rfl, hfit, hcap, hrow.imp id fun ⟨b, o, hA, hb, hd, hx⟩ => ⟨b, o, hA, hownn b hb, hd, .inl ?_⟩⟩
    rw [hlocn]
    rcases hx with hx | ⟨_, hx, _⟩
    · exact hx
    · omega
  · have Al := Ad.low (D := σ.up.length + 1)
    refine ⟨Al.base, Al.ok, Al.okNew, fun b hb => ?_, Al.heap, Al.size, Al.os, Al.tape, Al.output⟩
    simp only [Gh.gain] at hb
    cases h2 : own2 b with
    | none => rw [h2] at hb; exact Al.ownNew b hb
    | some m => exact Ad.ownNew b (by rw [(own2_some b m h2).1]; simp)
theorem Left.nilRow {w' : World} {σc : St} {r : Value} {nm s s' : Nat} (hrt : ∀ q ∈ rts, q.1 ≤ σ.up.length) (h : Left g (slotRoots σ tmps ++ rts) w (σ.ob :: σ.up) (.nil s') σc r w')
    (hup : σc.up = σ.ob :: σ.up) (hno : σ.obj 0 nm = none) :
    ∃ g', Rel g' (σ.setObj 0 nm (some (.rw s [] false))) tmps rts w' ∧ VR g' w' (σ.setObj 0 nm (some (.rw s [] false))).O (σ.up.length + 1) (.row 0 nm 0 0 s) r ∧ Adv g w g' w' := by
  obtain ⟨g1, tmps', R, hv, Ad, hlen⟩ := h
  have hl : σc.up.length = σ.up.length + 1 := by rw [hup]; rfl
  obtain ⟨R3, K3, hl3⟩ := Rel.leave R (leave_self σ hup) hl hrt
  obtain ⟨A, hr⟩ := hv
  have hset : σ.setObj 0 nm (some (.rw s [] false)) = { σ with ob := st none σ.ob nm (some (.rw s [] false)) } := rfl
  have hgt : ∀ n, gt none (st none σ.ob nm (some (.rw s [] false))) n = if nm = n then some (.rw s [] false) else σ.obj 0 n := fun n => gt_st _ _ _ _
  have Al := Ad.low (D := σ.up.length + 1)
  refine ⟨(g1.low (σ.up.length + 1)).gain σ (fun _ => none) (fun _ => (0, 0, 0)), ?_, ?_, ⟨Al.base, Al.ok, Al.okNew, Al.ownNew, Al.heap, Al.size, Al.os, Al.tape, Al.output⟩⟩
  · rw [hset]
    refine Rel.gain R3 (fun n hn => by rw [hgt, if_neg (fun e => hn (by rw [← e]; exact hno))]) (fun b m hb => by cases hb) fun m o hm hmo => ?_
    rw [hgt] at hmo
    split at hmo
    · rename_i hnm
      subst hnm
      cases hmo
      exact .inl ⟨rfl, by simp only [Gh.gain, hno, and_self, if_true]⟩
    · rw [hm] at hmo; cases hmo
  · refine ⟨Nat.succ_pos _, A, 0, hr, ?_⟩
    rw [show σ.up.length + 1 - 1 - 0 = σ.up.length by omega]
    unfold RowV
    rw [hset, St.O_top, hgt, if_pos rfl]
    exact ⟨rfl, by simp, Nat.le_refl _, .inl rfl⟩
theorem els_shift {s : Nat} {v : V} {as : List V} : (⟨as, [], σ.ob :: σ.up⟩ : St).els s (v.shift 1) = σ.els s v := by
  cases v with
  | row l n lo len s' =>
    simp only [V.shift, St.els]
    have : (⟨as, [], σ.ob :: σ.up⟩ : St).rowOf (l + 1) n lo len = σ.rowOf l n lo len := by
      unfold St.rowOf
      have : (⟨as, [], σ.ob :: σ.up⟩ : St).obj (l + 1) n = σ.obj l n := by cases l <;> rfl
      rw [this]
    rw [this]
  | d p t => cases t <;> rfl
  | dx p t => cases t <;> rfl
  | _ => rfl
theorem els_up {s n0 : Nat} {o : Option Ob} {v : V} : (σ.setObj 0 n0 o).els s (v.shift 1) = σ.els s (v.shift 1) := by
  cases v with
  | row l n lo len s' =>
    simp only [V.shift, St.els]
    have : (σ.setObj 0 n0 o).rowOf (l + 1) n lo len = σ.rowOf (l + 1) n lo len := by
      unfold St.rowOf
      rw [St.obj_setObj, if_neg (fun h => by cases h.1)]
    rw [this]
  | d p t => cases t <;> rfl
  | dx p t => cases t <;> rfl
  | _ => rfl
/-! slices.Clone -/
def cloneX (s : Nat) : Ext := fun σ as rm => match as with
  | [a] => match σ.els s a with
    | some es => if es.length ≤ big then match rm with
        | none => some (.d true (.lst s es), σ)
        | some nm => (σ.new nm (.rw s es false)).map fun σ => (.row 0 nm 0 es.length s, σ)
      else none
    | none => none
  | _ => none
theorem cloneX_set {s : Nat} (σ : St) (d : Nat) (v : V) (as : List V) (rm : Option Nat) : cloneX s (σ.set d v) as rm = (cloneX s σ as rm).map fun p => (p.1, p.2.set d v) := by
  unfold cloneX
  split
  · rw [els_set]
    cases σ.els s _ with
    | none => rfl
    | some es =>
      simp only
      split
      · cases rm with
        | none => rfl
        | some nm => simp only [new_set]; cases σ.new nm _ <;> rfl
      · rfl
  · rfl
theorem cloneX_get {s : Nat} {σ : St} {as : List V} {rm : Option Nat} {v : V} {σ' : St} {t : Nat} (h : cloneX s σ as rm = some (v, σ')) : σ'.get t = σ.get t := by
  unfold cloneX at h
  split at h
  · split at h
    · split at h
      · cases rm with
        | none => cases h; rfl
        | some nm =>
          obtain ⟨ρ, h1, h2⟩ := map_some h
          cases h2
          obtain ⟨_, rfl⟩ := new_some h1
          exact St.get_setObj _ _ _ _ _
      · cases h
    · cases h
  · cases h
theorem els_sim {τ : St} {s : Nat} {v : V} (h : SimV σ τ v) : τ.els s v = σ.els s v := by
  cases v with
  | row l n lo len s' => simp only [SimV] at h; simp only [St.els, h]
  | d p t => cases t <;> rfl
  | dx p t => cases t <;> rfl
  | _ => rfl
theorem cloneX_pure {s : Nat} (σ τ : St) (as : List V) (v : V) (σ' : St) (h : cloneX s σ as none = some (v, σ')) (hs : SimVs σ τ as) : σ' = σ ∧ cloneX s τ as none = some (v, τ) := by
  unfold cloneX at h ⊢
  split at h
  · rename_i a
    rw [els_sim hs.1]
    split at h
    · split at h
      · rename_i hb
        cases h
        exact ⟨rfl, by simp only [if_pos hb]⟩
      · cases h
    · cases h
  · cases h
def cl0 (s : Nat) : C := .rg 0 false [] [⟨.mv 2 (.c (.nil s)), none⟩] []
def cl2 (s : Nat) : C := .seq (.rg 2 false [] [⟨.mv 2 (.c (.nil s)), none⟩] []) .ret
def cl3 (s : Nat) (z : Z) : C := .seq (.rg 3 false [] [⟨.bsl 5 0 s 0 z [], none⟩, ⟨.mv 6 (.t 0), none⟩, ⟨.app 7 1 s (.t 5) (.t 6), none⟩, ⟨.mv 2 (.t 7), none⟩] []) .ret
/-- is a function slices.Clone for elements of s cells? -/
def cloneOk (P : Program) (f s : Nat) (z : Z) : Bool := enters P f && (match P.funcs[f]? with
  | some fn => decide (5 ≤ fn.ntmps) && okRv P [.s 2] fn.results.toList && z.t?.isSome && (match fn.body with
    | some (.seq r0 (.seq (.seq (.region _ opsA false) (.cond p r2 .skip)) r3)) =>
      okCode P noEnv fn.ntmps (cl0 s) r0 && okCode P noEnv fn.ntmps (cl2 s) r2 && okCode P noEnv fn.ntmps (cl3 s z) r3 && okX (.t 4) p && (match opsA.toList with
        | [o1, o2] => okG P fn.ntmps opsA ⟨.mv 3 (.t 0), none⟩ o1 && o2.guard.isNone && decide (o2.dst = some 4) && (match o2.op with
          | .binOp .eql t (.tmp 3) (.const (.slice none 0 0)) _ => (match P.underlying t with | some (.slice _) => true | _ => false)
          | _ => false)
        | _ => false)
    | _ => false)
  | none => false)
theorem run_nilcmp {ev : Operand → Value} {o : Oper} {t t' : TypeId} {e : TypeId} {A : Option Addr} {n c : Nat} (ho : o.op = .binOp .eql t (.tmp 3) (.const (.slice none 0 0)) t') (hu : P.underlying t = some (.slice e))
    (h1 : ev (.tmp 3) = .slice A n c) (h2 : ev (.const (.slice none 0 0)) = .slice none 0 0) : (execOp ev o).run P w = .ok (.value (.bool A.isNone)) w := by
  have key : (Op.equal t (.slice A n c) (.slice none 0 0)).run P w = .ok A.isNone w := by
    show (Op.equalIn (9999 + 1) t _ _).run P w = _
    rw [Op.equalIn]
    simp only [Sem.run_bind, run_underlying hu, Result.andThen_ok]
    cases A <;> rfl
  unfold execOp
  simp only [ho, h1, h2]
  show (do let v ← (do eqGuard .eql t (.tmp 3) (.const (.slice none 0 0)) (.slice A n c) (.slice none 0 0); (do pure (.bool (← Op.equal t (.slice A n c) (.slice none 0 0)))) : Sem Value); pure (.value v) : Sem Go.Next).run P w = _
  have hg : (eqGuard .eql t (.tmp 3) (.const (.slice none 0 0)) (.slice A n c) (.slice none 0 0)).run P w = .ok () w := by rfl
  simp only [Sem.run_bind, hg, Result.andThen_ok, key, Sem.run_pure]
theorem cloneOk.facts {f s : Nat} {z : Z} (h : cloneOk P f s z = true) : enters P f = true ∧ ∃ fn r0 r2 r3 id opsA p o1 o2 t t' zt e, P.funcs[f]? = some fn ∧ fn.body = some (.seq r0 (.seq (.seq (.region id opsA false) (.cond p r2 .skip)) r3)) ∧ 5 ≤ fn.ntmps ∧
    okRv P [.s 2] fn.results.toList = true ∧ z.t? = some zt ∧ okCode P noEnv fn.ntmps (cl0 s) r0 = true ∧ okCode P noEnv fn.ntmps (cl2 s) r2 = true ∧ okCode P noEnv fn.ntmps (cl3 s z) r3 = true ∧ okX (.t 4) p = true ∧
    opsA.toList = [o1, o2] ∧ okG P fn.ntmps opsA ⟨.mv 3 (.t 0), none⟩ o1 = true ∧ o2.guard = none ∧ o2.dst = some 4 ∧ o2.op = .binOp .eql t (.tmp 3) (.const (.slice none 0 0)) t' ∧ P.underlying t = some (.slice e) := by
  unfold cloneOk at h
  simp only [Bool.and_eq_true] at h
  obtain ⟨h1, h2⟩ := h
  refine ⟨h1, ?_⟩
  split at h2
  · rename_i fn hfn
    simp only [Bool.and_eq_true, decide_eq_true_eq] at h2
    obtain ⟨⟨⟨h3, h4⟩, h5⟩, h2⟩ := h2
    obtain ⟨zt, hz⟩ := Option.isSome_iff_exists.1 h5
    split at h2
    · rename_i r0 id opsA p r2 r3 hb
      simp only [Bool.and_eq_true] at h2
      obtain ⟨⟨⟨⟨q1, q2⟩, q3⟩, q4⟩, h2⟩ := h2
      split at h2
      · rename_i o1 o2 ho
        simp only [Bool.and_eq_true, decide_eq_true_eq, Option.isNone_iff_eq_none] at h2
        obtain ⟨⟨⟨h6, h7⟩, h8⟩, h2⟩ := h2
        split at h2
        · rename_i t t' hop
          split at h2
          · rename_i e hu
            exact ⟨fn, r0, r2, r3, id, opsA, p, o1, o2, t, t', zt, e, hfn, hb, h3, h4, hz, q1, q2, q3, q4, ho, h6, h7, h8, hop, hu⟩
          · cases h2
        · cases h2
      · cases h2
    · cases h2
  · cases h2
theorem clone_ext {f s : Nat} {z : Z} (hok : cloneOk P f s z = true) (hm : P.follows .mixedOrders = true) : ExtSem P f (cloneX s) := by
  obtain ⟨hen, fn, r0, r2, r3, id, opsA, p, o1, o2, t, t', zt, e, hfn, hbody, hnt5, hres, hzt, q0, q2, q3, qp, hops, hg1, hgd2, hd2, hop2, hu⟩ := cloneOk.facts hok
  intro σ as rm v σ' g tmps rts w args hX R hv
  unfold cloneX at hX
  split at hX
  · rename_i a
    split at hX
    · rename_i es hes
      split at hX
      · rename_i hbig
        have hlen : (V.shifts 1 [a]).length = args.size := by rw [V.shifts_length, VRs.length _ _ hv, Array.length_toList]
        have hes0 : (⟨V.shifts 1 [a], [], σ.ob :: σ.up⟩ : St).els s (a.shift 1) = some es := by rw [els_shift, hes]
        have sem := fn_wp (K := fun v σc => σc.up = σ.ob :: σ.up ∧ ((v = .nil s ∧ es = []) ∨ (v = .row 0 0 0 es.length s ∧ ∃ gr, σc.obj 0 0 = some (.rw s es gr)))) hfn hbody hlen (R.enter hv) hres ?_
        · refine CallSem.mono (CallSem.of f hen sem) fun r w' ⟨v', σc, ⟨hup, hk⟩, hL⟩ => ?_
          have hrt : ∀ q ∈ rts, q.1 ≤ σ.up.length := fun q hq => (R.rt q hq).1
          cases rm with
          | none =>
            cases hX
            rcases hk with ⟨rfl, rfl⟩ | ⟨rfl, gr, hob⟩
            · obtain ⟨g', R', hv', Ad, hul⟩ := Left.back (v' := .d true (.lst s [])) (σ₁ := σ) hrt hL (by unfold Vm.back; rw [leave_self σ hup]; rfl)
              exact ⟨g', R', hv', Ad, rfl⟩
            · obtain ⟨g', R', hv', Ad, hul⟩ := Left.back (v' := .d true (.lst s es)) (σ₁ := σ) hrt hL (by
                unfold Vm.back; rw [leave_self σ hup]
                simp only [dat, dat2, dat1, hob]
                rw [if_pos (by omega)]
                simp [slice])
              exact ⟨g', R', hv', Ad, rfl⟩
          | some nm =>
            obtain ⟨ρ, hn, he⟩ := map_some hX
            cases he
            obtain ⟨hno, rfl⟩ := new_some hn
            have hul : (σ.setObj 0 nm (some (.rw s es false))).up.length = σ.up.length := rfl
            rcases hk with ⟨rfl, rfl⟩ | ⟨rfl, gr, hob⟩
            · obtain ⟨g', R', hv', Ad⟩ := Left.nilRow hrt hL hup hno
              exact ⟨g', R', hv', Ad, rfl⟩
            · obtain ⟨g', R', hv', Ad⟩ := Left.row hrt hL hup hob hno
              exact ⟨g', R', hv', Ad, rfl⟩
        · intro tmps0 nt hnt0 hnt R0 Q hQ
          refine wp_seq (wc_wp noEnv_ok noEnv_ext noEnv_fns hm (K := fun e σ1 => e = .normal ∧ σ1 = (⟨V.shifts 1 [a], [], σ.ob :: σ.up⟩ : St).set 2 (.nil s)) ⟨.normal, _, .rg rfl (.step rfl rfl .nil) (fun _ h => by cases h), rfl, rfl⟩ rfl (okCode_mono hnt0 _ _ q0) R0 hnt ?_)
          rintro _ _ a' w1 ⟨rfl, rfl⟩ ⟨g1, tmps1, rfl, hs1, R1, A1, hup1⟩
          refine wp_seq (wp_seq (wp_region ?_))
          have hsz : opsA.size = 2 := by rw [← Array.length_toList, hops]; rfl
          have ho1 : opsA[0]? = some o1 := by rw [← Array.getElem?_toList, hops]; rfl
          have ho2 : opsA[1]? = some o2 := by rw [← Array.getElem?_toList, hops]; rfl
          rw [hsz]
          refine ops_wp2 (js := [0]) (rest := [1]) noEnv_ok (nt := nt) (.cons (.step rfl rfl) .nil) (.cons ho1 (okG_mono hnt0 hg1) .nil) R1 hs1 ?_
          rintro a2 w2 ⟨g2, tmps2, rfl, hs2, R2, A2, hup2⟩
          have hval := R2.sl 3
          rw [St.get_set, if_pos rfl] at hval
          have hval' := VR.els (s := s) (ys := es) (σ := ((⟨V.shifts 1 [a], [], σ.ob :: σ.up⟩ : St).set 2 (.nil s)).set 3 (a.shift 1)) (by rw [els_set, els_set]; exact hes0) hval
          obtain ⟨A, c, hx, hA⟩ := hval'
          have hev : evalT tmps2 (.tmp 3) = .slice A es.length c := by
            rw [← hx]; rfl
          refine value_wp ho2 hgd2 (run_nilcmp hop2 hu hev rfl) ?_
          have R3 := R2.set (d := 4) (v := dBool A.isNone) (x := .bool A.isNone) (by omega) (by simp [VR, Den, DenC])
          have hs3 : (tmps2.setIfInBounds 4 (Value.bool A.isNone)).size = nt := by simp [hs2]
          rw [hd2]
          show (Code.cond p r2 .skip).wp P _ ⟨tmps2.setIfInBounds 4 (Value.bool A.isNone), []⟩ w2
          have hcond := R3.val qp
          refine wp_cond (t := A.isNone) (by rw [Act.eval_T]; exact VR.bool hcond) ?_
          have Ad2 := A1.trans A2
          have hup' : ∀ σ3 : St, σ3 = ((((⟨V.shifts 1 [a], [], σ.ob :: σ.up⟩ : St).set 2 (.nil s)).set 3 (a.shift 1)).set 4 (dBool A.isNone)) → σ3.up = σ.ob :: σ.up := fun _ h => by rw [h]; rfl
          generalize hσ3 : ((((⟨V.shifts 1 [a], [], σ.ob :: σ.up⟩ : St).set 2 (.nil s)).set 3 (a.shift 1)).set 4 (dBool A.isNone)) = σ3 at hup'
          have hup3 := hup' σ3 rfl
          have R3' : Rel g2 σ3 (tmps2.setIfInBounds 4 (Value.bool A.isNone)) (slotRoots σ tmps ++ rts) w2 := by rw [← hσ3]; exact R3
          have hob3 : σ3.obj 0 0 = none := by rw [← hσ3]; rfl
          have hels3 : σ3.els s (a.shift 1) = some es := by rw [← hσ3, els_set, els_set, els_set]; exact hes0
          have hget3 : σ3.get 0 = a.shift 1 := by rw [← hσ3]; rfl
          cases hA0 : A.isNone with
          | true =>
            have hes' : es = [] := by
              rcases hA with h | ⟨b, o, rfl, _⟩
              · exact h
              · cases hA0
            rw [hA0] at R3' hs3
            refine wc_wp noEnv_ok noEnv_ext noEnv_fns hm (K := fun e σ4 => e = .ret ∧ σ4 = σ3.set 2 (.nil s)) ⟨.ret, _, .seq (.rg rfl (.step rfl rfl .nil) (fun _ h => by cases h)) .ret, rfl, rfl⟩ rfl (okCode_mono hnt0 _ _ q2) R3' hs3 ?_
            rintro _ _ a4 w4 ⟨rfl, rfl⟩ hn
            obtain ⟨g4, tmps4, rfl, hs4, R4, A4, hup4⟩ := hn
            refine hQ .ret (σ3.set 2 (.nil s)) _ _ (.inr rfl) ⟨.nil s, by simp [resVal, resVals, St.get_set], by rw [St.up_set]; exact hup3, .inl ⟨rfl, hes'⟩⟩ ?_
            exact ⟨g4, tmps4, rfl, hs4, R4, Ad2.trans A4, by rw [St.up_set, hup3]⟩
          | false =>
            rw [hA0] at R3' hs3
            refine wp_skip ?_
            have h1 : step σ3 (.bsl 5 0 s 0 z []) = some ((σ3.setObj 0 0 (some (.rw s [] false))).set 5 (.row 0 0 0 0 s)) := by
              simp [step, St.toTs, hzt, flatFill, fillT, St.frz, St.new, hob3]
            have hels4 : ((σ3.setObj 0 0 (some (.rw s [] false))).set 5 (.row 0 0 0 0 s)).els s (a.shift 1) = some es := by
              rw [els_set, els_up, hels3]
            have h3 : step ((((σ3.setObj 0 0 (some (.rw s [] false))).set 5 (.row 0 0 0 0 s))).set 6 (a.shift 1)) (.app 7 1 s (.t 5) (.t 6)) =
                some (((((((σ3.setObj 0 0 (some (.rw s [] false))).set 5 (.row 0 0 0 0 s))).set 6 (a.shift 1))).setObj 0 0 (some (.rw s es true))).set 7 (.row 0 0 0 es.length s)) := by
              simp only [step, St.app, St.val, St.get_set, if_true, els_set]
              rw [els_set] at hels4
              rw [hels4]
              simp [St.obj_set, St.obj_setObj, hbig]
            refine wc_wp noEnv_ok noEnv_ext noEnv_fns hm (K := fun e σ4 => e = .ret ∧ σ4.get 2 = .row 0 0 0 es.length s ∧ σ4.obj 0 0 = some (.rw s es true) ∧ σ4.up = σ.ob :: σ.up)
              ⟨.ret, _, .seq (.rg rfl (.step rfl h1 (.step rfl (by simp only [step, St.val, St.get_set]; rfl) (.step rfl (by rw [St.get_setObj, hget3]; exact h3) (.step rfl rfl .nil)))) (fun _ h => by cases h)) .ret, rfl, ?_, ?_, ?_⟩ rfl (okCode_mono hnt0 _ _ q3) R3' hs3 ?_
            · simp [St.get_set, St.val]
            · simp [St.obj_set, St.obj_setObj]
            · exact hup3
            · rintro _ σ4 a4 w4 ⟨rfl, k1, k2, k3⟩ hn
              obtain ⟨g4, tmps4, rfl, hs4, R4, A4, hup4⟩ := hn
              refine hQ .ret σ4 _ _ (.inr rfl) ⟨.row 0 0 0 es.length s, by simp [resVal, resVals, k1], k3, .inr ⟨rfl, true, k2⟩⟩ ?_
              exact ⟨g4, tmps4, rfl, hs4, R4, Ad2.trans A4, by rw [k3]⟩
      · cases hX
    · cases hX
  · cases hX
end
end Go.Proofs.YtcgjebaomhfbdaaGreat.Vm

