/- A machine for the seat's programs and its soundness, part 3. -/
import Derived.Test.YtcgjebaomhfbdaaGreatVmP2
import Derived.Calls
/- Operations inside a region: what each does to Go's state. -/
namespace Go.Proofs.YtcgjebaomhfbdaaGreat.Vm
open Go
/-- what a call leaves, as the machine says -/
def Left (g : Gh) (rts : Roots) (w : World) (up : List Lv) (v : V) (σc : St) (r : Value) (w' : World) : Prop :=
  ∃ g' tmps', Rel g' σc tmps' rts w' ∧ VR g' w' σc.O (σc.up.length + 1) v r ∧ Adv g w g' w' ∧ σc.up.length = up.length
/-- a function does what the machine says -/
def FnSem (P : Program) (f : Nat) (as : List V) (up : List Lv) (v : V) (σc : St) : Prop :=
  ∀ g rts w (args : Array Value), as.length = args.size → Rel g ⟨as, [], up⟩ args rts w → Calls P f args w fun e w' => ∃ r, e = .returned r ∧ Left g rts w up v σc r w'
/-- a call of a function by its number: it is entered, or it is done at once -/
def CallSem (P : Program) (f : Nat) (args : Array Value) (w : World) (R : Value → World → Prop) : Prop :=
  ((callFunc f args).run P w = .ok (.enter f args) w ∧ Calls P f args w fun e w' => ∃ r, e = .returned r ∧ R r w') ∨
  ∃ r w', (callFunc f args).run P w = .ok (.value r) w' ∧ R r w'
/-- a function of Go's own library, as the machine says -/
def ExtSem (P : Program) (f : Nat) (X : Ext) : Prop :=
  ∀ σ as rm v σ' g tmps rts w (args : Array Value), X σ as rm = some (v, σ') → Rel g σ tmps rts w → VRs g w σ.O (σ.up.length + 1) as args.toList →
    CallSem P f args w fun r w' => ∃ g', Rel g' σ' tmps rts w' ∧ VR g' w' σ'.O (σ'.up.length + 1) v r ∧ Adv g w g' w' ∧ σ'.up.length = σ.up.length
/-- one operation, as the machine says -/
inductive Op1 (P : Program) (E : Env) : St → G → St → Prop
  | step {i g σ σ'} (hg : σ.wants g = some true) (h : Vm.step σ i = some σ') : Op1 P E σ ⟨i, g⟩ σ'
  | skip {i g σ} (hg : σ.wants g = some false) : Op1 P E σ ⟨i, g⟩ (σ.skip i)
  | call {d f as rm g σ F v σc w σ₁} (hg : σ.wants g = some true) (hf : E.fn f = some F) (hm : F.pure = none) (h : FnSem P f (V.shifts 1 (σ.vals as)) (σ.ob :: σ.up) v σc)
      (hb : back false σ σc v rm = some (w, σ₁)) : Op1 P E σ ⟨.call d f as rm, g⟩ (σ₁.set d w)
  | callv {d x f caps as rm g σ F v σc w σ₁} (hg : σ.wants g = some true) (hx : σ.val x = .cl f caps) (hf : E.fnV f = some F) (hm : F.pure = none) (h : FnSem P (clF f) (V.shifts 1 (clA f (σ.vals as) caps)) (σ.ob :: σ.up) v σc)
      (hb : back false σ σc v rm = some (w, σ₁)) : Op1 P E σ ⟨.callv d x as rm, g⟩ (σ₁.set d w)
  | pcall {d f as rm g σ F ms ws ns v σc w σ₁} (hg : σ.wants g = some true) (hf : E.fn f = some F) (hm : F.pure = some ms) (hh : σ.hand (σ.vals as) ms = some (ws, ns)) (h : FnSem P f ws [] v σc)
      (hb : back true (σ.frz ns) σc v rm = some (w, σ₁)) : Op1 P E σ ⟨.call d f as rm, g⟩ (σ₁.set d w)
  | ext {d f as rm g σ X w σ₁} (hg : σ.wants g = some true) (hf : E.fn f = none) (hx : E.ext f = some X) (h : X σ (σ.vals as) rm = some (w, σ₁)) : Op1 P E σ ⟨.call d f as rm, g⟩ (σ₁.set d w)
inductive Ops1 (P : Program) (E : Env) : St → List G → St → Prop
  | nil {σ} : Ops1 P E σ [] σ
  | cons {σ σ₁ σ' i is} (h : Op1 P E σ i σ₁) (hr : Ops1 P E σ₁ is σ') : Ops1 P E σ (i :: is) σ'
/-! When an operation of the machine stands for one of Go. -/
def enters (P : Program) (f : Nat) : Bool := match P.funcs[f]? with
  | some fn => fn.name != "runtime.NumGoroutine" && fn.body.isSome
  | none => false
def okGd (ops : Array Oper) (g : Option (Nat × Bool)) (o : Oper) : Bool := match g, o.guard with
  | none, none => true
  | some (t, b), some (j, b') => b == b' && (match (ops[j]?).bind (·.dst) with | some d => decide (d = t) | none => false)
  | _, _ => false
def okCall (nt : Nat) (i : I) (o : Oper) : Bool :=
  match i, o.op with
  | .call d f as _, .call ⟨.value (.func h), ps, _⟩ => decide (o.dst = some d) && decide (d < nt) && decide (f = h) && okXs as ps.toList
  | .callv d x as _, .call ⟨.value p, ps, _⟩ => decide (o.dst = some d) && decide (d < nt) && okX x p && okXs as ps.toList
  | .bad, _ => o.guard.isNone
  | _, _ => false
def okG (P : Program) (nt : Nat) (ops : Array Oper) (i : G) (o : Oper) : Bool := okGd ops i.g o && (okI P nt i.i o || okCall nt i.i o)
section
variable {P : Program} {E : Env} {g : Gh} {σ : St} {tmps : Array Value} {rts : Roots} {w : World}
theorem wanted_of {ops : Array Oper} {gd : Option (Nat × Bool)} {o : Oper} {t : Bool} (hok : okGd ops gd o = true) (h : Rel g σ tmps rts w) (hw : σ.wants gd = some t) : Region.wanted o (yielded ops tmps) = t := by
  unfold okGd at hok
  split at hok
  · rename_i hg
    simp only [St.wants, Option.some.injEq] at hw
    subst hw
    simp [Region.wanted, hg]
  · rename_i s b j b' hg
    simp only [Bool.and_eq_true, beq_iff_eq] at hok
    obtain ⟨rfl, hd⟩ := hok
    split at hd
    · rename_i d hd'
      have := of_decide_eq_true hd
      subst this
      have hv := h.sl d
      simp only [St.wants] at hw
      have hy : yielded ops tmps j = match tmps[d]? with | some (.bool c) => some c | _ => none := by
        simp only [yielded, hd', Option.bind_some]
        cases tmps[d]? with
        | none => rfl
        | some v => cases v <;> rfl
      simp only [Region.wanted, hg, hy]
      split at hw
      · rename_i p c hc
        rw [hc] at hv
        have hb := hv.bool
        have ht : tmps[d]? = some (.bool c) := by
          rw [Array.getD_eq_getD_getElem?] at hb
          cases hx : tmps[d]? with
          | none => rw [hx] at hb; cases hb
          | some y => rw [hx] at hb; simp at hb; rw [hb]
        simp only [ht]
        cases b <;> cases c <;> simp at hw ⊢ <;> exact hw
      · rename_i hc
        rw [hc] at hv
        simp only [Option.some.injEq] at hw
        subst hw
        obtain ⟨vs, hb, hvs⟩ := hv
        simp only [VRs] at hvs
        subst hvs
        have ht : ∀ c, tmps[d]? ≠ some (.bool c) := fun c hx => by
          rw [Array.getD_eq_getD_getElem?, hx] at hb
          cases hb
        cases hx : tmps[d]? with
        | none => rfl
        | some v => cases v <;> first | rfl | exact absurd hx (ht _)
      · cases hw
    · cases hd
  · cases hok
/-- One operation's law, as the walk wants it. -/
def OpWp (P : Program) (ops : Array Oper) (Q : Exit → Act → World → Prop) (o : Oper) (K : Act → World → Prop) (a : Act) (w : World) : Prop :=
  if Region.wanted o (yielded ops a.tmps) then o.wp P a w K Q else K (a.put o.dst undef) w
theorem OpWp.plain {ops : Array Oper} {Q : Exit → Act → World → Prop} {o : Oper} {K : Act → World → Prop} {a : Act} {w : World} (h : OpWp P ops Q o K a w) :
    if Region.wanted o (yielded ops a.tmps) then o.wp P a w K Q ∨ (o.asks P a w ∧ LetsOut Q) else K (a.put o.dst undef) w := by
  unfold OpWp at h
  split
  · rename_i e; rw [e] at h; exact .inl h
  · rename_i e; rw [if_neg e] at h; exact h
theorem putT_put (tmps : Array Value) (ds : List Deferred) (d : Option Nat) (x : Value) : (⟨tmps, ds⟩ : Act).put d x = ⟨putT tmps d x, ds⟩ := by cases d <;> rfl
theorem putT_size (tmps : Array Value) (d : Option Nat) (x : Value) : (putT tmps d x).size = tmps.size := by cases d <;> simp [putT]
theorem okI.dst {nt : Nat} {i : I} {o : Oper} (h : okI P nt i o = true) : o.dst = i.dst ∧ ∀ d, i.dst = some d → d < nt := by
  unfold okI at h
  simp only [Bool.and_eq_true] at h
  obtain ⟨h, _⟩ := h
  split at h
  · rename_i d hd
    simp only [Bool.and_eq_true, decide_eq_true_eq] at h
    exact ⟨by rw [h.1, hd], fun d' hd' => by rw [hd] at hd'; cases hd'; exact h.2⟩
  · rename_i hd
    exact ⟨by rw [of_decide_eq_true h, hd], fun d' hd' => by rw [hd] at hd'; cases hd'⟩
theorem okCall.dst {nt : Nat} {i : I} {o : Oper} (hb : i ≠ .bad) (h : okCall nt i o = true) : o.dst = i.dst ∧ ∀ d, i.dst = some d → d < nt := by
  unfold okCall at h
  split at h
  · simp only [Bool.and_eq_true, decide_eq_true_eq] at h
    exact ⟨h.1.1.1, fun d hd => by cases hd; exact h.1.1.2⟩
  · simp only [Bool.and_eq_true, decide_eq_true_eq] at h
    exact ⟨h.1.1.1, fun d hd => by cases hd; exact h.1.1.2⟩
  · exact absurd rfl hb
  · cases h
/-- what is so behind an operation -/
def Next (g : Gh) (w : World) (rts : Roots) (nt n : Nat) (σ' : St) (ds : List Deferred) (a' : Act) (w' : World) : Prop :=
  ∃ g' tmps', a' = ⟨tmps', ds⟩ ∧ tmps'.size = nt ∧ Rel g' σ' tmps' rts w' ∧ Adv g w g' w' ∧ σ'.up.length = n
theorem skip_wp {nt : Nat} {i : G} {o : Oper} {ops : Array Oper} {Q : Exit → Act → World → Prop} {K : Act → World → Prop} {ds : List Deferred} (hok : okG P nt ops i o = true) (h : Rel g σ tmps rts w) (hnt : tmps.size = nt)
    (hw : σ.wants i.g = some false) (hK : ∀ a' w', Next g w rts nt σ.up.length (σ.skip i.i) ds a' w' → K a' w') : OpWp P ops Q o K ⟨tmps, ds⟩ w := by
  simp only [okG, Bool.and_eq_true, Bool.or_eq_true] at hok
  have hwt := wanted_of hok.1 h hw
  have hd : o.dst = i.i.dst ∧ ∀ d, i.i.dst = some d → d < nt := by
    rcases hok.2 with hok | hok
    · exact okI.dst hok
    · refine okCall.dst (fun hb => ?_) hok
      rw [hb] at hok
      have hg : o.guard = none := by simpa [okCall] using hok
      simp [Region.wanted, hg] at hwt
  unfold OpWp
  rw [hwt]
  simp only [Bool.false_eq_true, if_false]
  refine hK _ _ ⟨g, _, putT_put _ _ _ _, by rw [putT_size, hnt], ?_, Adv.refl g w, ?_⟩
  · rw [hd.1]
    unfold St.skip
    cases hi : i.i.dst with
    | none => exact h
    | some d => exact h.set (by rw [hnt]; exact hd.2 d hi) ⟨[], rfl, rfl⟩
  · unfold St.skip
    cases i.i.dst <;> rfl
theorem step_wp {nt : Nat} {i : G} {o : Oper} {ops : Array Oper} {Q : Exit → Act → World → Prop} {K : Act → World → Prop} {ds : List Deferred} {σ' : St} (hok : okG P nt ops i o = true) (h : Rel g σ tmps rts w) (hnt : tmps.size = nt)
    (hw : σ.wants i.g = some true) (hs : step σ i.i = some σ') (hK : ∀ a' w', Next g w rts nt σ.up.length σ' ds a' w' → K a' w') : OpWp P ops Q o K ⟨tmps, ds⟩ w := by
  simp only [okG, Bool.and_eq_true, Bool.or_eq_true] at hok
  have hwt := wanted_of hok.1 h hw
  unfold OpWp
  rw [hwt]
  simp only [if_true]
  rcases hok.2 with hok | hok
  · obtain ⟨g', w', x, hr, R, Ad, hup⟩ := step_sound hok h hnt hs
    unfold Oper.wp
    rw [Act.eval_T]
    rcases hr with hr | ⟨hr, rfl⟩
    · rw [hr, Oper.upon_value]
      exact hK _ _ ⟨g', _, putT_put _ _ _ _, by rw [putT_size, hnt], R, Ad, hup⟩
    · rw [hr, Oper.upon_skip]
      exact hK _ _ ⟨g', _, putT_put _ _ _ _, by rw [putT_size, hnt], R, Ad, hup⟩
  · unfold okCall at hok
    split at hok
    · rename_i hi _; rw [hi] at hs; cases hs
    · rename_i hi _; rw [hi] at hs; cases hs
    · rename_i hi; rw [hi] at hs; cases hs
    · cases hok
end
end Go.Proofs.YtcgjebaomhfbdaaGreat.Vm

/- Calls: in and out. -/
namespace Go.Proofs.YtcgjebaomhfbdaaGreat.Vm
open Go
/-- what carries a result out of a call -/
structure Out (pure : Bool) (Dc D : Nat) (g : Gh) (w : World) (O : Obs) (ns : List Nat) (g' : Gh) (O' : Obs) : Prop where
  ok : ∀ b, g.ok b → g'.ok b
  frz : ∀ n ∈ ns, ∀ b, g.own b = some (Dc - 1, n) → g'.ok b
  keep : pure = false → Dc = D + 1 ∧ Keep D (fun _ _ => False) g w O g' w O'
section
variable {P : Program} {E : Env} {g g' : Gh} {σ : St} {tmps : Array Value} {rts : Roots} {w : World} {O' : Obs} {pure : Bool} {D : Nat}
theorem Out.less {Dc : Nat} {O : Obs} {ns ms : List Nat} (h : Out pure Dc D g w O ns g' O') (hs : ∀ n ∈ ms, n ∈ ns) : Out pure Dc D g w O ms g' O' := ⟨h.ok, fun n hn => h.frz n (hs n hn), h.keep⟩
theorem dat1_sound : ∀ (v v' : V) (ns : List Nat) (x : Value), dat1 pure σ v = some (v', ns) → Out pure (σ.up.length + 1) D g w σ.O ns g' O' → VR g w σ.O (σ.up.length + 1) v x → VR g' w O' D v' x := by
  intro v v' ns x e K h
  have dcase : ∀ (p : Bool) (t : T), (if p = true ∨ pure = false then some (V.d p t, ([] : List Nat)) else none) = some (v', ns) → VR g w σ.O (σ.up.length + 1) (.d p t) x → VR g' w O' D v' x := by
    intro p t e h
    split at e
    · rename_i hp
      simp only [Option.some.injEq, Prod.mk.injEq] at e
      obtain ⟨rfl, rfl⟩ := e
      cases p with
      | true => exact Den.mono (fun _ _ => rfl) K.ok h
      | false =>
        have hp : pure = false := by simpa using hp
        exact DenT.keep (K.keep hp).2 h
    · cases e
  cases v with
  | d p t => exact dcase p t e h
  | dx p t =>
    refine dcase p t e ?_
    cases p <;> exact h.1
  | nil s =>
    simp only [dat1, Option.some.injEq, Prod.mk.injEq] at e
    obtain ⟨rfl, rfl⟩ := e
    obtain ⟨A, rfl⟩ := h
    exact ⟨A, 0, rfl, Nat.le_refl _, .inl rfl⟩
  | row l n lo len s =>
    cases l with
    | zero =>
      obtain ⟨hl, A, c, rfl, hr⟩ := h
      have e1 : σ.up.length + 1 - 1 - 0 = σ.up.length := by omega
      rw [e1] at hr
      have hO := St.O_obj σ 0 n (Nat.zero_le _)
      rw [Nat.sub_zero] at hO
      simp only [dat1] at e
      split at e
      · rename_i s' es gr hobj
        split at e
        · rename_i hfit
          simp only [Option.some.injEq, Prod.mk.injEq] at e
          obtain ⟨rfl, rfl⟩ := e
          simp only [RowV, hO.trans hobj] at hr
          obtain ⟨rfl, _, hc, hr⟩ := hr
          have hsl : (slice lo len es).length = len := slice_length hfit
          refine VR.ofRows hsl hc ?_
          rcases hr with hr | ⟨b, o, hA, hown, hd, _⟩
          · exact .inl (List.eq_nil_of_length_eq_zero (by omega))
          · exact .inr ⟨b, o, hA, .inl (K.frz n (by simp) b hown), DenR.mono (fun _ _ => rfl) K.ok b _ rfl o _ hd⟩
        · cases e
      · rename_i s' es hobj
        split at e
        · rename_i hfit
          simp only [Option.some.injEq, Prod.mk.injEq] at e
          obtain ⟨rfl, rfl⟩ := e
          simp only [RowV, hO.trans hobj] at hr
          obtain ⟨rfl, _, hc, hr⟩ := hr
          have hsl : (slice lo len es).length = len := slice_length hfit
          refine VR.ofRows hsl hc ?_
          rcases hr with hr | ⟨b, o, hA, hok, hd⟩
          · exact .inl (List.eq_nil_of_length_eq_zero (by omega))
          · exact .inr ⟨b, o, hA, .inl (K.ok b hok), DenR.mono (fun _ _ => rfl) K.ok b _ rfl o _ hd⟩
        · cases e
      · cases e
    | succ l =>
      simp only [dat1] at e
      cases hp : pure with
      | true => rw [hp] at e; cases e
      | false =>
        rw [hp] at e
        simp only [Bool.false_eq_true, if_false, Option.some.injEq, Prod.mk.injEq] at e
        obtain ⟨rfl, rfl⟩ := e
        obtain ⟨hD, Kp⟩ := K.keep hp
        obtain ⟨hl, A, c, rfl, hr⟩ := h
        have e1 : σ.up.length + 1 - 1 - (l + 1) = D - 1 - l := by omega
        rw [e1] at hr
        exact ⟨by omega, A, c, rfl, Kp.row _ _ _ _ _ _ _ (by omega) (fun h => h) hr⟩
  | ptr l n off =>
    cases l with
    | zero => simp [dat1] at e
    | succ l =>
      simp only [dat1] at e
      cases hp : pure with
      | true => rw [hp] at e; cases e
      | false =>
        rw [hp] at e
        simp only [Bool.false_eq_true, if_false, Option.some.injEq, Prod.mk.injEq] at e
        obtain ⟨rfl, rfl⟩ := e
        obtain ⟨hD, Kp⟩ := K.keep hp
        obtain ⟨hl, hr⟩ := h
        have e1 : σ.up.length + 1 - 1 - (l + 1) = D - 1 - l := by omega
        rw [e1] at hr
        exact ⟨by omega, Kp.ptr _ _ _ _ (by omega) (fun h => h) hr⟩
  | cl f cs =>
    cases cs with
    | nil =>
      simp only [dat1, Option.some.injEq, Prod.mk.injEq] at e
      obtain ⟨rfl, rfl⟩ := e
      obtain ⟨vs, rfl, hv⟩ := h
      simp only [VRs] at hv
      exact ⟨vs, rfl, hv⟩
    | cons c cs => simp [dat1] at e
  | u =>
    simp only [dat1, Option.some.injEq, Prod.mk.injEq] at e
    obtain ⟨rfl, rfl⟩ := e
    trivial
  | rel l n i off => simp [dat1] at e
  | pd t => simp [dat1] at e
  | ag cs => simp [dat1] at e
  | tp cs => simp [dat1] at e
theorem dats1_sound : ∀ (vs vs' : List V) (ns : List Nat) (xs : List Value), dats1 pure σ vs = some (vs', ns) → Out pure (σ.up.length + 1) D g w σ.O ns g' O' → VRs g w σ.O (σ.up.length + 1) vs xs → VRs g' w O' D vs' xs
  | [], vs', ns, xs, e, K, h => by
    simp only [dats1, Option.some.injEq, Prod.mk.injEq] at e
    obtain ⟨rfl, rfl⟩ := e
    exact h
  | v :: vs, vs', ns, _, e, K, h => by
    obtain ⟨x, xs, rfl, h1, h2⟩ := h
    simp only [dats1] at e
    split at e
    · rename_i v1 n1 vs1 n2 e1 e2
      simp only [Option.some.injEq, Prod.mk.injEq] at e
      obtain ⟨rfl, rfl⟩ := e
      exact ⟨x, xs, rfl, dat1_sound v v1 n1 x e1 (K.less (fun n hn => by simp [hn])) h1, dats1_sound vs vs1 n2 xs e2 (K.less (fun n hn => by simp [hn])) h2⟩
    · cases e
theorem dat2_sound (v v' : V) (ns : List Nat) (x : Value) (e : dat2 pure σ v = some (v', ns)) (K : Out pure (σ.up.length + 1) D g w σ.O ns g' O') (h : VR g w σ.O (σ.up.length + 1) v x) : VR g' w O' D v' x := by
  cases v with
  | ag cs =>
    simp only [dat2] at e
    obtain ⟨⟨vs, ms⟩, e1, e2⟩ := map_some e
    simp only [Prod.mk.injEq] at e2
    obtain ⟨rfl, rfl⟩ := e2
    obtain ⟨xs, rfl, hx, h1⟩ := h
    exact ⟨xs, rfl, dats1_sound cs vs ms xs e1 K hx, h1⟩
  | _ => simp only [dat2] at e; exact dat1_sound _ _ _ _ e K h
theorem dats2_sound : ∀ (vs vs' : List V) (ns : List Nat) (xs : List Value), dats2 pure σ vs = some (vs', ns) → Out pure (σ.up.length + 1) D g w σ.O ns g' O' → VRs g w σ.O (σ.up.length + 1) vs xs → VRs g' w O' D vs' xs
  | [], vs', ns, xs, e, K, h => by
    simp only [dats2, Option.some.injEq, Prod.mk.injEq] at e
    obtain ⟨rfl, rfl⟩ := e
    exact h
  | v :: vs, vs', ns, _, e, K, h => by
    obtain ⟨x, xs, rfl, h1, h2⟩ := h
    simp only [dats2] at e
    split at e
    · rename_i v1 n1 vs1 n2 e1 e2
      simp only [Option.some.injEq, Prod.mk.injEq] at e
      obtain ⟨rfl, rfl⟩ := e
      exact ⟨x, xs, rfl, dat2_sound v v1 n1 x e1 (K.less (fun n hn => by simp [hn])) h1, dats2_sound vs vs1 n2 xs e2 (K.less (fun n hn => by simp [hn])) h2⟩
    · cases e
theorem dat_sound (v v' : V) (ns : List Nat) (x : Value) (e : dat pure σ v = some (v', ns)) (K : Out pure (σ.up.length + 1) D g w σ.O ns g' O') (h : VR g w σ.O (σ.up.length + 1) v x) : VR g' w O' D v' x := by
  cases v with
  | tp cs =>
    simp only [dat] at e
    obtain ⟨⟨vs, ms⟩, e1, e2⟩ := map_some e
    simp only [Prod.mk.injEq] at e2
    obtain ⟨rfl, rfl⟩ := e2
    obtain ⟨xs, rfl, hx⟩ := h
    exact ⟨xs, rfl, dats2_sound cs vs ms xs e1 K hx⟩
  | _ => simp only [dat] at e; exact dat2_sound _ _ _ _ e K h
/-! The names that a result freezes are rows of the callee's own. -/
theorem dat1_names : ∀ (v v' : V) (ns : List Nat), dat1 pure σ v = some (v', ns) → ∀ n ∈ ns, ∃ s es gr, σ.obj 0 n = some (.rw s es gr) := by
  intro v v' ns e n hn
  cases v with
  | row l m lo len s =>
    cases l with
    | zero =>
      simp only [dat1] at e
      split at e
      · rename_i s' es gr hobj
        split at e
        · simp only [Option.some.injEq, Prod.mk.injEq] at e
          obtain ⟨_, rfl⟩ := e
          simp at hn; subst hn
          exact ⟨s', es, gr, hobj⟩
        · cases e
      · split at e
        · simp only [Option.some.injEq, Prod.mk.injEq] at e
          obtain ⟨_, rfl⟩ := e
          simp at hn
        · cases e
      · cases e
    | succ l =>
      simp only [dat1] at e
      split at e
      · cases e
      · simp only [Option.some.injEq, Prod.mk.injEq] at e; obtain ⟨_, rfl⟩ := e; simp at hn
  | ptr l m off =>
    cases l with
    | zero => simp [dat1] at e
    | succ l =>
      simp only [dat1] at e
      split at e
      · cases e
      · simp only [Option.some.injEq, Prod.mk.injEq] at e; obtain ⟨_, rfl⟩ := e; simp at hn
  | d p t =>
    simp only [dat1] at e
    split at e
    · simp only [Option.some.injEq, Prod.mk.injEq] at e; obtain ⟨_, rfl⟩ := e; simp at hn
    · cases e
  | dx p t =>
    simp only [dat1] at e
    split at e
    · simp only [Option.some.injEq, Prod.mk.injEq] at e; obtain ⟨_, rfl⟩ := e; simp at hn
    · cases e
  | nil s => simp only [dat1, Option.some.injEq, Prod.mk.injEq] at e; obtain ⟨_, rfl⟩ := e; simp at hn
  | cl f cs =>
    cases cs with
    | nil => simp only [dat1, Option.some.injEq, Prod.mk.injEq] at e; obtain ⟨_, rfl⟩ := e; simp at hn
    | cons c cs => simp [dat1] at e
  | u => simp only [dat1, Option.some.injEq, Prod.mk.injEq] at e; obtain ⟨_, rfl⟩ := e; simp at hn
  | rel l m i off => simp [dat1] at e
  | pd t => simp [dat1] at e
  | ag cs => simp [dat1] at e
  | tp cs => simp [dat1] at e
theorem dats1_names : ∀ (vs vs' : List V) (ns : List Nat), dats1 pure σ vs = some (vs', ns) → ∀ n ∈ ns, ∃ s es gr, σ.obj 0 n = some (.rw s es gr)
  | [], vs', ns, e => by
    simp only [dats1, Option.some.injEq, Prod.mk.injEq] at e
    obtain ⟨_, rfl⟩ := e
    simp
  | v :: vs, vs', ns, e => by
    simp only [dats1] at e
    split at e
    · rename_i v1 n1 vs1 n2 e1 e2
      simp only [Option.some.injEq, Prod.mk.injEq] at e
      obtain ⟨_, rfl⟩ := e
      intro n hn
      rcases List.mem_append.1 hn with hn | hn
      · exact dat1_names v v1 n1 e1 n hn
      · exact dats1_names vs vs1 n2 e2 n hn
    · cases e
theorem dat2_names (v v' : V) (ns : List Nat) (e : dat2 pure σ v = some (v', ns)) : ∀ n ∈ ns, ∃ s es gr, σ.obj 0 n = some (.rw s es gr) := by
  cases v with
  | ag cs =>
    simp only [dat2] at e
    obtain ⟨⟨vs, ms⟩, e1, e2⟩ := map_some e
    simp only [Prod.mk.injEq] at e2
    obtain ⟨_, rfl⟩ := e2
    exact dats1_names cs vs ms e1
  | _ => simp only [dat2] at e; exact dat1_names _ _ _ e
theorem dats2_names : ∀ (vs vs' : List V) (ns : List Nat), dats2 pure σ vs = some (vs', ns) → ∀ n ∈ ns, ∃ s es gr, σ.obj 0 n = some (.rw s es gr)
  | [], vs', ns, e => by
    simp only [dats2, Option.some.injEq, Prod.mk.injEq] at e
    obtain ⟨_, rfl⟩ := e
    simp
  | v :: vs, vs', ns, e => by
    simp only [dats2] at e
    split at e
    · rename_i v1 n1 vs1 n2 e1 e2
      simp only [Option.some.injEq, Prod.mk.injEq] at e
      obtain ⟨_, rfl⟩ := e
      intro n hn
      rcases List.mem_append.1 hn with hn | hn
      · exact dat2_names v v1 n1 e1 n hn
      · exact dats2_names vs vs1 n2 e2 n hn
    · cases e
theorem dat_names (v v' : V) (ns : List Nat) (e : dat pure σ v = some (v', ns)) : ∀ n ∈ ns, ∃ s es gr, σ.obj 0 n = some (.rw s es gr) := by
  cases v with
  | tp cs =>
    simp only [dat] at e
    obtain ⟨⟨vs, ms⟩, e1, e2⟩ := map_some e
    simp only [Prod.mk.injEq] at e2
    obtain ⟨_, rfl⟩ := e2
    exact dats2_names cs vs ms e1
  | _ => simp only [dat] at e; exact dat2_names _ _ _ e
end
end Go.Proofs.YtcgjebaomhfbdaaGreat.Vm

/- Calls that see their caller's objects. -/
namespace Go.Proofs.YtcgjebaomhfbdaaGreat.Vm
open Go
def slotRoots (σ : St) (tmps : Array Value) : Roots := (List.range σ.sl.length).map fun i => (σ.up.length + 1, σ.get i, tmps.getD i undef)
theorem gt_far {α : Type} (d : α) : ∀ (l : List α) (i : Nat), l.length ≤ i → gt d l i = d
  | [], _, _ => rfl
  | a :: l, 0, h => by simp at h
  | a :: l, i + 1, h => gt_far d l i (by simpa using h)
theorem gt_get {α : Type} (d : α) : ∀ (l : List α) (i : Nat), gt d l i = l[i]?.getD d
  | [], i => by simp [gt]
  | a :: l, 0 => by simp [gt]
  | a :: l, i + 1 => by simp [gt, gt_get d l i]
section
variable {P : Program} {E : Env} {g g' : Gh} {σ : St} {tmps : Array Value} {rts : Roots} {w : World}
theorem St.O_enter (σ : St) (as : List V) : (⟨as, [], σ.ob :: σ.up⟩ : St).O = σ.O := by
  funext a n
  simp only [St.O, List.length_cons]
  by_cases ha : a < σ.up.length + 1
  · rw [if_pos (by omega), if_pos ha]
    have e : σ.up.length + 1 - a = (σ.up.length - a) + 1 := by omega
    rw [e]
    cases h : σ.up.length - a with
    | zero => rfl
    | succ k => rfl
  · rw [if_neg ha]
    by_cases hb : a < σ.up.length + 1 + 1
    · rw [if_pos hb]
      have e : σ.up.length + 1 - a = 0 := by omega
      rw [e]; rfl
    · rw [if_neg hb]
theorem VRs.at {O : Obs} {D : Nat} : ∀ (vs : List V) (xs : List Value) (i : Nat), VRs g w O D vs xs → VR g w O D (gt .u vs i) (xs.getD i undef)
  | [], _, _, _ => trivial
  | v :: vs, _, 0, h => by obtain ⟨x, xs, rfl, h1, _⟩ := h; simpa [gt] using h1
  | v :: vs, _, i + 1, h => by obtain ⟨x, xs, rfl, _, h2⟩ := h; simpa [gt] using VRs.at vs xs i h2
theorem V.shifts_length (k : Nat) : ∀ vs : List V, (V.shifts k vs).length = vs.length
  | [] => rfl
  | v :: vs => by simp [V.shifts, V.shifts_length k vs]
theorem Rel.enter (h : Rel g σ tmps rts w) {vs : List V} {args : Array Value} (hv : VRs g w σ.O (σ.up.length + 1) vs args.toList) :
    Rel g ⟨V.shifts 1 vs, [], σ.ob :: σ.up⟩ args (slotRoots σ tmps ++ rts) w := by
  have hO := St.O_enter σ (V.shifts 1 vs)
  refine ⟨fun i => ?_, fun a n o ha ho => ?_, fun r hr => ?_, fun b a n hb => ?_, h.okb, h.base⟩
  · rw [hO]
    have := VRs.at _ _ i (VRs.shift (k := 1) (D := σ.up.length + 1 + 1) (by omega) vs args.toList hv)
    simpa [St.get, List.length_cons] using this
  · rw [hO] at ho ⊢
    have ha' : a < σ.up.length + 1 := by
      rcases Nat.lt_or_ge a (σ.up.length + 1) with h | h
      · exact h
      · simp only [St.O] at ho; rw [if_neg (by omega)] at ho; cases ho
    exact h.ob a n o ha' ho
  · rw [hO]
    rcases List.mem_append.1 hr with hr | hr
    · simp only [slotRoots, List.mem_map] at hr
      obtain ⟨i, _, rfl⟩ := hr
      exact ⟨by simp, h.sl i⟩
    · have := h.rt r hr
      exact ⟨by simp; omega, this.2⟩
  · have := h.own b a n hb
    exact ⟨this.1, this.2.1, this.2.2.1, by simp; omega⟩
/-- what the caller keeps of the ghost -/
def Gh.low (g : Gh) (D : Nat) : Gh := { g with own := fun b => match g.own b with | some (a, n) => if a < D then some (a, n) else none | none => none }
theorem Gh.low_some {D b a n : Nat} (h : (g.low D).own b = some (a, n)) : g.own b = some (a, n) ∧ a < D := by
  simp only [Gh.low] at h
  split at h
  · rename_i a' n' ho
    split at h
    · rename_i hlt; cases h; exact ⟨ho, hlt⟩
    · cases h
  · cases h
theorem Gh.low_of {D b a n : Nat} (h : g.own b = some (a, n)) (ha : a < D) : (g.low D).own b = some (a, n) := by
  simp only [Gh.low, h, if_pos ha]
theorem Keep.low {D : Nat} {O O' : Obs} (hO : ∀ a n, a < D → O' a n = O a n) : Keep D (fun _ _ => False) g w O (g.low D) w O' := by
  refine ⟨rfl, fun _ h => h, fun _ _ => rfl, fun a n lo len s A c ha _ hv => ?_, fun a n i off v ha _ hv => ?_, fun a n off v ha _ hv => ?_⟩
  · unfold RowV at hv ⊢
    rw [hO a n ha]
    split at hv
    · obtain ⟨h1, h2, h3, h4⟩ := hv
      exact ⟨h1, h2, h3, h4.imp id fun ⟨b, o, hA, ho, hd, hx⟩ => ⟨b, o, hA, Gh.low_of ho ha, hd, hx⟩⟩
    · exact hv
    · exact hv
    · exact hv
    · exact hv
  · unfold RelV at hv ⊢
    rw [hO a n ha]
    split at hv
    · obtain ⟨b, o, e, vs, hv, ho, he, hl, hc, hd, hg⟩ := hv
      exact ⟨b, o, e, vs, hv, Gh.low_of ho ha, he, hl, hc, hd, hg⟩
    · exact hv
    · exact hv
    · exact hv
  · unfold PtrV at hv ⊢
    rw [hO a n ha]; exact hv
theorem leave_O {σc σl : St} {pure : Bool} (e : leave pure σ σc = some σl) (hp : pure = false) (hup : σc.up.length = σ.up.length + 1) :
    σl.up.length = σ.up.length ∧ σl.sl = σ.sl ∧ ∀ a n, a < σ.up.length + 1 → σl.O a n = σc.O a n := by
  subst hp
  unfold leave at e
  simp only [Bool.false_eq_true, if_false] at e
  split at e
  · rename_i ob up hu
    cases e
    have hl : up.length = σ.up.length := by rw [hu] at hup; simpa using hup
    refine ⟨hl, rfl, fun a n ha => ?_⟩
    simp only [St.O, hl]
    rw [if_pos ha, if_pos (by omega), hup]
    have e : σ.up.length + 1 - a = (σ.up.length - a) + 1 := by omega
    rw [e]
    simp only [St.obj, hu]
    cases σ.up.length - a with
    | zero => rfl
    | succ k => rfl
  · cases e
theorem Rel.leave {σc σl : St} {tmps' : Array Value} (h : Rel g σc tmps' (slotRoots σ tmps ++ rts) w) (e : leave false σ σc = some σl) (hup : σc.up.length = σ.up.length + 1)
    (hr : ∀ r ∈ rts, r.1 ≤ σ.up.length) : Rel (g.low (σ.up.length + 1)) σl tmps rts w ∧ Keep (σ.up.length + 1) (fun _ _ => False) g w σc.O (g.low (σ.up.length + 1)) w σl.O ∧ σl.up.length = σ.up.length := by
  obtain ⟨hl, hsl, hO⟩ := leave_O e rfl hup
  have K : Keep (σ.up.length + 1) (fun _ _ => False) g w σc.O (g.low (σ.up.length + 1)) w σl.O := Keep.low hO
  refine ⟨⟨fun i => ?_, fun a n o ha ho => ?_, fun r hrr => ?_, fun b a n hb => ?_, h.okb, h.base⟩, K, hl⟩
  · rw [hl]
    have hg : σl.get i = σ.get i := by simp [St.get, hsl]
    rw [hg]
    by_cases hi : i < σ.sl.length
    · have := (h.rt (σ.up.length + 1, σ.get i, tmps.getD i undef) (List.mem_append_left _ (List.mem_map.2 ⟨i, List.mem_range.2 hi, rfl⟩))).2
      exact VR.keep' K (Nat.le_refl _) this
    · have : σ.get i = .u := gt_far _ _ _ (by omega)
      rw [this]; trivial
  · rw [hl] at ha
    rw [hO a n ha] at ho
    have hold := h.ob a n o (by omega) ho
    cases o with
    | box cs =>
      obtain ⟨h1, vs, rest, el, h2, h3, h4⟩ := hold
      exact ⟨Gh.low_of h1 ha, vs, rest, el, h2, VRs.keep' K (by omega) h3, h4⟩
    | rw s es gr =>
      rcases hold with hold | ⟨h1, h2, cs, el, h3, h4, h5⟩
      · exact .inl hold
      · exact .inr ⟨Gh.low_of h1 ha, h2, cs, el, h3, h4, h5⟩
    | fz s es => trivial
    | gone => trivial
  · rw [hl]
    have := h.rt r (List.mem_append_right _ hrr)
    have hr1 := hr r hrr
    exact ⟨hr1, VR.keep' K (by omega) this.2⟩
  · obtain ⟨ho, ha⟩ := Gh.low_some hb
    have := h.own b a n ho
    exact ⟨this.1, this.2.1, this.2.2.1, by omega⟩
theorem Adv.low {w' : World} {D : Nat} (h : Adv g w g' w') : Adv g w (g'.low D) w' where
  base := h.base
  ok := h.ok
  okNew := h.okNew
  ownNew := fun b hb => h.ownNew b (by
    cases ho : (g'.low D).own b with
    | none => exact absurd ho hb
    | some x => rw [(Gh.low_some ho).1]; simp)
  heap := h.heap
  size := h.size
  os := h.os
  tape := h.tape
  output := h.output
theorem Keep.trans {D : Nat} {g1 g2 g3 : Gh} {w1 w2 w3 : World} {O1 O2 O3 : Obs} (k1 : Keep D (fun _ _ => False) g1 w1 O1 g2 w2 O2) (k2 : Keep D (fun _ _ => False) g2 w2 O2 g3 w3 O3) : Keep D (fun _ _ => False) g1 w1 O1 g3 w3 O3 where
  base := k2.base.trans k1.base
  ok := fun b hb => k2.ok b (k1.ok b hb)
  heap := fun b hb => by
    rw [k2.heap b ?_, k1.heap b hb]
    rcases hb with hb | hb
    · exact .inl (k1.ok b hb)
    · exact .inr (k1.base ▸ hb)
  row := fun a m lo len s A c ha hx hv => k2.row _ _ _ _ _ _ _ ha hx (k1.row _ _ _ _ _ _ _ ha hx hv)
  rel := fun a m i off v ha hx hv => k2.rel _ _ _ _ _ ha hx (k1.rel _ _ _ _ _ ha hx hv)
  ptr := fun a m off v ha hx hv => k2.ptr _ _ _ _ ha hx (k1.ptr _ _ _ _ ha hx hv)
theorem Keep.less {D D' : Nat} {bad : Nat → Nat → Prop} {w' : World} {O O' : Obs} (h : Keep D bad g w O g' w' O') (hd : D' ≤ D) : Keep D' bad g w O g' w' O' :=
  ⟨h.base, h.ok, h.heap, fun a m lo len s A c ha => h.row a m lo len s A c (by omega), fun a m i off v ha => h.rel a m i off v (by omega), fun a m off v ha => h.ptr a m off v (by omega)⟩
/-- Behind a call: the caller's state, and the result. -/
theorem Left.back {w' : World} {v v' : V} {σc σ₁ : St} {r : Value} (hrt : ∀ q ∈ rts, q.1 ≤ σ.up.length) (h : Left g (slotRoots σ tmps ++ rts) w (σ.ob :: σ.up) v σc r w') (hb : Vm.back false σ σc v none = some (v', σ₁)) :
    ∃ g', Rel g' σ₁ tmps rts w' ∧ VR g' w' σ₁.O (σ₁.up.length + 1) v' r ∧ Adv g w g' w' ∧ σ₁.up.length = σ.up.length := by
  obtain ⟨g1, tmps', R, hv, Ad, hup⟩ := h
  simp only [List.length_cons] at hup
  unfold Vm.back at hb
  split at hb
  · rename_i σl hl heq
    obtain ⟨⟨v2, ns⟩, hd, he⟩ := map_some hb
    simp only [Prod.mk.injEq] at he
    obtain ⟨rfl, rfl⟩ := he
    obtain ⟨g2, R2, K2, A2, H, _, _⟩ := R.frzs ns
    have hup2 : (σc.frz ns).up = σc.up := St.up_frz σc ns
    have hl2 : leave false σ (σc.frz ns) = some σl := by
      unfold leave at hl ⊢
      rw [hup2]; exact hl
    obtain ⟨R3, K3, hl3⟩ := Rel.leave R2 hl2 (by rw [hup2]; exact hup) hrt
    refine ⟨_, R3, ?_, (Ad.trans A2).low, hl3⟩
    rw [hl3]
    refine dat_sound (pure := false) (D := σ.up.length + 1) v v2 ns r hd ⟨A2.ok, fun n hn b hb => ?_, fun _ => ⟨by rw [hup], (K2.less (by omega)).trans K3⟩⟩ hv
    obtain ⟨s, es, gr, hobj⟩ := dat_names v v2 ns hd n hn
    exact H n hn s es gr hobj b (by simpa using hb)
  · rename_i heq; cases heq
  · cases hb
/-! The operation. -/
theorem CallSem.of (f : Nat) {args : Array Value} {R : Value → World → Prop} (he : enters P f = true) (h : Calls P f args w fun e w' => ∃ r, e = .returned r ∧ R r w') : CallSem P f args w R := by
  refine .inl ⟨?_, h⟩
  unfold enters at he
  split at he
  · rename_i fn hf
    simp only [Bool.and_eq_true, bne_iff_ne, ne_eq] at he
    unfold callFunc
    have h2 : fn.body ≠ none := fun hb => by rw [hb] at he; cases he.2
    simp [hf, he.1, h2]
  · cases he
theorem CallSem.mono {f : Nat} {args : Array Value} {R R' : Value → World → Prop} (h : CallSem P f args w R) (hR : ∀ r w', R r w' → R' r w') : CallSem P f args w R' := by
  rcases h with ⟨h1, h2⟩ | ⟨r, w', h1, h2⟩
  · exact .inl ⟨h1, h2.mono fun e w' ⟨r, he, hr⟩ => ⟨r, he, hR r w' hr⟩⟩
  · exact .inr ⟨r, w', h1, hR r w' h2⟩
theorem CallSem.wp {ops : Array Oper} {Q : Exit → Act → World → Prop} {o : Oper} {K : Act → World → Prop} {a : Act} {f : Nat} {args : Array Value} {R : Value → World → Prop}
    (h : CallSem P f args w R) (hw : Region.wanted o (yielded ops a.tmps) = true) (he : (execOp a.eval o).run P w = (callFunc f args).run P w) (hK : ∀ r w', R r w' → K (a.put o.dst r) w') : OpWp P ops Q o K a w := by
  unfold OpWp
  rw [hw]
  simp only [if_true]
  unfold Oper.wp
  rw [he]
  rcases h with ⟨h1, h2⟩ | ⟨r, w', h1, h2⟩
  · rw [h1, Oper.upon_enter]
    refine h2.mono fun e w' ⟨r, he, hr⟩ => ?_
    subst he
    exact hK r w' hr
  · rw [h1, Oper.upon_value]
    exact hK r w' h2
theorem run_func {o : Oper} {h : Nat} {ps : Array Operand} {ts : Array TypeId} (hop : o.op = .call ⟨.value (.func h), ps, ts⟩) :
    (execOp (evalT tmps) o).run P w = (callFunc h (ps.map (evalT tmps))).run P w := by
  unfold execOp
  simp only [hop]
  have : evalT tmps (.func h) = .func (.func h) #[] #[] := rfl
  simp [resolve, this, Deferred.ofValue, invoke]
theorem run_valueB {o : Oper} {f : Nat} {p : Operand} {ps : Array Operand} {ts : Array TypeId} {caps : List Value} (hop : o.op = .call ⟨.value p, ps, ts⟩) (hp : evalT tmps p = clV f caps) (hn : Nat.ble nilF f = false) :
    (execOp (evalT tmps) o).run P w = (callFunc (clF f) (clA f (ps.map (evalT tmps)).toList caps).toArray).run P w := by
  have ea : caps.toArray ++ ps.map (evalT tmps) = (caps ++ (ps.map (evalT tmps)).toList).toArray := by apply Array.ext'; simp
  have eb : ps.map (evalT tmps) ++ caps.toArray = ((ps.map (evalT tmps)).toList ++ caps).toArray := by apply Array.ext'; simp
  unfold clV at hp
  rw [hn] at hp
  simp only at hp
  cases hb : Nat.ble bndF f with
  | true =>
    have e1 : clF f = f - bndF := by unfold clF; rw [hb]
    have e2 : clA f (ps.map (evalT tmps)).toList caps = caps ++ (ps.map (evalT tmps)).toList := by unfold clA; rw [hb]
    rw [hb] at hp
    simp only at hp
    rw [e1, e2]
    unfold execOp
    simp only [hop]
    rw [← ea]
    simp [resolve, hp, Deferred.ofValue, invoke]
  | false =>
    have e1 : clF f = f := by unfold clF; rw [hb]
    have e2 : clA f (ps.map (evalT tmps)).toList caps = (ps.map (evalT tmps)).toList ++ caps := by unfold clA; rw [hb]
    rw [hb] at hp
    simp only at hp
    rw [e1, e2]
    unfold execOp
    simp only [hop]
    rw [← eb]
    simp [resolve, hp, Deferred.ofValue, invoke]
theorem run_value {o : Oper} {f : Nat} {p : Operand} {ps : Array Operand} {ts : Array TypeId} {caps : List Value} (hop : o.op = .call ⟨.value p, ps, ts⟩) (hp : evalT tmps p = .func (.func f) #[] caps.toArray) :
    (execOp (evalT tmps) o).run P w = (callFunc f (ps.map (evalT tmps) ++ caps.toArray)).run P w := by
  unfold execOp
  simp only [hop]
  simp [resolve, hp, Deferred.ofValue, invoke]
end
end Go.Proofs.YtcgjebaomhfbdaaGreat.Vm

/- Calls that see nothing but their arguments. -/
namespace Go.Proofs.YtcgjebaomhfbdaaGreat.Vm
open Go
section
variable {P : Program} {E : Env} {g g' : Gh} {σ : St} {tmps : Array Value} {rts : Roots} {w : World}
/-- the ghost of such a call -/
def Gh.call (g : Gh) (w : World) : Gh := { own := fun _ => none, loc := fun _ _ => (0, 0, 0), ok := g.ok, base := w.heap.size }
theorem lend_rows {D : Nat} {O : Obs} (ho : ∀ b, g.ok b → g'.ok b) {s n c : Nat} {es : List T} {A : Option Addr} (hn : es.length = n) (hc : n ≤ c)
    (h : es = [] ∨ ∃ b o, A = some ⟨b, o, none⟩ ∧ b < w.heap.size ∧ DenR w g.ok b s o es) : VR (g'.call w) w O D (.d false (.lst s es)) (.slice A n c) :=
  VR.ofRows (p := false) hn hc (h.imp id fun ⟨b, o, hA, hb, hr⟩ => ⟨b, o, hA, .inr ⟨rfl, hb⟩, DenR.mono (fun _ _ => rfl) ho b s rfl o es hr⟩)
theorem lend1_sound {O : Obs} {D : Nat} (R : Rel g σ tmps rts w) (ho : ∀ b, g.ok b → g'.ok b) {v v' : V} {x : Value} (e : σ.lend1 v = some v') (h : VR g w σ.O (σ.up.length + 1) v x) : VR (g'.call w) w O D v' x := by
  have dat : ∀ (p : Bool) (s : Nat) (es : List T), VR g w σ.O (σ.up.length + 1) (.d p (.lst s es)) x → VR (g'.call w) w O D (.d false (.lst s es)) x := by
    intro p s es h
    obtain ⟨A, c, rfl, hc, hd⟩ := VR.rows h
    refine lend_rows ho rfl hc (hd.imp id fun ⟨b, o, hA, hb, hr⟩ => ⟨b, o, hA, ?_, hr⟩)
    rcases hb with hb | hb
    · exact R.okb b hb
    · exact Nat.lt_of_lt_of_le hb.2 R.base
  unfold St.lend1 at e
  split at e
  · rename_i p s es
    cases e
    exact dat p s es h
  · rename_i p s es
    cases e
    refine dat p s es ?_
    cases p <;> exact h.1
  · cases e
    have := h.int
    subst this
    exact VR.dInt _ _
  · cases e
    have := h.bool
    subst this
    exact VR.dBool _
  · cases e
    obtain ⟨A, rfl⟩ := h
    exact lend_rows ho rfl (Nat.le_refl _) (.inl rfl)
  · rename_i l n lo len s
    obtain ⟨es, he, rfl⟩ := map_some e
    obtain ⟨hl, A, c, rfl, hr⟩ := h
    have e1 : σ.up.length + 1 - 1 - l = σ.up.length - l := by omega
    rw [e1] at hr
    have hO := St.O_obj σ l n (by omega)
    unfold St.rowOf at he
    split at he
    · rename_i s' es' gr hobj
      split at he
      · rename_i hfit
        cases he
        simp only [RowV, hO.trans hobj] at hr
        obtain ⟨rfl, _, hc, hr⟩ := hr
        refine lend_rows ho (slice_length hfit) hc ?_
        rcases hr with hr | ⟨b, o, hA, hown, hd, _⟩
        · exact .inl (List.eq_nil_of_length_eq_zero (by rw [slice_length hfit]; omega))
        · exact .inr ⟨b, o, hA, (R.own _ _ _ hown).1, hd⟩
      · cases he
    · rename_i s' es' hobj
      split at he
      · rename_i hfit
        cases he
        simp only [RowV, hO.trans hobj] at hr
        obtain ⟨rfl, _, hc, hr⟩ := hr
        refine lend_rows ho (slice_length hfit) hc ?_
        rcases hr with hr | ⟨b, o, hA, hok, hd⟩
        · exact .inl (List.eq_nil_of_length_eq_zero (by rw [slice_length hfit]; omega))
        · exact .inr ⟨b, o, hA, R.okb b hok, hd⟩
      · cases he
    · cases he
  · cases e
    obtain ⟨vs, rfl, hv⟩ := h
    simp only [VRs] at hv
    exact ⟨vs, rfl, hv⟩
  · cases e
theorem lends_sound {O : Obs} {D : Nat} (R : Rel g σ tmps rts w) (ho : ∀ b, g.ok b → g'.ok b) : ∀ (vs vs' : List V) (xs : List Value), σ.lends vs = some vs' → VRs g w σ.O (σ.up.length + 1) vs xs → VRs (g'.call w) w O D vs' xs
  | [], vs', xs, e, h => by
    simp only [St.lends, Option.some.injEq] at e; subst e
    exact h
  | v :: vs, vs', _, e, h => by
    obtain ⟨x, xs, rfl, h1, h2⟩ := h
    simp only [St.lends] at e
    split at e
    · rename_i v1 vs1 e1 e2
      cases e
      exact ⟨x, xs, rfl, lend1_sound R ho e1 h1, lends_sound R ho vs vs1 xs e2 h2⟩
    · cases e
theorem lend_sound {O : Obs} {D : Nat} (R : Rel g σ tmps rts w) (ho : ∀ b, g.ok b → g'.ok b) {v v' : V} {x : Value} (e : σ.lend v = some v') (h : VR g w σ.O (σ.up.length + 1) v x) : VR (g'.call w) w O D v' x := by
  cases v with
  | ag cs =>
    simp only [St.lend] at e
    obtain ⟨cs', e1, rfl⟩ := map_some e
    obtain ⟨xs, rfl, hx, h1⟩ := h
    exact ⟨xs, rfl, lends_sound R ho cs cs' xs e1 hx, h1⟩
  | _ => simp only [St.lend] at e; exact lend1_sound R ho e h
theorem ofT_vr {O : Obs} {D : Nat} {t : T} {x : Value} (h : Den w g.ok t x) : VR g w O D (ofT t) x := by
  cases t with
  | agg cs =>
    obtain ⟨vs, rfl, h⟩ := h
    have := DenL.VRs (O := O) (D := D) cs vs h
    exact ⟨vs, rfl, this.1, this.2⟩
  | _ => exact h
theorem hand_names : ∀ (vs : List V) (ms : List Bool) (ws : List V) (ns : List Nat), σ.hand vs ms = some (ws, ns) → ∀ n ∈ ns, ∃ s es gr, σ.obj 0 n = some (.rw s es gr)
  | [], [], ws, ns, e => by
    simp only [St.hand, Option.some.injEq, Prod.mk.injEq] at e
    obtain ⟨_, rfl⟩ := e
    simp
  | [], _ :: _, _, _, e => by simp [St.hand] at e
  | _ :: _, [], _, _, e => by simp [St.hand] at e
  | v :: vs, m :: ms, ws, ns, e => by
    simp only [St.hand] at e
    split at e
    · cases e
    · rename_i ws1 ns1 e1
      have ih := hand_names vs ms ws1 ns1 e1
      split at e
      · obtain ⟨w1, _, e2⟩ := map_some e
        simp only [Prod.mk.injEq] at e2
        obtain ⟨_, rfl⟩ := e2
        exact ih
      · split at e
        · simp only [Option.some.injEq, Prod.mk.injEq] at e
          obtain ⟨_, rfl⟩ := e
          exact ih
        · split at e
          · rename_i t ns2 e2
            simp only [Option.some.injEq, Prod.mk.injEq] at e
            obtain ⟨_, rfl⟩ := e
            intro n hn
            rcases List.mem_append.1 hn with hn | hn
            · exact St.toT_names _ _ _ e2 n hn
            · exact ih n hn
          · cases e
theorem hand_sound {O : Obs} {D : Nat} (R : Rel g σ tmps rts w) (ho : ∀ b, g.ok b → g'.ok b) : ∀ (vs : List V) (ms : List Bool) (ws : List V) (ns : List Nat) (xs : List Value), σ.hand vs ms = some (ws, ns) →
    VRs g w σ.O (σ.up.length + 1) vs xs → (∀ n ∈ ns, ∀ b, g.own b = some (σ.up.length, n) → g'.ok b) → VRs (g'.call w) w O D ws xs
  | [], [], ws, ns, xs, e, h, _ => by
    simp only [St.hand, Option.some.injEq, Prod.mk.injEq] at e
    obtain ⟨rfl, _⟩ := e
    exact h
  | [], _ :: _, _, _, _, e, _, _ => by simp [St.hand] at e
  | _ :: _, [], _, _, _, e, _, _ => by simp [St.hand] at e
  | v :: vs, m :: ms, ws, ns, _, e, h, hn => by
    obtain ⟨x, xs, rfl, h1, h2⟩ := h
    simp only [St.hand] at e
    split at e
    · cases e
    · rename_i ws1 ns1 e1
      split at e
      · obtain ⟨w1, el, e2⟩ := map_some e
        simp only [Prod.mk.injEq] at e2
        obtain ⟨rfl, rfl⟩ := e2
        exact ⟨x, xs, rfl, lend_sound R ho el h1, hand_sound R ho vs ms ws1 _ xs e1 h2 hn⟩
      · split at e
        · simp only [Option.some.injEq, Prod.mk.injEq] at e
          obtain ⟨rfl, rfl⟩ := e
          obtain ⟨us, rfl, hv⟩ := h1
          simp only [VRs] at hv
          exact ⟨_, xs, rfl, ⟨us, rfl, hv⟩, hand_sound R ho vs ms ws1 _ xs e1 h2 hn⟩
        · split at e
          · rename_i t ns2 e2
            simp only [Option.some.injEq, Prod.mk.injEq] at e
            obtain ⟨rfl, rfl⟩ := e
            have hd := St.toT_den rfl ho v t ns2 x e2 h1 (fun n hh => hn n (by simp [hh]))
            exact ⟨x, xs, rfl, ofT_vr (g := g'.call w) hd, hand_sound R ho vs ms ws1 _ xs e1 h2 (fun n hh => hn n (by simp [hh]))⟩
          · cases e
theorem St.hand_length : ∀ (vs : List V) (ms : List Bool) (ws : List V) (ns : List Nat), σ.hand vs ms = some (ws, ns) → ws.length = vs.length
  | [], [], ws, ns, e => by
    simp only [St.hand, Option.some.injEq, Prod.mk.injEq] at e
    obtain ⟨rfl, _⟩ := e
    rfl
  | [], _ :: _, _, _, e => by simp [St.hand] at e
  | _ :: _, [], _, _, e => by simp [St.hand] at e
  | v :: vs, m :: ms, ws, ns, e => by
    simp only [St.hand] at e
    split at e
    · cases e
    · rename_i ws1 ns1 e1
      have ih := St.hand_length vs ms ws1 ns1 e1
      split at e
      · obtain ⟨w1, _, e2⟩ := map_some e
        simp only [Prod.mk.injEq] at e2
        obtain ⟨rfl, _⟩ := e2
        simp [ih]
      · split at e
        · simp only [Option.some.injEq, Prod.mk.injEq] at e
          obtain ⟨rfl, _⟩ := e
          simp [ih]
        · split at e
          · simp only [Option.some.injEq, Prod.mk.injEq] at e
            obtain ⟨rfl, _⟩ := e
            simp [ih]
          · cases e
/-- Into such a call. -/
theorem Rel.pure (R : Rel g σ tmps rts w) {vs ws : List V} {ms : List Bool} {ns : List Nat} {args : Array Value} (hh : σ.hand vs ms = some (ws, ns)) (hv : VRs g w σ.O (σ.up.length + 1) vs args.toList) :
    ∃ g1, Rel g1 (σ.frz ns) tmps rts w ∧ Adv g w g1 w ∧ Rel (g1.call w) ⟨ws, [], []⟩ args [] w ∧ ws.length = args.size := by
  obtain ⟨g1, R1, K, Ad, H, _, _⟩ := R.frzs ns
  have hws : VRs (g1.call w) w (⟨ws, [], []⟩ : St).O 1 ws args.toList := hand_sound R Ad.ok vs ms ws ns args.toList hh hv (fun n hn b hb => by
    obtain ⟨s, es, gr, hobj⟩ := hand_names vs ms ws ns hh n hn
    exact H n hn s es gr hobj b hb)
  refine ⟨g1, R1, Ad, ⟨fun i => ?_, fun a n o ha ho => ?_, fun r hr => (by cases hr), fun b a n hb => (by cases hb), R1.okb, Nat.le_refl _⟩, by rw [VRs.length _ _ hws, Array.length_toList]⟩
  · have := VRs.at _ _ i hws
    simpa [St.get] using this
  · have : (⟨ws, [], []⟩ : St).O a n = none := by
      simp only [St.O, List.length_nil]
      split
      · have ha0 : a = 0 := by omega
        subst ha0; rfl
      · rfl
    rw [this] at ho; cases ho
/-- Blocks more that stay. -/
def Gh.more (g : Gh) (N : Nat → Prop) : Gh := { g with ok := fun b => g.ok b ∨ N b }
theorem Rel.more (R : Rel g σ tmps rts w) {w' : World} {N : Nat → Prop} (hh : ∀ b, b < w.heap.size → w'.heap[b]? = w.heap[b]?) (hs : w.heap.size ≤ w'.heap.size) (hN : ∀ b, N b → w.heap.size ≤ b ∧ b < w'.heap.size ∨ g.ok b) :
    Rel (g.more N) σ tmps rts w' ∧ Keep (σ.up.length + 1) (fun _ _ => False) g w σ.O (g.more N) w' σ.O := by
  have hlt : ∀ b x, g.own b = some x → b < w.heap.size := fun b x hb => (R.own b x.1 x.2 hb).1
  have G : Grow (fun _ _ => False) g w σ.O (g.more N) w' σ.O := ⟨rfl, fun b hb => .inl hb, fun b hb => hh b (by
    rcases hb with hb | hb | hb
    · exact R.okb b hb
    · exact Nat.lt_of_lt_of_le hb R.base
    · cases hx : g.own b with
      | none => exact absurd hx hb
      | some x => exact hlt b x hx), fun b a n _ hb => hb, fun _ _ _ => rfl, fun _ _ _ => rfl⟩
  have K := G.keep (D := σ.up.length + 1)
  refine ⟨Rel.over (a₀ := σ.up.length + 5) (n₀ := 0) R rfl (fun _ => rfl) K (fun _ _ _ => rfl) (fun _ _ _ => rfl) (fun b a m _ hb => ⟨hb, hh b (hlt b _ hb)⟩) (fun o ho => ?_)
    (fun b a n hb => ?_) (fun b hb => ?_) (Nat.le_trans R.base hs), K⟩
  · simp only [St.O] at ho; rw [if_neg (by omega)] at ho; cases ho
  · have := R.own b a n hb
    refine ⟨by omega, fun hok => ?_, this.2.2⟩
    rcases hok with hok | hok
    · exact this.2.1 hok
    · rcases hN b hok with hb' | hb'
      · omega
      · exact this.2.1 hb'
  · rcases hb with hb | hb
    · have := R.okb b hb; omega
    · rcases hN b hb with hb' | hb'
      · exact hb'.2
      · have := R.okb b hb'; omega
/-- Behind such a call. -/
theorem Left.pback {w' : World} {v v' : V} {σc σ₁ : St} {r : Value} (R : Rel g σ tmps rts w) (h : Left (g.call w) [] w [] v σc r w') (hb : Vm.back true σ σc v none = some (v', σ₁)) :
    ∃ g', Rel g' σ₁ tmps rts w' ∧ VR g' w' σ₁.O (σ₁.up.length + 1) v' r ∧ Adv g w g' w' ∧ σ₁.up.length = σ.up.length := by
  obtain ⟨g1, tmps', R1, hv, Ad, hup⟩ := h
  unfold Vm.back at hb
  simp only [Vm.leave, if_true] at hb
  obtain ⟨⟨v2, ns⟩, hd, he⟩ := map_some hb
  simp only [Prod.mk.injEq] at he
  obtain ⟨rfl, rfl⟩ := he
  obtain ⟨g2, R2, K2, A2, H, _, _⟩ := R1.frzs ns
  have A := Ad.trans A2
  have hheap : ∀ b, b < w.heap.size → w'.heap[b]? = w.heap[b]? := fun b hb => A.heap b hb rfl
  have hN : ∀ b, g2.ok b → w.heap.size ≤ b ∧ b < w'.heap.size ∨ g.ok b := fun b hb => by
    rcases A.okNew b hb with h | h | h
    · exact .inr h
    · exact .inl ⟨h, R2.okb b hb⟩
    · exact absurd rfl h
  obtain ⟨R3, K3⟩ := R.more (N := g2.ok) hheap A.size hN
  refine ⟨_, R3, ?_, ⟨rfl, fun b hb => .inl hb, fun b hb => ?_, fun b hb => .inl hb, fun b hb _ => hheap b hb, A.size, A.os, A.tape, A.output⟩, rfl⟩
  · refine dat_sound (pure := true) (D := σ.up.length + 1) v v2 ns r hd ⟨fun b hb => .inr (A2.ok b hb), fun n hn b hb => .inr ?_, fun hp => (by cases hp)⟩ hv
    obtain ⟨s, es, gr, hobj⟩ := dat_names v v2 ns hd n hn
    exact H n hn s es gr hobj b (by simpa using hb)
  · rcases hb with hb | hb
    · exact .inl hb
    · rcases hN b hb with h | h
      · exact .inr (.inl h.1)
      · exact .inl h
end
end Go.Proofs.YtcgjebaomhfbdaaGreat.Vm

/- All of a callee's objects become the caller's. -/
namespace Go.Proofs.YtcgjebaomhfbdaaGreat.Vm
open Go
section
variable {g : Gh} {σ : St} {tmps : Array Value} {rts : Roots} {w : World}
theorem St.O_ob {ob' : Lv} {a n : Nat} (h : a ≠ σ.up.length) : ({ σ with ob := ob' } : St).O a n = σ.O a n := by
  simp only [St.O]
  split
  · rename_i ha
    cases hk : σ.up.length - a with
    | zero => omega
    | succ k => rfl
  · rfl
theorem St.O_top (ob' : Lv) (n : Nat) : ({ σ with ob := ob' } : St).O σ.up.length n = gt none ob' n := by simp [St.O, St.obj]
theorem St.O_top' (n : Nat) : σ.O σ.up.length n = σ.obj 0 n := by simp [St.O]
theorem gt_padTo : ∀ (b : Nat) (os m : Lv) (n : Nat), gt none (padTo b os ++ m) n = if n < b then gt none os n else gt none m (n - b)
  | 0, os, m, n => by simp [padTo]
  | b + 1, [], m, 0 => by simp [padTo, gt]
  | b + 1, [], m, n + 1 => by simp [padTo, gt, gt_padTo b [] m n]
  | b + 1, o :: os, m, 0 => by simp [padTo, gt]
  | b + 1, o :: os, m, n + 1 => by simp [padTo, gt, gt_padTo b os m n]
theorem gt_free : ∀ (b : Nat) (os : Lv) (n : Nat), (os.drop b).all Option.isNone = true → b ≤ n → gt none os n = none
  | b, [], n, _, _ => rfl
  | 0, o :: os, n, h, _ => by
    simp only [List.drop_zero] at h
    rw [gt_get]
    cases hx : (o :: os)[n]? with
    | none => rfl
    | some x =>
      have := List.all_eq_true.1 h x (List.mem_of_getElem? hx)
      cases x with
      | none => rfl
      | some y => cases this
  | b + 1, o :: os, 0, _, hn => by omega
  | b + 1, o :: os, n + 1, h, hn => gt_free b os n (by simpa using h) (by omega)
theorem gt_map_ob (f : Ob → Ob) (os : Lv) (n : Nat) : gt none (os.map (Option.map f)) n = (gt none os n).map f := gt_map (d := none) (e := none) (Option.map f) rfl _ _
/-- the ghost behind: D: the caller's level -/
def Gh.mrg (g : Gh) (D b : Nat) : Gh := { g with
  own := fun x => match g.own x with | some (a, n) => if a = D + 1 then some (D, b + n) else some (a, n) | none => none
  loc := fun a n => if a = D ∧ b ≤ n then g.loc (D + 1) (n - b) else g.loc a n }
section
variable {D b : Nat} {O O' : Obs}
theorem Gh.mrg_low {x a n : Nat} (h : g.own x = some (a, n)) (ha : a ≤ D) : (g.mrg D b).own x = some (a, n) := by
  simp only [Gh.mrg, h]; rw [if_neg (by omega)]
theorem Gh.mrg_top {x n : Nat} (h : g.own x = some (D + 1, n)) : (g.mrg D b).own x = some (D, b + n) := by
  simp only [Gh.mrg, h, if_true]
theorem Gh.mrg_loc (n : Nat) : (g.mrg D b).loc D (b + n) = g.loc (D + 1) n := by
  show (if D = D ∧ b ≤ b + n then g.loc (D + 1) (b + n - b) else g.loc D (b + n)) = _
  rw [if_pos ⟨rfl, Nat.le_add_right _ _⟩]
  congr 1; omega
structure Merged (D b : Nat) (O O' : Obs) : Prop where
  free : ∀ n, b ≤ n → O D n = none
  low : ∀ a n, a ≤ D → ¬ (a = D ∧ b ≤ n) → O' a n = O a n
  top : ∀ n, O' D (b + n) = (O (D + 1) n).map (Ob.mrg b)
theorem Merged.keep (M : Merged D b O O') : Keep (D + 1) (fun _ _ => False) g w O (g.mrg D b) w O' := by
  have hO : ∀ a n, a < D + 1 → O a n ≠ none → O' a n = O a n ∧ (g.mrg D b).loc a n = g.loc a n := fun a n ha hn => by
    have hc : ¬ (a = D ∧ b ≤ n) := fun ⟨e, h⟩ => hn (by rw [e]; exact M.free n h)
    exact ⟨M.low a n (by omega) hc, by simp only [Gh.mrg]; rw [if_neg hc]⟩
  refine ⟨rfl, fun _ h => h, fun _ _ => rfl, fun a n lo len s A c ha _ h => ?_, fun a n i off v ha _ h => ?_, fun a n off v ha _ h => ?_⟩
  · have hn : O a n ≠ none := fun e => by unfold RowV at h; rw [e] at h; exact h
    unfold RowV at h ⊢
    rw [(hO a n ha hn).1, (hO a n ha hn).2]
    split at h
    · obtain ⟨h1, h2, h3, h4⟩ := h
      exact ⟨h1, h2, h3, h4.imp id fun ⟨x, o, hA, hob, hd, hx⟩ => ⟨x, o, hA, Gh.mrg_low hob (by omega), hd, hx⟩⟩
    · exact h
    · exact h
    · exact h
    · exact h
  · have hn : O a n ≠ none := fun e => by unfold RelV at h; rw [e] at h; exact h
    unfold RelV at h ⊢
    rw [(hO a n ha hn).1, (hO a n ha hn).2]
    split at h
    · obtain ⟨x, o, e, vs, hv, hob, h2⟩ := h
      exact ⟨x, o, e, vs, hv, Gh.mrg_low hob (by omega), h2⟩
    · exact h
    · exact h
    · exact h
  · have hn : O a n ≠ none := fun e => by unfold PtrV at h; rw [e] at h; exact h
    unfold PtrV at h ⊢
    rw [(hO a n ha hn).1, (hO a n ha hn).2]
    exact h
theorem V.mrgs_length (b : Nat) : ∀ cs : List V, (V.mrgs b cs).length = cs.length
  | [] => rfl
  | c :: cs => by simp only [V.mrgs, List.length_cons, V.mrgs_length b cs]
mutual
theorem VR.mrg (M : Merged D b O O') : ∀ (v : V) (x : Value), VR g w O (D + 2) v x → VR (g.mrg D b) w O' (D + 1) (v.mrg b) x
  | .row 0 n lo len s, x, h => by
    obtain ⟨_, A, c, hx, h⟩ := h
    refine ⟨Nat.succ_pos _, A, c, hx, ?_⟩
    have e1 : D + 2 - 1 - 0 = D + 1 := by omega
    have e2 : D + 1 - 1 - 0 = D := by omega
    rw [e1] at h
    rw [e2]
    unfold RowV at h ⊢
    rw [M.top n, Gh.mrg_loc]
    split at h
    · rename_i s' es gr ho
      rw [ho]
      obtain ⟨h1, h2, h3, h4⟩ := h
      exact ⟨h1, h2, h3, h4.imp id fun ⟨x, o, hA, hob, hd, hx⟩ => ⟨x, o, hA, Gh.mrg_top hob, hd, hx⟩⟩
    · rename_i s' es ho
      rw [ho]; exact h
    · rename_i ho
      rw [ho]; exact h
    · rename_i cs ho
      rw [ho]; simp only [Option.map_some, Ob.mrg, V.mrgs_length]; exact h
    · exact h.elim
  | .row (l + 1) n lo len s, x, h => by
    obtain ⟨hl, A, c, hx, h⟩ := h
    refine ⟨by omega, A, c, hx, ?_⟩
    have e : D + 2 - 1 - (l + 1) = D + 1 - 1 - l := by omega
    rw [e] at h
    exact (M.keep (g := g) (w := w)).row _ _ _ _ _ _ _ (by omega) (fun h => h) h
  | .ptr 0 n off, x, h => by
    obtain ⟨_, h⟩ := h
    have e1 : D + 2 - 1 - 0 = D + 1 := by omega
    have e2 : D + 1 - 1 - 0 = D := by omega
    rw [e1] at h
    refine ⟨Nat.succ_pos _, ?_⟩
    rw [e2]
    unfold PtrV at h ⊢
    rw [M.top n, Gh.mrg_loc]
    split at h
    · rename_i cs ho
      rw [ho]; exact h
    · rename_i ho
      rw [ho]; exact h
    · rename_i ho
      rw [ho]; exact h
    · exact h.elim
  | .ptr (l + 1) n off, x, h => by
    obtain ⟨hl, h⟩ := h
    refine ⟨by omega, ?_⟩
    have e : D + 2 - 1 - (l + 1) = D + 1 - 1 - l := by omega
    rw [e] at h
    exact (M.keep (g := g) (w := w)).ptr _ _ _ _ (by omega) (fun h => h) h
  | .rel 0 n i off, x, h => by
    obtain ⟨_, h⟩ := h
    refine ⟨Nat.succ_pos _, ?_⟩
    have e1 : D + 2 - 1 - 0 = D + 1 := by omega
    have e2 : D + 1 - 1 - 0 = D := by omega
    rw [e1] at h
    rw [e2]
    unfold RelV at h ⊢
    rw [M.top n, Gh.mrg_loc]
    split at h
    · rename_i s' es gr ho
      rw [ho]
      obtain ⟨x, o, e, vs, hv, hob, h2⟩ := h
      exact ⟨x, o, e, vs, hv, Gh.mrg_top hob, h2⟩
    · rename_i s' es ho
      rw [ho]; exact h
    · rename_i ho
      rw [ho]; exact h
    · exact h.elim
  | .rel (l + 1) n i off, x, h => by
    obtain ⟨hl, h⟩ := h
    refine ⟨by omega, ?_⟩
    have e : D + 2 - 1 - (l + 1) = D + 1 - 1 - l := by omega
    rw [e] at h
    exact (M.keep (g := g) (w := w)).rel _ _ _ _ _ (by omega) (fun h => h) h
  | .ag cs, x, h => by
    obtain ⟨vs, hv, h, h1⟩ := h
    exact ⟨vs, hv, VRs.mrg M cs vs h, h1⟩
  | .tp cs, x, h => by
    obtain ⟨vs, hv, h⟩ := h
    exact ⟨vs, hv, VRs.mrg M cs vs h⟩
  | .cl f cs, x, h => by
    obtain ⟨vs, hv, h⟩ := h
    exact ⟨vs, hv, VRs.mrg M cs vs h⟩
  | .d true t, x, h => h
  | .d false t, x, h => VR.keep (M.keep (g := g) (w := w)) (D + 1) (Nat.le_refl _) (.d false t) x trivial h
  | .dx true t, x, h => h
  | .dx false t, x, h => VR.keep (M.keep (g := g) (w := w)) (D + 1) (Nat.le_refl _) (.dx false t) x trivial h
  | .nil _, x, h => h
  | .pd t, x, h => VR.keep (M.keep (g := g) (w := w)) (D + 1) (Nat.le_refl _) (.pd t) x trivial h
  | .u, x, h => trivial
theorem VRs.mrg (M : Merged D b O O') : ∀ (vs : List V) (xs : List Value), VRs g w O (D + 2) vs xs → VRs (g.mrg D b) w O' (D + 1) (V.mrgs b vs) xs
  | [], xs, h => h
  | v :: vs, _, h => by
    obtain ⟨x, xs, rfl, h1, h2⟩ := h
    exact ⟨x, xs, rfl, VR.mrg M v x h1, VRs.mrg M vs xs h2⟩
end
end
theorem Left.merge {w' : World} {v v' : V} {σc σl σ₁ : St} {r : Value} {b : Nat} (hrt : ∀ q ∈ rts, q.1 ≤ σ.up.length) (h : Left g (slotRoots σ tmps ++ rts) w (σ.ob :: σ.up) v σc r w') (hl : Vm.leave false σ σc = some σl) (hb : Vm.merge σl σc v b = some (v', σ₁)) :
    ∃ g', Rel g' σ₁ tmps rts w' ∧ VR g' w' σ₁.O (σ₁.up.length + 1) v' r ∧ Adv g w g' w' ∧ σ₁.up.length = σ.up.length := by
  obtain ⟨g1, tmps', R, hv, Ad, hup⟩ := h
  simp only [List.length_cons] at hup
  obtain ⟨hl3, hsl, hO⟩ := leave_O hl rfl hup
  unfold Vm.merge at hb
  split at hb
  · rename_i hfree
    cases hb
    have hup1 : ({ σl with ob := padTo b σl.ob ++ σc.ob.map (Option.map (Ob.mrg b)) } : St).up.length = σ.up.length := hl3
    have htop : ∀ n, ({ σl with ob := padTo b σl.ob ++ σc.ob.map (Option.map (Ob.mrg b)) } : St).O σ.up.length n = if n < b then σl.O σ.up.length n else (gt none σc.ob (n - b)).map (Ob.mrg b) := fun n => by
      have h1 := St.O_top (σ := σl) (padTo b σl.ob ++ σc.ob.map (Option.map (Ob.mrg b))) n
      rw [hl3] at h1
      rw [h1, gt_padTo, gt_map_ob]
      have h2 := St.O_top' (σ := σl) n
      rw [hl3] at h2
      rw [h2]
      rfl
    have hfr : ∀ n, b ≤ n → σl.O σ.up.length n = none := fun n hn => by
      have h2 := St.O_top' (σ := σl) n
      rw [hl3] at h2
      rw [h2]
      exact gt_free b σl.ob n hfree hn
    have M : Merged σ.up.length b σc.O ({ σl with ob := padTo b σl.ob ++ σc.ob.map (Option.map (Ob.mrg b)) } : St).O := by
      refine ⟨fun n hn => ?_, fun a n ha hc => ?_, fun n => ?_⟩
      · rw [← hO σ.up.length n (by omega)]; exact hfr n hn
      · by_cases hae : a = σ.up.length
        · subst hae
          rw [htop, if_pos (by omega), hO _ _ (by omega)]
        · rw [St.O_ob (by rw [hl3]; exact hae), hO _ _ (by omega)]
      · rw [htop, if_neg (by omega)]
        have h2 := St.O_top' (σ := σc) n
        rw [hup] at h2
        rw [h2]
        congr 1
        show gt none σc.ob (b + n - b) = gt none σc.ob n
        congr 1; omega
    have K := M.keep (g := g1) (w := w')
    refine ⟨g1.mrg σ.up.length b, ⟨fun i => ?_, fun a n o ha ho => ?_, fun q hq => ?_, fun x a n hx => ?_, R.okb, R.base⟩, ?_, ?_, hl3⟩
    · rw [hup1]
      have hg : ({ σl with ob := padTo b σl.ob ++ σc.ob.map (Option.map (Ob.mrg b)) } : St).get i = σ.get i := by simp [St.get, hsl]
      rw [hg]
      by_cases hi : i < σ.sl.length
      · have := (R.rt (σ.up.length + 1, σ.get i, tmps.getD i undef) (List.mem_append_left _ (List.mem_map.2 ⟨i, List.mem_range.2 hi, rfl⟩))).2
        exact VR.keep' K (Nat.le_refl _) this
      · have : σ.get i = .u := gt_far _ _ _ (by omega)
        rw [this]; trivial
    · rw [hup1] at ha
      by_cases hc : a = σ.up.length ∧ b ≤ n
      · obtain ⟨rfl, hn⟩ := hc
        obtain ⟨m, rfl⟩ : ∃ m, n = b + m := ⟨n - b, by omega⟩
        rw [M.top] at ho
        cases ho0 : σc.O (σ.up.length + 1) m with
        | none => rw [ho0] at ho; cases ho
        | some o0 =>
          rw [ho0] at ho
          cases ho
          have hold := R.ob (σ.up.length + 1) m o0 (by omega) ho0
          cases o0 with
          | box cs =>
            obtain ⟨h1, vs, rest, el, h2, h3, h4⟩ := hold
            exact ⟨by rw [Gh.mrg_loc]; exact Gh.mrg_top h1, vs, rest, el, by rw [Gh.mrg_loc]; exact h2, VRs.mrg M _ _ h3, h4.1, by rw [Gh.mrg_loc]; exact h4.2⟩
          | rw s es gr =>
            rcases hold with hold | ⟨h1, h2, cs, el, h3, h4, h5⟩
            · exact .inl (by rw [Gh.mrg_loc]; exact hold)
            · exact .inr ⟨by rw [Gh.mrg_loc]; exact Gh.mrg_top h1, by rw [Gh.mrg_loc]; exact h2, cs, el, by rw [Gh.mrg_loc]; exact h3, by rw [Gh.mrg_loc]; exact h4, by rw [Gh.mrg_loc]; exact h5⟩
          | fz s es => trivial
          | gone => trivial
      · rw [M.low a n (by omega) hc] at ho
        exact ObR.keep' K ha (by simp only [Gh.mrg]; rw [if_neg hc]) (fun x hx => Gh.mrg_low hx (by omega)) rfl (R.ob a n o (by omega) ho)
    · rw [hup1]
      have hq1 := hrt q hq
      exact ⟨hq1, VR.keep' K (by omega) (R.rt q (List.mem_append_right _ hq)).2⟩
    · rw [hup1]
      simp only [Gh.mrg] at hx
      cases hx0 : g1.own x with
      | none => rw [hx0] at hx; cases hx
      | some y =>
        obtain ⟨a', n'⟩ := y
        have hR := R.own x a' n' hx0
        rw [hx0] at hx
        simp only at hx
        refine ⟨hR.1, hR.2.1, hR.2.2.1, ?_⟩
        split at hx
        · cases hx; omega
        · cases hx; omega
    · have hv' := VR.mrg (g := g1) (w := w') M v r (by have := hv; rw [hup] at this; exact this)
      have e : ({ σl with ob := padTo b σl.ob ++ σc.ob.map (Option.map (Ob.mrg b)) } : St).up.length + 1 = σ.up.length + 1 := by rw [hup1]
      rw [e]
      exact hv'
    · refine ⟨Ad.base, Ad.ok, Ad.okNew, fun x hx => ?_, Ad.heap, Ad.size, Ad.os, Ad.tape, Ad.output⟩
      refine Ad.ownNew x fun he => hx ?_
      simp only [Gh.mrg, he]
  · cases hb
end
end Go.Proofs.YtcgjebaomhfbdaaGreat.Vm

/- Rows that a callee made become the caller's. -/
namespace Go.Proofs.YtcgjebaomhfbdaaGreat.Vm
open Go
section
variable {g g' : Gh} {σ : St} {tmps : Array Value} {rts : Roots} {w : World} {O O' : Obs} {pure : Bool} {base Dc D : Nat}
/-- the ghost behind -/
def Gh.gain (g : Gh) (σ : St) (own2 : Nat → Option Nat) (loc2 : Nat → Nat × Nat × Nat) : Gh :=
  { g with own := fun b => match own2 b with | some m => some (σ.up.length, m) | none => g.own b, loc := fun a n => if a = σ.up.length ∧ σ.obj 0 n = none then loc2 n else g.loc a n }
theorem Keep.gain {ob' : Lv} {own2 : Nat → Option Nat} {loc2 : Nat → Nat × Nat × Nat} (hold : ∀ n, σ.obj 0 n ≠ none → gt none ob' n = σ.obj 0 n)
    (hown : ∀ b m, own2 b = some m → g.own b = none) {D : Nat} : Keep D (fun _ _ => False) g w σ.O (g.gain σ own2 loc2) w ({ σ with ob := ob' } : St).O := by
  have hO : ∀ a n, σ.O a n ≠ none → ({ σ with ob := ob' } : St).O a n = σ.O a n ∧ (g.gain σ own2 loc2).loc a n = g.loc a n := fun a n hn => by
    by_cases ha : a = σ.up.length
    · subst ha
      rw [St.O_top'] at hn
      refine ⟨by rw [St.O_top, St.O_top', hold n hn], ?_⟩
      simp [Gh.gain, hn]
    · exact ⟨St.O_ob ha, by simp [Gh.gain, ha]⟩
  have ho : ∀ b x, g.own b = some x → (g.gain σ own2 loc2).own b = some x := fun b x hb => by
    simp only [Gh.gain]
    cases h : own2 b with
    | none => exact hb
    | some m => rw [hown b m h] at hb; cases hb
  refine ⟨rfl, fun _ h => h, fun _ _ => rfl, fun a n lo len s A c _ _ h => ?_, fun a n i off v _ _ h => ?_, fun a n off v _ _ h => ?_⟩
  · have hn : σ.O a n ≠ none := fun e => by unfold RowV at h; rw [e] at h; exact h
    unfold RowV at h ⊢
    rw [(hO a n hn).1, (hO a n hn).2]
    split at h
    · obtain ⟨h1, h2, h3, h4⟩ := h
      exact ⟨h1, h2, h3, h4.imp id fun ⟨b, o, hA, hob, hd, hx⟩ => ⟨b, o, hA, ho _ _ hob, hd, hx⟩⟩
    · exact h
    · exact h
    · exact h
    · exact h
  · have hn : σ.O a n ≠ none := fun e => by unfold RelV at h; rw [e] at h; exact h
    unfold RelV at h ⊢
    rw [(hO a n hn).1, (hO a n hn).2]
    split at h
    · obtain ⟨b, o, e, vs, hv, hob, h2⟩ := h
      exact ⟨b, o, e, vs, hv, ho _ _ hob, h2⟩
    · exact h
    · exact h
    · exact h
  · have hn : σ.O a n ≠ none := fun e => by unfold PtrV at h; rw [e] at h; exact h
    unfold PtrV at h ⊢
    rw [(hO a n hn).1, (hO a n hn).2]
    exact h
theorem Rel.gain (R : Rel g σ tmps rts w) {ob' : Lv} {own2 : Nat → Option Nat} {loc2 : Nat → Nat × Nat × Nat} (hold : ∀ n, σ.obj 0 n ≠ none → gt none ob' n = σ.obj 0 n)
    (hown : ∀ b m, own2 b = some m → g.own b = none ∧ ¬ g.ok b ∧ g.base ≤ b ∧ b < w.heap.size)
    (hnew : ∀ m o, σ.obj 0 m = none → gt none ob' m = some o → ObR (g.gain σ own2 loc2) w ({ σ with ob := ob' } : St).O σ.up.length m o) :
    Rel (g.gain σ own2 loc2) { σ with ob := ob' } tmps rts w := by
  have K : ∀ D, Keep D (fun _ _ => False) g w σ.O (g.gain σ own2 loc2) w ({ σ with ob := ob' } : St).O := fun D => Keep.gain hold (fun b m h => (hown b m h).1)
  have ho : ∀ b x, g.own b = some x → (g.gain σ own2 loc2).own b = some x := fun b x hb => by
    simp only [Gh.gain]
    cases h : own2 b with
    | none => exact hb
    | some m => rw [(hown b m h).1] at hb; cases hb
  refine ⟨fun i => VR.keep' (K _) (Nat.le_refl _) (R.sl i), fun a n o ha hoo => ?_, fun r hr => ⟨(R.rt r hr).1, VR.keep' (K _) (Nat.le_refl _) (R.rt r hr).2⟩, fun b a n hb => ?_, R.okb, R.base⟩
  · by_cases hc : a = σ.up.length ∧ σ.obj 0 n = none
    · obtain ⟨rfl, hn⟩ := hc
      rw [St.O_top] at hoo
      exact hnew n o hn hoo
    · have hOe : ({ σ with ob := ob' } : St).O a n = σ.O a n := by
        by_cases ha' : a = σ.up.length
        · subst ha'
          have hn : σ.obj 0 n ≠ none := fun e => hc ⟨rfl, e⟩
          rw [St.O_top, St.O_top', hold n hn]
        · exact St.O_ob ha'
      rw [hOe] at hoo
      exact ObR.keep' (K (a + 1)) (Nat.lt_succ_self _) (by simp only [Gh.gain]; rw [if_neg hc]) (fun b hb => ho b _ hb) rfl (R.ob a n o ha hoo)
  · simp only [Gh.gain] at hb
    cases h : own2 b with
    | none => rw [h] at hb; exact R.own b a n hb
    | some m =>
      rw [h] at hb
      obtain ⟨_, h2, h3, h4⟩ := hown b m h
      cases hb
      exact ⟨h4, h2, h3, Nat.lt_succ_self _⟩
/-- one row -/
theorem take_row {g1 : Gh} {σc : St} {tc : Array Value} {rc : Roots} {x : Value} {n nm s s' : Nat} {es : List T} {gr : Bool} (Rc : Rel g1 σc tc rc w) (RL : Rel g σ tmps rts w) (hok : ∀ b, g1.ok b → g.ok b)
    (hn : ∀ b, g1.own b = some (σc.up.length, n) → ¬ g.ok b ∧ g.own b = none ∧ g.base ≤ b) (hobj : σc.obj 0 n = some (.rw s' es gr)) (hno : σ.obj 0 nm = none) (hx : VR g1 w σc.O (σc.up.length + 1) (.row 0 n 0 es.length s) x) :
    ∃ g', Rel g' { σ with ob := st none σ.ob nm (some (.rw s es false)) } tmps rts w ∧ VR g' w ({ σ with ob := st none σ.ob nm (some (.rw s es false)) } : St).O (σ.up.length + 1) (.row 0 nm 0 es.length s) x ∧ g'.base = g.base ∧ g'.ok = g.ok ∧
      (∀ b, g'.own b ≠ none → g.own b ≠ none ∨ g1.own b = some (σc.up.length, n)) ∧ ∀ D, Keep D (fun _ _ => False) g w σ.O g' w ({ σ with ob := st none σ.ob nm (some (.rw s es false)) } : St).O := by
  obtain ⟨_, A, c, hr, hrow⟩ := hx
  have hO : σc.O σc.up.length n = some (.rw s' es gr) := by rw [St.O_top']; exact hobj
  rw [show σc.up.length + 1 - 1 - 0 = σc.up.length by omega] at hrow
  unfold RowV at hrow
  rw [hO] at hrow
  simp only at hrow
  obtain ⟨hss, hfit, hcap, hrow⟩ := hrow
  have hss := hss.symm
  subst hss
  let own2 : Nat → Option Nat := fun b => if g1.own b = some (σc.up.length, n) then some nm else none
  let loc2 : Nat → Nat × Nat × Nat := fun _ => g1.loc σc.up.length n
  have own2_some : ∀ b m, own2 b = some m → g1.own b = some (σc.up.length, n) ∧ m = nm := fun b m hb => by
    simp only [own2] at hb
    split at hb
    · rename_i h; cases hb; exact ⟨h, rfl⟩
    · cases hb
  have own2_of : ∀ b, g1.own b = some (σc.up.length, n) → own2 b = some nm := fun b hb => by simp only [own2]; rw [if_pos hb]
  have hgt : ∀ m, gt none (st none σ.ob nm (some (.rw s es false))) m = if nm = m then some (.rw s es false) else σ.obj 0 m := fun m => gt_st _ _ _ _
  have hold : ∀ m, σ.obj 0 m ≠ none → gt none (st none σ.ob nm (some (.rw s es false))) m = σ.obj 0 m := fun m hm => by rw [hgt, if_neg (fun e => hm (by rw [← e]; exact hno))]
  have hown : ∀ b m, own2 b = some m → g.own b = none ∧ ¬ g.ok b ∧ g.base ≤ b ∧ b < w.heap.size := fun b m hb => by
    obtain ⟨h1, _⟩ := own2_some b m hb
    obtain ⟨q1, q2, q3⟩ := hn b h1
    exact ⟨q2, q1, q3, (Rc.own b _ _ h1).1⟩
  have hlocn : (g.gain σ own2 loc2).loc σ.up.length nm = g1.loc σc.up.length n := by simp only [Gh.gain, hno, and_self, if_true, loc2]
  have hownn : ∀ b, g1.own b = some (σc.up.length, n) → (g.gain σ own2 loc2).own b = some (σ.up.length, nm) := fun b hb => by simp only [Gh.gain, own2_of b hb]
  refine ⟨g.gain σ own2 loc2, Rel.gain RL hold hown fun m o hm hmo => ?_, ⟨Nat.succ_pos _, A, c, hr, ?_⟩, rfl, rfl, fun b hb => ?_, fun D => Keep.gain hold (fun b m h => (hown b m h).1)⟩
  · rw [hgt] at hmo
    split at hmo
    · rename_i hnm
      subst hnm
      cases hmo
      rcases Rc.ob σc.up.length n _ (Nat.lt_succ_self _) hO with hh | ⟨q1, q2, cs, el, q3, q4, q5⟩
      · exact .inl (by rw [hlocn]; exact hh)
      · refine .inr ⟨by rw [hlocn]; exact hownn _ q1, by rw [hlocn]; exact q2, cs, el, by rw [hlocn]; exact q3, by rw [hlocn]; exact q4, ?_⟩
        rw [hlocn]
        exact DenR.mono (fun _ _ => rfl) hok _ _ rfl _ _ q5
    · rw [hm] at hmo; cases hmo
  · rw [show σ.up.length + 1 - 1 - 0 = σ.up.length by omega]
    unfold RowV
    rw [St.O_top, hgt, if_pos rfl]
    refine ⟨rfl, hfit, hcap, hrow.imp id fun ⟨b, o, hA, hb, hd, hx⟩ => ⟨b, o, hA, hownn b hb, DenR.mono (fun _ _ => rfl) hok _ _ rfl _ _ hd, .inl ?_⟩⟩
    rw [hlocn]
    rcases hx with hx | ⟨_, hx, _⟩
    · exact hx
    · omega
  · simp only [Gh.gain] at hb
    cases h : own2 b with
    | none => rw [h] at hb; exact .inl hb
    | some m => exact .inr (own2_some b m h).1
/-- an empty one -/
theorem take_nil {x : Value} {nm s s' : Nat} (RL : Rel g σ tmps rts w) (hno : σ.obj 0 nm = none) (hx : VR g' w O D (.nil s') x) :
    ∃ g', Rel g' { σ with ob := st none σ.ob nm (some (.rw s [] false)) } tmps rts w ∧ VR g' w ({ σ with ob := st none σ.ob nm (some (.rw s [] false)) } : St).O (σ.up.length + 1) (.row 0 nm 0 0 s) x ∧ g'.base = g.base ∧ g'.ok = g.ok ∧
      (∀ b, g'.own b ≠ none → g.own b ≠ none) ∧ ∀ D, Keep D (fun _ _ => False) g w σ.O g' w ({ σ with ob := st none σ.ob nm (some (.rw s [] false)) } : St).O := by
  obtain ⟨A, hr⟩ := hx
  have hgt : ∀ m, gt none (st none σ.ob nm (some (.rw s [] false))) m = if nm = m then some (.rw s [] false) else σ.obj 0 m := fun m => gt_st _ _ _ _
  have hold : ∀ m, σ.obj 0 m ≠ none → gt none (st none σ.ob nm (some (.rw s [] false))) m = σ.obj 0 m := fun m hm => by rw [hgt, if_neg (fun e => hm (by rw [← e]; exact hno))]
  refine ⟨g.gain σ (fun _ => none) (fun _ => (0, 0, 0)), Rel.gain RL hold (fun b m hb => by cases hb) fun m o hm hmo => ?_, ⟨Nat.succ_pos _, A, 0, hr, ?_⟩, rfl, rfl, fun b hb => hb, fun D => Keep.gain hold (fun b m h => by cases h)⟩
  · rw [hgt] at hmo
    split at hmo
    · rename_i hnm
      subst hnm
      cases hmo
      exact .inl ⟨rfl, by simp only [Gh.gain, hno, and_self, if_true]⟩
    · rw [hm] at hmo; cases hmo
  · rw [show σ.up.length + 1 - 1 - 0 = σ.up.length by omega]
    unfold RowV
    rw [St.O_top, hgt, if_pos rfl]
    exact ⟨rfl, by simp, Nat.le_refl _, .inl rfl⟩
/-- the caller, while it takes -/
structure Tk (pure : Bool) (g1 gL : Gh) (σc σl : St) (tl : Array Value) (rl : Roots) (w : World) (a : Lv × Nat × List Nat) (g : Gh) : Prop where
  rel : Rel g { σl with ob := a.1 } tl rl w
  base : g.base = gL.base
  ok : g.ok = gL.ok
  own : ∀ b, g.own b ≠ none → gL.own b ≠ none ∨ g1.own b ≠ none
  free : ∀ b n, n ∉ a.2.2 → g1.own b = some (σc.up.length, n) → g.own b = none
  out : pure = false → σc.up.length = σl.up.length + 1 ∧ Keep (σl.up.length + 1) (fun _ _ => False) g1 w σc.O g w ({ σl with ob := a.1 } : St).O
theorem take1_sound {g1 gL : Gh} {σc σl : St} {tc tl : Array Value} {rc rl : Roots} (Rc : Rel g1 σc tc rc w) (hok : ∀ b, g1.ok b → gL.ok b) (hnok : ∀ b n, g1.own b = some (σc.up.length, n) → ¬ gL.ok b ∧ gL.base ≤ b) :
    ∀ (v v' : V) (x : Value) (a a' : Lv × Nat × List Nat) (g : Gh), take1 pure σc v a = some (v', a') → Tk pure g1 gL σc σl tl rl w a g → VR g1 w σc.O (σc.up.length + 1) v x →
      ∃ g', Tk pure g1 gL σc σl tl rl w a' g' ∧ VR g' w ({ σl with ob := a'.1 } : St).O (σl.up.length + 1) v' x ∧ ∀ D, Keep D (fun _ _ => False) g w ({ σl with ob := a.1 } : St).O g' w ({ σl with ob := a'.1 } : St).O := by
  intro v v' x a a' g e K h
  have hok' : ∀ b, g1.ok b → g.ok b := fun b hb => by rw [K.ok]; exact hok b hb
  have plain : ∀ v, take0 pure σc v a = some (v', a') → VR g1 w σc.O (σc.up.length + 1) v x → ∃ g', Tk pure g1 gL σc σl tl rl w a' g' ∧ VR g' w ({ σl with ob := a'.1 } : St).O (σl.up.length + 1) v' x ∧ ∀ D, Keep D (fun _ _ => False) g w ({ σl with ob := a.1 } : St).O g' w ({ σl with ob := a'.1 } : St).O := fun v e h => by
    unfold take0 at e
    split at e
    · rename_i hd
      cases e
      exact ⟨g, K, dat1_sound v _ [] x hd ⟨hok', (fun n hn => by cases hn), fun hp => ⟨by rw [(K.out hp).1], (K.out hp).2⟩⟩ h, fun D => Keep.same rfl⟩
    · cases e
  unfold take1 at e
  split at e
  · rename_i s
    split at e
    · rename_i hno
      cases e
      obtain ⟨g', R', hv, b1, b2, b3, b4⟩ := take_nil (σ := { σl with ob := a.1 }) (nm := a.2.1) (s := s) K.rel (Option.isNone_iff_eq_none.1 hno) h
      refine ⟨g', ⟨R', b1.trans K.base, b2.trans K.ok, fun b hb => K.own b (b3 b hb), fun b n hn hb => ?_, fun hp => ?_⟩, hv, b4⟩
      · cases ho : g'.own b with
        | none => rfl
        | some y => exact absurd (K.free b n hn hb) (b3 b (by rw [ho]; simp))
      · obtain ⟨q1, q2⟩ := K.out hp
        exact ⟨q1, q2.trans (b4 _)⟩
    · cases e
  · rename_i n lo len s
    split at e
    · rename_i s' es gr hobj
      split at e
      · rename_i hc
        obtain ⟨rfl, rfl, hnu, hno⟩ := hc
        cases e
        obtain ⟨g', R', hv, b1, b2, b3, b4⟩ := take_row (σ := { σl with ob := a.1 }) (nm := a.2.1) (s := s) Rc K.rel hok' (fun b hb => ⟨by rw [K.ok]; exact (hnok b n hb).1, K.free b n hnu hb, by rw [K.base]; exact (hnok b n hb).2⟩) hobj (Option.isNone_iff_eq_none.1 hno) h
        refine ⟨g', ⟨R', b1.trans K.base, b2.trans K.ok, fun b hb => ?_, fun b m hm hb => ?_, fun hp => ?_⟩, hv, b4⟩
        · rcases b3 b hb with h | h
          · exact K.own b h
          · exact .inr (by rw [h]; simp)
        · have hm1 : m ∉ a.2.2 := fun hx => hm (List.mem_cons_of_mem _ hx)
          have hm2 : m ≠ n := fun hx => hm (by subst hx; exact List.mem_cons_self ..)
          cases ho : g'.own b with
          | none => rfl
          | some y =>
            rcases b3 b (by rw [ho]; simp) with h | h
            · exact absurd (K.free b m hm1 hb) h
            · rw [hb] at h; cases h; exact absurd rfl hm2
        · obtain ⟨q1, q2⟩ := K.out hp
          exact ⟨q1, q2.trans (b4 _)⟩
      · cases e
    · exact plain _ e h
  · exact plain _ e h
theorem takes1_sound {g1 gL : Gh} {σc σl : St} {tc tl : Array Value} {rc rl : Roots} (Rc : Rel g1 σc tc rc w) (hok : ∀ b, g1.ok b → gL.ok b) (hnok : ∀ b n, g1.own b = some (σc.up.length, n) → ¬ gL.ok b ∧ gL.base ≤ b) :
    ∀ (vs vs' : List V) (xs : List Value) (a a' : Lv × Nat × List Nat) (g : Gh), takes1 pure σc vs a = some (vs', a') → Tk pure g1 gL σc σl tl rl w a g → VRs g1 w σc.O (σc.up.length + 1) vs xs →
      ∃ g', Tk pure g1 gL σc σl tl rl w a' g' ∧ VRs g' w ({ σl with ob := a'.1 } : St).O (σl.up.length + 1) vs' xs ∧ ∀ D, Keep D (fun _ _ => False) g w ({ σl with ob := a.1 } : St).O g' w ({ σl with ob := a'.1 } : St).O
  | [], vs', xs, a, a', g, e, K, h => by
    simp only [takes1, Option.some.injEq, Prod.mk.injEq] at e
    obtain ⟨rfl, rfl⟩ := e
    exact ⟨g, K, h, fun D => Keep.same rfl⟩
  | v :: vs, vs', xs, a, a', g, e, K, h => by
    simp only [takes1] at e
    split at e
    · rename_i v1 a1 h1
      obtain ⟨r, h2, h3⟩ := map_some e
      simp only [Prod.mk.injEq] at h3
      obtain ⟨rfl, rfl⟩ := h3
      obtain ⟨x, xs', rfl, hx, hxs⟩ := h
      obtain ⟨g2, K2, q1, q2⟩ := take1_sound Rc hok hnok v v1 x a a1 g h1 K hx
      obtain ⟨g3, K3, q3, q4⟩ := takes1_sound Rc hok hnok vs r.1 xs' a1 r.2 g2 h2 K2 hxs
      exact ⟨g3, K3, ⟨x, xs', rfl, VR.keep' (q4 _) (Nat.le_refl _) q1, q3⟩, fun D => (q2 D).trans (q4 D)⟩
    · cases e
theorem take2_sound {g1 gL : Gh} {σc σl : St} {tc tl : Array Value} {rc rl : Roots} (Rc : Rel g1 σc tc rc w) (hok : ∀ b, g1.ok b → gL.ok b) (hnok : ∀ b n, g1.own b = some (σc.up.length, n) → ¬ gL.ok b ∧ gL.base ≤ b)
    (v v' : V) (x : Value) (a a' : Lv × Nat × List Nat) (g : Gh) (e : take2 pure σc v a = some (v', a')) (K : Tk pure g1 gL σc σl tl rl w a g) (h : VR g1 w σc.O (σc.up.length + 1) v x) :
      ∃ g', Tk pure g1 gL σc σl tl rl w a' g' ∧ VR g' w ({ σl with ob := a'.1 } : St).O (σl.up.length + 1) v' x ∧ ∀ D, Keep D (fun _ _ => False) g w ({ σl with ob := a.1 } : St).O g' w ({ σl with ob := a'.1 } : St).O := by
  unfold take2 at e
  split at e
  · rename_i cs
    obtain ⟨r, h2, h3⟩ := map_some e
    simp only [Prod.mk.injEq] at h3
    obtain ⟨rfl, rfl⟩ := h3
    obtain ⟨xs, hv, hxs, hz⟩ := h
    obtain ⟨g3, K3, q3, q4⟩ := takes1_sound Rc hok hnok cs r.1 xs a r.2 g h2 K hxs
    exact ⟨g3, K3, ⟨xs, hv, q3, hz⟩, q4⟩
  · exact take1_sound Rc hok hnok v v' x a a' g e K h
theorem takes2_sound {g1 gL : Gh} {σc σl : St} {tc tl : Array Value} {rc rl : Roots} (Rc : Rel g1 σc tc rc w) (hok : ∀ b, g1.ok b → gL.ok b) (hnok : ∀ b n, g1.own b = some (σc.up.length, n) → ¬ gL.ok b ∧ gL.base ≤ b) :
    ∀ (vs vs' : List V) (xs : List Value) (a a' : Lv × Nat × List Nat) (g : Gh), takes2 pure σc vs a = some (vs', a') → Tk pure g1 gL σc σl tl rl w a g → VRs g1 w σc.O (σc.up.length + 1) vs xs →
      ∃ g', Tk pure g1 gL σc σl tl rl w a' g' ∧ VRs g' w ({ σl with ob := a'.1 } : St).O (σl.up.length + 1) vs' xs ∧ ∀ D, Keep D (fun _ _ => False) g w ({ σl with ob := a.1 } : St).O g' w ({ σl with ob := a'.1 } : St).O
  | [], vs', xs, a, a', g, e, K, h => by
    simp only [takes2, Option.some.injEq, Prod.mk.injEq] at e
    obtain ⟨rfl, rfl⟩ := e
    exact ⟨g, K, h, fun D => Keep.same rfl⟩
  | v :: vs, vs', xs, a, a', g, e, K, h => by
    simp only [takes2] at e
    split at e
    · rename_i v1 a1 h1
      obtain ⟨r, h2, h3⟩ := map_some e
      simp only [Prod.mk.injEq] at h3
      obtain ⟨rfl, rfl⟩ := h3
      obtain ⟨x, xs', rfl, hx, hxs⟩ := h
      obtain ⟨g2, K2, q1, q2⟩ := take2_sound Rc hok hnok v v1 x a a1 g h1 K hx
      obtain ⟨g3, K3, q3, q4⟩ := takes2_sound Rc hok hnok vs r.1 xs' a1 r.2 g2 h2 K2 hxs
      exact ⟨g3, K3, ⟨x, xs', rfl, VR.keep' (q4 _) (Nat.le_refl _) q1, q3⟩, fun D => (q2 D).trans (q4 D)⟩
    · cases e
theorem take_sound {g1 gL : Gh} {σc σl : St} {tc tl : Array Value} {rc rl : Roots} (Rc : Rel g1 σc tc rc w) (hok : ∀ b, g1.ok b → gL.ok b) (hnok : ∀ b n, g1.own b = some (σc.up.length, n) → ¬ gL.ok b ∧ gL.base ≤ b)
    (v v' : V) (x : Value) (a a' : Lv × Nat × List Nat) (g : Gh) (e : take pure σc v a = some (v', a')) (K : Tk pure g1 gL σc σl tl rl w a g) (h : VR g1 w σc.O (σc.up.length + 1) v x) :
      ∃ g', Tk pure g1 gL σc σl tl rl w a' g' ∧ VR g' w ({ σl with ob := a'.1 } : St).O (σl.up.length + 1) v' x := by
  unfold take at e
  split at e
  · rename_i cs
    obtain ⟨r, h2, h3⟩ := map_some e
    simp only [Prod.mk.injEq] at h3
    obtain ⟨rfl, rfl⟩ := h3
    obtain ⟨xs, hv, hxs⟩ := h
    obtain ⟨g3, K3, q3, q4⟩ := takes2_sound Rc hok hnok cs r.1 xs a r.2 g h2 K hxs
    exact ⟨g3, K3, xs, hv, q3⟩
  · obtain ⟨g3, K3, q3, q4⟩ := take2_sound Rc hok hnok v v' x a a' g e K h
    exact ⟨g3, K3, q3⟩
/-- Behind a call whose objects are taken over. -/
theorem Left.backTake {w' : World} {v v' : V} {σc σ₁ : St} {r : Value} {base : Nat} (hrt : ∀ q ∈ rts, q.1 ≤ σ.up.length) (h : Left g (slotRoots σ tmps ++ rts) w (σ.ob :: σ.up) v σc r w') (hb : Vm.back false σ σc v (some base) = some (v', σ₁)) :
    ∃ g', Rel g' σ₁ tmps rts w' ∧ VR g' w' σ₁.O (σ₁.up.length + 1) v' r ∧ Adv g w g' w' ∧ σ₁.up.length = σ.up.length := by
  obtain ⟨g1, tmps', R, hv, Ad, hup⟩ := h
  simp only [List.length_cons] at hup
  unfold Vm.back at hb
  split at hb
  · rename_i heq; cases heq
  · rename_i σl base' hl heq
    cases heq
    split at hb
    · exact Left.merge hrt ⟨g1, tmps', R, hv, Ad, by simp only [List.length_cons]; exact hup⟩ hl hb
    obtain ⟨r2, h2, h3⟩ := map_some hb
    simp only [Prod.mk.injEq] at h3
    obtain ⟨rfl, rfl⟩ := h3
    obtain ⟨R3, K3, hl3⟩ := Rel.leave R hl (by exact hup) hrt
    obtain ⟨g', K', hv'⟩ := take_sound (σl := σl) (gL := g1.low (σ.up.length + 1)) R (fun b hb => hb) (fun b n hb => ⟨(R.own b _ n hb).2.1, (R.own b _ n hb).2.2.1⟩) v r2.1 r (σl.ob, base, []) r2.2 (g1.low (σ.up.length + 1)) h2
      ⟨R3, rfl, rfl, fun b hb => .inl hb, fun b n _ hb => by simp only [Gh.low, hb]; rw [if_neg (by omega)], fun _ => ⟨by rw [hl3]; exact hup, by rw [hl3]; exact K3⟩⟩ hv
    have Al := Ad.low (D := σ.up.length + 1)
    refine ⟨g', K'.rel, hv', ⟨K'.base.trans Al.base, fun b hb => by rw [K'.ok]; exact Al.ok b hb, fun b hb => by rw [K'.ok] at hb; exact Al.okNew b hb, fun b hb => ?_, Al.heap, Al.size, Al.os, Al.tape, Al.output⟩, hl3⟩
    rcases K'.own b hb with h | h
    · exact Al.ownNew b h
    · exact Ad.ownNew b h
  · cases hb
theorem Left.pbackTake {w' : World} {v v' : V} {σc σ₁ : St} {r : Value} {base : Nat} (R : Rel g σ tmps rts w) (h : Left (g.call w) [] w [] v σc r w') (hb : Vm.back true σ σc v (some base) = some (v', σ₁)) :
    ∃ g', Rel g' σ₁ tmps rts w' ∧ VR g' w' σ₁.O (σ₁.up.length + 1) v' r ∧ Adv g w g' w' ∧ σ₁.up.length = σ.up.length := by
  obtain ⟨g1, tmps', R1, hv, Ad, hup⟩ := h
  unfold Vm.back at hb
  simp only [Vm.leave, if_true, Bool.not_true, Bool.false_and, Bool.false_eq_true, if_false] at hb
  obtain ⟨r2, h2, h3⟩ := map_some hb
  simp only [Prod.mk.injEq] at h3
  obtain ⟨rfl, rfl⟩ := h3
  have hheap : ∀ b, b < w.heap.size → w'.heap[b]? = w.heap[b]? := fun b hb => Ad.heap b hb rfl
  have hN : ∀ b, g1.ok b → w.heap.size ≤ b ∧ b < w'.heap.size ∨ g.ok b := fun b hb => by
    rcases Ad.okNew b hb with h | h | h
    · exact .inr h
    · exact .inl ⟨h, R1.okb b hb⟩
    · exact absurd rfl h
  have hnew : ∀ b, g1.own b ≠ none → w.heap.size ≤ b := fun b hb => by
    rcases Ad.ownNew b hb with h | h
    · exact absurd rfl h
    · exact h
  obtain ⟨R3, K3⟩ := R.more (N := g1.ok) hheap Ad.size hN
  obtain ⟨g', K', hv'⟩ := take_sound (σl := σ) (pure := true) (gL := g.more g1.ok) R1 (fun b hb => .inr hb) (fun b n hb => by
    have hge := hnew b (by rw [hb]; simp)
    refine ⟨fun hok => ?_, Nat.le_trans R.base hge⟩
    rcases hok with hok | hok
    · have := R.okb b hok; omega
    · exact (R1.own b _ n hb).2.1 hok) v r2.1 r (σ.ob, base, []) r2.2 (g.more g1.ok) h2
    ⟨R3, rfl, rfl, fun b hb => .inl hb, fun b n _ hb => by
      have hge := hnew b (by rw [hb]; simp)
      cases ho : g.own b with
      | none => exact ho
      | some x => have := (R.own b x.1 x.2 ho).1; omega, fun hp => by cases hp⟩ hv
  refine ⟨g', K'.rel, hv', ⟨K'.base, fun b hb => by rw [K'.ok]; exact .inl hb, fun b hb => ?_, fun b hb => ?_, fun b hb _ => hheap b hb, Ad.size, Ad.os, Ad.tape, Ad.output⟩, rfl⟩
  · rw [K'.ok] at hb
    rcases hb with hb | hb
    · exact .inl hb
    · rcases hN b hb with h | h
      · exact .inr (.inl h.1)
      · exact .inl h
  · rcases K'.own b hb with h | h
    · exact .inl h
    · exact .inr (hnew b h)
end
end Go.Proofs.YtcgjebaomhfbdaaGreat.Vm

/- Every operation of a region; lists of them. -/
namespace Go.Proofs.YtcgjebaomhfbdaaGreat.Vm
open Go
/-- the table of functions is the program's -/
structure EnvOk (P : Program) (E : Env) : Prop where
  fn : ∀ f F, E.fn f = some F → enters P f = true
  ext : ∀ f X, E.ext f = some X → ExtSem P f X
section
variable {P : Program} {E : Env} {g : Gh} {σ : St} {tmps : Array Value} {rts : Roots} {w : World}
theorem okI_call {nt d f : Nat} {as : List X} {rm : Option Nat} {o : Oper} (h : okI P nt (.call d f as rm) o = true) : False := by
  unfold okI at h
  simp only [Bool.and_eq_true] at h
  cases h.2
theorem okI_callv {nt d : Nat} {x : X} {as : List X} {rm : Option Nat} {o : Oper} (h : okI P nt (.callv d x as rm) o = true) : False := by
  unfold okI at h
  simp only [Bool.and_eq_true] at h
  cases h.2
theorem call_wp {nt d : Nat} {o : Oper} {ops : Array Oper} {Q : Exit → Act → World → Prop} {K : Act → World → Prop} {ds : List Deferred} {σ₁ : St} {v' : V} {f n : Nat} {args : Array Value} {g0 : Gh}
    (hgd : Region.wanted o (yielded ops tmps) = true) (hnt : tmps.size = nt) (hd : o.dst = some d) (hlt : d < nt) (he : (execOp (evalT tmps) o).run P w = (callFunc f args).run P w) (hup0 : n = σ.up.length)
    (h : CallSem P f args w fun r w' => ∃ g', Rel g' σ₁ tmps rts w' ∧ VR g' w' σ₁.O (σ₁.up.length + 1) v' r ∧ Adv g0 w g' w' ∧ σ₁.up.length = n)
    (hA : Adv g w g0 w) (hK : ∀ a' w', Next g w rts nt σ.up.length (σ₁.set d v') ds a' w' → K a' w') : OpWp P ops Q o K ⟨tmps, ds⟩ w := by
  subst hup0
  refine CallSem.wp h hgd (by rw [Act.eval_T]; exact he) (fun r w' ⟨g', R, hv, Ad, hup⟩ => ?_)
  refine hK _ _ ⟨g', _, putT_put _ _ _ _, by rw [putT_size, hnt], ?_, hA.trans Ad, by rw [St.up_set, hup]⟩
  rw [hd]
  exact R.set (by rw [hnt]; exact hlt) hv
theorem op_wp {nt : Nat} {i : G} {o : Oper} {ops : Array Oper} {Q : Exit → Act → World → Prop} {K : Act → World → Prop} {ds : List Deferred} {σ' : St} (hE : EnvOk P E) (hok : okG P nt ops i o = true) (h : Rel g σ tmps rts w) (hnt : tmps.size = nt)
    (h1 : Op1 P E σ i σ') (hK : ∀ a' w', Next g w rts nt σ.up.length σ' ds a' w' → K a' w') : OpWp P ops Q o K ⟨tmps, ds⟩ w := by
  cases h1 with
  | step hg hs => exact step_wp hok h hnt hg hs hK
  | skip hg => exact skip_wp hok h hnt hg hK
  | @call d f as rm gd _ F v σc v' σ₁ hg hf hm hF hb =>
    simp only [okG, Bool.and_eq_true, Bool.or_eq_true] at hok
    obtain ⟨hok1, hok2⟩ := hok
    have hwt := wanted_of hok1 h hg
    rcases hok2 with hok2 | hok2
    · exact (okI_call hok2).elim
    · unfold okCall at hok2
      split at hok2
      · rename_i d' f' as' rm' hh ps ts hi hop
        cases hi
        simp only [Bool.and_eq_true, decide_eq_true_eq] at hok2
        obtain ⟨⟨⟨hd, hlt⟩, rfl⟩, hxs⟩ := hok2
        have hen := hE.fn f F hf
        have hv := h.vals hxs
        have hv' : VRs g w σ.O (σ.up.length + 1) (σ.vals as) (ps.map (evalT tmps)).toList := by rw [Array.toList_map]; exact hv
        refine call_wp hwt hnt hd hlt (run_func hop) rfl (CallSem.mono (CallSem.of f hen (hF g _ w _ ?_ (h.enter hv'))) fun r w' hl => ?_) (Adv.refl g w) hK
        · rw [V.shifts_length, VRs.length _ _ hv', Array.length_toList]
        · cases rm with
          | none => exact Left.back (fun r hr => (h.rt r hr).1) hl hb
          | some base => exact Left.backTake (fun r hr => (h.rt r hr).1) hl hb
      · rename_i hi _; cases hi
      · rename_i hi; cases hi
      · cases hok2
  | @callv d x f caps as rm gd _ F v σc v' σ₁ hg hx hf hm hF hb =>
    simp only [okG, Bool.and_eq_true, Bool.or_eq_true] at hok
    obtain ⟨hok1, hok2⟩ := hok
    have hwt := wanted_of hok1 h hg
    rcases hok2 with hok2 | hok2
    · exact (okI_callv hok2).elim
    · unfold okCall at hok2
      split at hok2
      · rename_i hi _; cases hi
      · rename_i d' x' as' rm' p ps ts hi hop
        cases hi
        simp only [Bool.and_eq_true, decide_eq_true_eq] at hok2
        obtain ⟨⟨⟨hd, hlt⟩, hxp⟩, hxs⟩ := hok2
        have hxv := h.val hxp
        rw [hx] at hxv
        obtain ⟨cs, hpv, hcs⟩ := hxv
        have hv := h.vals hxs
        have hv' : VRs g w σ.O (σ.up.length + 1) (clA f (σ.vals as) caps) (clA f (ps.map (evalT tmps)).toList cs).toArray.toList := by
          rw [Array.toList_map]
          unfold clA
          split
          · exact VRs.append _ _ _ _ hcs hv
          · exact VRs.append _ _ _ _ hv hcs
        refine call_wp hwt hnt hd hlt (run_valueB hop hpv (fnV_some hf).1) rfl (CallSem.mono (CallSem.of (clF f) (hE.fn (clF f) F (fnV_some hf).2) (hF g _ w _ ?_ (h.enter hv'))) fun r w' hl => ?_) (Adv.refl g w) hK
        · rw [V.shifts_length, VRs.length _ _ hv', Array.length_toList]
        · cases rm with
          | none => exact Left.back (fun r hr => (h.rt r hr).1) hl hb
          | some base => exact Left.backTake (fun r hr => (h.rt r hr).1) hl hb
      · rename_i hi; cases hi
      · cases hok2
  | @pcall d f as rm gd _ F ms ws ns v σc v' σ₁ hg hf hm hh hF hb =>
    simp only [okG, Bool.and_eq_true, Bool.or_eq_true] at hok
    obtain ⟨hok1, hok2⟩ := hok
    have hwt := wanted_of hok1 h hg
    rcases hok2 with hok2 | hok2
    · exact (okI_call hok2).elim
    · unfold okCall at hok2
      split at hok2
      · rename_i d' f' as' rm' hhh ps ts hi hop
        cases hi
        simp only [Bool.and_eq_true, decide_eq_true_eq] at hok2
        obtain ⟨⟨⟨hd, hlt⟩, rfl⟩, hxs⟩ := hok2
        have hen := hE.fn f F hf
        have hv := h.vals hxs
        have hv' : VRs g w σ.O (σ.up.length + 1) (σ.vals as) (ps.map (evalT tmps)).toList := by rw [Array.toList_map]; exact hv
        obtain ⟨g1, R1, A1, R2, hlen⟩ := h.pure hh hv'
        refine call_wp (n := (σ.frz ns).up.length) hwt hnt hd hlt (run_func hop) (by rw [St.up_frz]) (CallSem.mono (CallSem.of f hen (hF (g1.call w) [] w _ hlen R2)) fun r w' hl => ?_) A1 hK
        cases rm with
        | none => exact Left.pback R1 hl hb
        | some base => exact Left.pbackTake R1 hl hb
      · rename_i hi _; cases hi
      · rename_i hi; cases hi
      · cases hok2
  | @ext d f as rm gd _ X v' σ₁ hg hf hX hr =>
    simp only [okG, Bool.and_eq_true, Bool.or_eq_true] at hok
    obtain ⟨hok1, hok2⟩ := hok
    have hwt := wanted_of hok1 h hg
    rcases hok2 with hok2 | hok2
    · exact (okI_call hok2).elim
    · unfold okCall at hok2
      split at hok2
      · rename_i d' f' as' rm' hh ps ts hi hop
        cases hi
        simp only [Bool.and_eq_true, decide_eq_true_eq] at hok2
        obtain ⟨⟨⟨hd, hlt⟩, rfl⟩, hxs⟩ := hok2
        have hv := h.vals hxs
        have hv' : VRs g w σ.O (σ.up.length + 1) (σ.vals as) (ps.map (evalT tmps)).toList := by rw [Array.toList_map]; exact hv
        exact call_wp hwt hnt hd hlt (run_func hop) rfl (hE.ext f X hX σ (σ.vals as) rm v' σ₁ g tmps rts w _ hr h hv') (Adv.refl g w) hK
      · rename_i hi _; cases hi
      · rename_i hi; cases hi
      · cases hok2
/-- A list of operations, in the order of its places. -/
inductive OkL (P : Program) (nt : Nat) (ops : Array Oper) : List G → List Nat → Prop
  | nil : OkL P nt ops [] []
  | cons {i is j js o} (hj : ops[j]? = some o) (ho : okG P nt ops i o = true) (h : OkL P nt ops is js) : OkL P nt ops (i :: is) (j :: js)
theorem Next.trans {nt n : Nat} {σ₁ σ₂ : St} {ds : List Deferred} {a' : Act} {w1 w2 : World} {g1 : Gh} (A : Adv g w g1 w1) (hn : σ₁.up.length = n) (h : Next g1 w1 rts nt σ₁.up.length σ₂ ds a' w2) : Next g w rts nt n σ₂ ds a' w2 := by
  obtain ⟨g2, tmps2, ha, hs, R, A2, hup⟩ := h
  exact ⟨g2, tmps2, ha, hs, R, A.trans A2, by rw [hup, hn]⟩
theorem ops_wp (hE : EnvOk P E) {nt : Nat} {ops : Array Oper} {Q : Exit → Act → World → Prop} {ds : List Deferred} {is : List G} {σ' : St} (h1 : Ops1 P E σ is σ') : ∀ {js : List Nat} {g : Gh} {tmps : Array Value} {w : World}, OkL P nt ops is js →
    Rel g σ tmps rts w → tmps.size = nt → (∀ a' w', Next g w rts nt σ.up.length σ' ds a' w' → Q .normal a' w') → wpOps P ops Q js ⟨tmps, ds⟩ w := by
  induction h1 with
  | nil =>
    intro js g tmps w hL h hnt hQ
    cases hL
    exact hQ _ _ ⟨g, tmps, rfl, hnt, h, Adv.refl g w, rfl⟩
  | @cons σ σ₁ σ' i is h1 hr ih =>
    intro js g tmps w hL h hnt hQ
    cases hL with
    | @cons _ _ j js o hj ho hL =>
      unfold wpOps
      simp only [hj]
      refine OpWp.plain (op_wp (K := wpOps P ops Q js) hE ho h hnt h1 (fun a' w' hn => ?_))
      obtain ⟨g1, tmps1, rfl, hs1, R1, A1, hup1⟩ := hn
      refine ih hL R1 hs1 (fun a2 w2 hn2 => hQ _ _ ?_)
      exact hn2.trans A1 hup1
end
end Go.Proofs.YtcgjebaomhfbdaaGreat.Vm

/- Operations that may change places: slots. -/
namespace Go.Proofs.YtcgjebaomhfbdaaGreat.Vm
open Go
def X.slots : X → List Nat
  | .t n => [n]
  | .c _ => []
def Xo.slots : Option X → List Nat
  | some x => x.slots
  | none => []
def Xs.slots : List X → List Nat
  | [] => []
  | x :: xs => x.slots ++ Xs.slots xs
/-- the slots that an operation looks at -/
def I.reads : I → List Nat
  | .mv _ x | .un _ _ x | .cvt _ _ x | .box _ _ x _ | .load _ x _ | .fad _ x _ _ | .fval _ x _ _ | .len _ x | .xt _ x _ | .chk _ x | .clr _ x _ | .stx _ _ x => x.slots
  | .nilr _ _ _ | .alloc _ _ _ | .bad => []
  | .pick _ c a b => c.slots ++ (a.slots ++ b.slots)
  | .bin _ _ x y | .beq _ _ x y | .eqs _ _ _ x y | .store x y _ | .ix _ x y _ | .ixb _ x y _ _ | .ixa _ x y _ _ | .mks _ _ _ x y _ | .app _ _ _ x y | .cpy _ _ x y | .mkl _ _ _ _ x y _ | .apl _ _ _ _ x y | .ixv _ x y | .apv _ _ x y => x.slots ++ y.slots
  | .bld _ _ ps => Xs.slots (ps.map (·.2.2))
  | .bsl _ _ _ _ _ ps => Xs.slots (ps.map (·.2))
  | .slc _ _ x a b c => x.slots ++ (Xo.slots a ++ (Xo.slots b ++ Xo.slots c))
  | .mx _ x xs | .mn _ x xs | .callv _ x xs _ => x.slots ++ Xs.slots xs
  | .fn _ _ xs | .call _ _ xs _ | .bsv _ _ xs => Xs.slots xs
def G.reads (i : G) : List Nat := (match i.g with | some (t, _) => [t] | none => []) ++ i.i.reads
section
variable {σ τ : St}
theorem St.get_set_ne {d t : Nat} {v : V} (h : t ≠ d) : (σ.set d v).get t = σ.get t := by rw [St.get_set, if_neg (fun e => h e.symm)]
theorem val_set {d : Nat} {v : V} {x : X} (h : d ∉ x.slots) : (σ.set d v).val x = σ.val x := by
  cases x with
  | t n => exact St.get_set_ne (fun e => h (by simp [X.slots, e]))
  | c _ => rfl
theorem valo_set {d : Nat} {v : V} {x : Option X} (h : d ∉ Xo.slots x) : x.map (σ.set d v).val = x.map σ.val := by
  cases x with
  | none => rfl
  | some x => simp only [Option.map_some]; rw [val_set h]
theorem vals_set {d : Nat} {v : V} : ∀ {xs : List X}, d ∉ Xs.slots xs → (σ.set d v).vals xs = σ.vals xs
  | [], _ => rfl
  | x :: xs, h => by
    simp only [Xs.slots, List.mem_append, not_or] at h
    have := vals_set (v := v) (xs := xs) h.2
    simp only [St.vals, List.map_cons] at this ⊢
    rw [val_set h.1, this]
theorem st_comm {α : Type} (e : α) : ∀ (l : List α) (i j : Nat) (a b : α), i ≠ j → st e (st e l i a) j b = st e (st e l j b) i a
  | [], 0, 0, _, _, h => absurd rfl h
  | [], 0, j + 1, a, b, _ => rfl
  | [], i + 1, 0, a, b, _ => rfl
  | [], i + 1, j + 1, a, b, h => by simp only [st]; rw [st_comm e [] i j a b (by omega)]
  | x :: l, 0, 0, _, _, h => absurd rfl h
  | x :: l, 0, j + 1, a, b, _ => rfl
  | x :: l, i + 1, 0, a, b, _ => rfl
  | x :: l, i + 1, j + 1, a, b, h => by simp only [st]; rw [st_comm e l i j a b (by omega)]
theorem set_comm {d e : Nat} {v x : V} (h : d ≠ e) : (σ.set d v).set e x = (σ.set e x).set d v := by
  simp only [St.set]; rw [st_comm .u σ.sl d e v x h]
theorem setObj_set {d l n : Nat} {v : V} {o : Option Ob} : (σ.set d v).setObj l n o = (σ.setObj l n o).set d v := by cases l <;> rfl
theorem new_set {d n : Nat} {v : V} {o : Ob} : (σ.set d v).new n o = (σ.new n o).map (·.set d v) := by
  unfold St.new
  rw [St.obj_set]
  cases σ.obj 0 n with
  | none => simp [setObj_set]
  | some o => rfl
theorem newL_set {d l n : Nat} {v : V} {o : Ob} : (σ.set d v).newL l n o = (σ.newL l n o).map (·.set d v) := by
  unfold St.newL
  rw [St.obj_set, show (σ.set d v).up = σ.up from rfl]
  split
  · cases σ.obj l n with
    | none => simp [setObj_set]
    | some o => rfl
  · rfl
theorem rowOf_set {d l n lo len : Nat} {v : V} : (σ.set d v).rowOf l n lo len = σ.rowOf l n lo len := by unfold St.rowOf; rw [St.obj_set]
theorem els_set {d s : Nat} {v x : V} : (σ.set d v).els s x = σ.els s x := by
  unfold St.els
  simp only [rowOf_set]
mutual
theorem toT_set {d : Nat} {v : V} : ∀ x : V, (σ.set d v).toT x = σ.toT x
  | .ag cs => by simp only [St.toT, toTs_set cs]
  | .row l n lo len s => by simp only [St.toT, St.obj_set]
  | .d true _ | .d false _ | .dx true _ | .dx false _ | .nil _ | .ptr .. | .rel .. | .pd _ | .tp _ | .cl .. | .u => by simp only [St.toT]
theorem toTs_set {d : Nat} {v : V} : ∀ xs : List V, (σ.set d v).toTs xs = σ.toTs xs
  | [] => by simp only [St.toTs]
  | x :: xs => by simp only [St.toTs, toT_set x, toTs_set xs]
end
theorem frz1_set {d n : Nat} {v : V} : (σ.set d v).frz1 n = (σ.frz1 n).set d v := by
  unfold St.frz1
  rw [St.obj_set]
  split <;> first | exact setObj_set | rfl
theorem frz_set {d : Nat} {v : V} : ∀ (ns : List Nat) {σ : St}, (σ.set d v).frz ns = (σ.frz ns).set d v
  | [], _ => rfl
  | n :: ns, σ => by
    show ((σ.set d v).frz1 n).frz ns = ((σ.frz1 n).frz ns).set d v
    rw [frz1_set]
    exact frz_set ns
theorem load_set {d k : Nat} {v x : V} : (σ.set d v).load x k = σ.load x k := by
  unfold St.load
  simp only [St.obj_set]
theorem ix_set {d s : Nat} {v x i : V} : (σ.set d v).ix x i s = σ.ix x i s := by
  unfold St.ix
  simp only [St.obj_set]
theorem store_set {d k : Nat} {v x y : V} : (σ.set d v).store x y k = (σ.store x y k).map (·.set d v) := by
  unfold St.store
  split
  · simp only [St.obj_set]
    split
    · split
      · simp [setObj_set]
      · rfl
    · rfl
  · simp only [toT_set]
    split
    · simp only [frz_set, St.obj_set]
      split
      · split
        · simp [setObj_set]
        · rfl
      · rfl
    · rfl
  · rfl
theorem zcells_set {d : Nat} {v : V} : ∀ (zs : List Z) {σ : St}, zcells (σ.set d v) zs = (zcells σ zs).map fun p => (p.1, p.2.set d v)
  | [], _ => rfl
  | z :: zs, σ => by
    simp only [zcells]
    rw [zcells_set zs]
    cases zcells σ zs with
    | none => rfl
    | some p =>
      obtain ⟨vs, τ⟩ := p
      simp only [Option.map_some]
      cases z with
      | k t => rfl
      | n s => rfl
      | u => rfl
      | r nm s =>
        simp only [new_set]
        cases τ.new nm (.rw s [] false) <;> rfl
theorem map_set {d e : Nat} {v : V} {o : Option V} (h : d ≠ e) : o.map ((σ.set d v).set e) = (o.map (σ.set e)).map (·.set d v) := by
  cases o with
  | none => rfl
  | some x => simp [set_comm h]
theorem new_map {d e n : Nat} {v x : V} {o : Ob} (h : d ≠ e) : ((σ.set d v).new n o).map (fun σ => σ.set e x) = ((σ.new n o).map (fun σ => σ.set e x)).map (·.set d v) := by
  rw [new_set]
  cases σ.new n o with
  | none => rfl
  | some τ => simp [set_comm h]
theorem newL_map {d e l n : Nat} {v x : V} {o : Ob} (h : d ≠ e) : ((σ.set d v).newL l n o).map (fun σ => σ.set e x) = ((σ.newL l n o).map (fun σ => σ.set e x)).map (·.set d v) := by
  rw [newL_set]
  cases σ.newL l n o with
  | none => rfl
  | some τ => simp [set_comm h]
/-- An operation neither sees nor touches another slot. -/
theorem step_set {d : Nat} {v : V} {i : I} (hr : d ∉ i.reads) (hd : i.dst ≠ some d) : step (σ.set d v) i = (step σ i).map (·.set d v) := by
  have ne : ∀ e, i.dst = some e → d ≠ e := fun e he h => hd (by rw [he, h])
  cases i with
  | mv e x =>
    simp only [I.reads] at hr
    simp only [step, val_set hr, Option.map_some, set_comm (ne e rfl)]
  | nilr e nm s => simp only [step]; exact new_map (ne e rfl)
  | pick e c a b =>
    simp only [I.reads, List.mem_append, not_or] at hr
    simp only [step, val_set hr.1, val_set hr.2.1, val_set hr.2.2]
    split
    · simp [set_comm (ne e rfl)]
    · rfl
  | bin e op x y =>
    simp only [I.reads, List.mem_append, not_or] at hr
    simp only [step, val_set hr.1, val_set hr.2]
    exact map_set (ne e rfl)
  | beq e n x y =>
    simp only [I.reads, List.mem_append, not_or] at hr
    simp only [step, val_set hr.1, val_set hr.2]
    exact map_set (ne e rfl)
  | eqs e n ks x y =>
    simp only [I.reads, List.mem_append, not_or] at hr
    simp only [step, val_set hr.1, val_set hr.2]
    split
    · cases eqs _ _ _ with
      | none => rfl
      | some b => simp [set_comm (ne e rfl)]
    · rfl
  | un e op x =>
    simp only [I.reads] at hr
    simp only [step, val_set hr]
    exact map_set (ne e rfl)
  | cvt e k x =>
    simp only [I.reads] at hr
    simp only [step, val_set hr]
    split
    · simp [set_comm (ne e rfl)]
    · rfl
  | alloc e nm z =>
    simp only [step, zcells_set]
    cases zcells σ z with
    | none => rfl
    | some p => obtain ⟨cs, τ⟩ := p; simp only [Option.map_some]; exact new_map (ne e rfl)
  | box e nm x k =>
    simp only [I.reads] at hr
    simp only [step, val_set hr]
    split
    · exact new_map (ne e rfl)
    · rfl
  | load e x k =>
    simp only [I.reads] at hr
    simp only [step, val_set hr, load_set]
    exact map_set (ne e rfl)
  | store x y k =>
    simp only [I.reads, List.mem_append, not_or] at hr
    simp only [step, val_set hr.1, val_set hr.2]
    exact store_set
  | fad e x off k =>
    simp only [I.reads] at hr
    simp only [step, val_set hr]
    exact map_set (ne e rfl)
  | fval e x off k =>
    simp only [I.reads] at hr
    simp only [step, val_set hr]
    split
    · exact map_set (ne e rfl)
    · rfl
  | ix e x j s =>
    simp only [I.reads, List.mem_append, not_or] at hr
    simp only [step, val_set hr.1, val_set hr.2, ix_set]
    exact map_set (ne e rfl)
  | ixb e x j n s =>
    simp only [I.reads, List.mem_append, not_or] at hr
    simp only [step, val_set hr.1, val_set hr.2]
    split
    · cases natOf _ _ with
      | none => rfl
      | some b => simp [set_comm (ne e rfl)]
    · rfl
  | stx e bs x => simp only [I.reads] at hr; simp only [step, val_set hr]; exact map_set (ne e rfl)
  | ixa e x j n k =>
    simp only [I.reads, List.mem_append, not_or] at hr
    simp only [step, val_set hr.1, val_set hr.2]
    split
    · exact map_set (ne e rfl)
    · rfl
  | bld e z ps =>
    simp only [I.reads] at hr
    simp only [step]
    have hp : (ps.map fun (o, w, x) => (o, w, (σ.set d v).val x)) = ps.map fun (o, w, x) => (o, w, σ.val x) := by
      refine List.map_congr_left fun p hp => ?_
      obtain ⟨o, w, x⟩ := p
      have : d ∉ x.slots := fun hx => hr (by
        clear ne hd hr
        induction ps with
        | nil => cases hp
        | cons q ps ih =>
          simp only [List.map_cons, Xs.slots, List.mem_append]
          rcases List.mem_cons.1 hp with rfl | hp
          · exact .inl hx
          · exact .inr (ih hp))
      simp only [val_set this]
    rw [hp]
    split
    · cases fill _ _ with
      | none => rfl
      | some b => simp [set_comm (ne e rfl)]
    · rfl
  | bsl e nm s n z ps =>
    simp only [I.reads] at hr
    simp only [step]
    have hp : (ps.map fun p => (σ.set d v).val p.2) = ps.map fun p => σ.val p.2 := by
      refine List.map_congr_left fun p hp => ?_
      have : d ∉ p.2.slots := fun hx => hr (by
        clear ne hd hr
        induction ps with
        | nil => cases hp
        | cons q ps ih =>
          simp only [List.map_cons, Xs.slots, List.mem_append]
          rcases List.mem_cons.1 hp with rfl | hp
          · exact .inl hx
          · exact .inr (ih hp))
      rw [val_set this]
    rw [hp, toTs_set]
    split
    · split
      · rw [frz_set]; exact new_map (ne e rfl)
      · rfl
    · rfl
  | mks e nm s n c z =>
    simp only [I.reads, List.mem_append, not_or] at hr
    simp only [step, val_set hr.1, val_set hr.2]
    split
    · split
      · exact new_map (ne e rfl)
      · rfl
    · rfl
  | mkl e l nm s n c z =>
    simp only [I.reads, List.mem_append, not_or] at hr
    simp only [step, val_set hr.1, val_set hr.2]
    split
    · split
      · exact newL_map (ne e rfl)
      · rfl
    · rfl
  | apl e l nm s x y =>
    simp only [I.reads, List.mem_append, not_or] at hr
    simp only [step, val_set hr.1, val_set hr.2]
    unfold St.apl
    split
    · rw [els_set]
      split
      · rfl
      · split
        · exact newL_map (ne e rfl)
        · rfl
    · unfold St.app
      rw [els_set]
      split
      · rfl
      · simp only
        split
        · rw [St.obj_set]
          split
          · split
            · simp [setObj_set, set_comm (ne e rfl)]
            · rfl
          · rfl
        · rfl
    · rfl
  | ixv e x i =>
    simp only [I.reads, List.mem_append, not_or] at hr
    simp only [step, val_set hr.1, val_set hr.2]
    rw [show (σ.set d v).ixv (σ.val x) (σ.val i) = σ.ixv (σ.val x) (σ.val i) from by unfold St.ixv; simp only [St.obj_set]]
    exact map_set (ne e rfl)
  | bsv e nm xs =>
    simp only [I.reads] at hr
    simp only [step, vals_set hr]
    split
    · exact new_map (ne e rfl)
    · rfl
  | apv e nm x y =>
    simp only [I.reads, List.mem_append, not_or] at hr
    simp only [step, val_set hr.1, val_set hr.2]
    unfold St.apv
    simp only [St.obj_set, setObj_set]
    split
    · split
      · split
        · split
          · split
            · split
              · exact new_map (ne e rfl)
              · rfl
            · split
              · split
                · split
                  · exact new_map (ne e rfl)
                  · rfl
                · rfl
              · rfl
            · rfl
          · rfl
        · rfl
      · rfl
    · rfl
  | slc e s x lo hi mx =>
    simp only [I.reads, List.mem_append, not_or] at hr
    simp only [step, val_set hr.1, valo_set hr.2.1, valo_set hr.2.2.1, valo_set hr.2.2.2]
    exact map_set (ne e rfl)
  | len e x =>
    simp only [I.reads] at hr
    simp only [step, val_set hr]
    cases lenOf _ with
    | none => rfl
    | some n => simp [set_comm (ne e rfl)]
  | mx e x xs =>
    simp only [I.reads, List.mem_append, not_or] at hr
    simp only [step, val_set hr.1, vals_set hr.2]
    exact map_set (ne e rfl)
  | mn e x xs =>
    simp only [I.reads, List.mem_append, not_or] at hr
    simp only [step, val_set hr.1, vals_set hr.2]
    exact map_set (ne e rfl)
  | app e nm s x y =>
    simp only [I.reads, List.mem_append, not_or] at hr
    simp only [step, val_set hr.1, val_set hr.2]
    unfold St.app
    rw [els_set]
    split
    · rfl
    · split
      · split
        · exact new_map (ne e rfl)
        · rfl
      · split
        · exact new_map (ne e rfl)
        · rfl
      · rw [St.obj_set]
        split
        · split
          · split
            · simp [setObj_set, set_comm (ne e rfl)]
            · rfl
          · rfl
        · rfl
      · rfl
  | cpy e s x y =>
    simp only [I.reads, List.mem_append, not_or] at hr
    simp only [step, val_set hr.1, val_set hr.2]
    unfold St.cpy
    rw [els_set]
    split
    · simp only [St.obj_set]
      split
      · split
        · split
          · simp [setObj_set, set_comm (ne e rfl)]
          · rfl
        · rfl
      · rfl
    · rfl
  | clr s x z =>
    simp only [I.reads] at hr
    simp only [step, val_set hr]
    cases z.t? with
    | none => rfl
    | some t =>
      simp only [Option.bind_some]
      unfold St.clr
      split
      · simp only [St.obj_set]
        split
        · split
          · split
            · simp [setObj_set]
            · rfl
          · rfl
        · rfl
      · rfl
      · rfl
  | xt e x j =>
    simp only [I.reads] at hr
    simp only [step, val_set hr]
    split
    · exact map_set (ne e rfl)
    · rfl
  | fn e f xs =>
    simp only [I.reads] at hr
    simp only [step, vals_set hr, Option.map_some, set_comm (ne e rfl)]
  | chk e x =>
    simp only [I.reads] at hr
    simp only [step, val_set hr]
    cases chkV (σ.val x) with
    | none => rfl
    | some v => simp [set_comm (ne e rfl)]
  | call => rfl
  | callv => rfl
  | bad => rfl
end
end Go.Proofs.YtcgjebaomhfbdaaGreat.Vm

/- Operations that may change places: what is read. -/
namespace Go.Proofs.YtcgjebaomhfbdaaGreat.Vm
open Go
/-- what is read of an object -/
def St.boxOf (σ : St) (l n : Nat) : Option (List V) := match σ.obj l n with
  | some (.box cs) => some cs
  | _ => none
def St.relOf (σ : St) (l n i : Nat) : Option T := match σ.obj l n with
  | some (.rw _ es _) | some (.fz _ es) => es[i]?
  | _ => none
mutual
/-- a value reads the same in two states -/
def SimV (σ τ : St) : V → Prop
  | .row l n lo len _ => τ.rowOf l n lo len = σ.rowOf l n lo len
  | .ptr l n _ => τ.boxOf l n = σ.boxOf l n
  | .rel l n i _ => τ.relOf l n i = σ.relOf l n i
  | .ag cs => SimVs σ τ cs
  | _ => True
def SimVs (σ τ : St) : List V → Prop
  | [] => True
  | v :: vs => SimV σ τ v ∧ SimVs σ τ vs
end
mutual
def V.plain : V → Bool
  | .row .. | .ptr .. | .rel .. => false
  | .ag cs => V.plains cs
  | _ => true
def V.plains : List V → Bool
  | [] => true
  | v :: vs => V.plain v && V.plains vs
end
def X.plain : X → Bool
  | .t _ => true
  | .c v => v.plain
def I.isN : I → Bool
  | .mv .. | .pick .. | .bin .. | .beq .. | .eqs .. | .un .. | .cvt .. | .fad .. | .fval .. | .ixb .. | .ixa .. | .stx .. | .bld .. | .slc .. | .len .. | .mx .. | .mn .. | .xt .. | .fn .. | .chk .. => true
  | _ => false
def I.isR : I → Bool
  | .load _ x _ => x.plain
  | .ix _ x _ _ => x.plain
  | _ => false
def I.isP (E : Env) : I → Bool
  | .call _ f as none => as.all X.plain && (match E.fn f with
    | some F => (match F.pure with
      | some ms => ms.all (! ·)
      | none => false)
    | none => true)
  | _ => false
section
variable {σ τ : St}
mutual
theorem V.plain_sim : ∀ v : V, v.plain = true → SimV σ τ v
  | .row .., h | .ptr .., h | .rel .., h => by simp [V.plain] at h
  | .ag cs, h => V.plains_sim cs (by simpa [V.plain] using h)
  | .d .., _ | .dx .., _ | .nil _, _ | .pd _, _ | .tp _, _ | .cl .., _ | .u, _ => trivial
theorem V.plains_sim : ∀ vs : List V, V.plains vs = true → SimVs σ τ vs
  | [], _ => trivial
  | v :: vs, h => by
    simp only [V.plains, Bool.and_eq_true] at h
    exact ⟨V.plain_sim v h.1, V.plains_sim vs h.2⟩
end
/-- the value of a slot operation or of a reading one -/
def evN (σ : St) : I → Option V
  | .mv _ x => some (σ.val x)
  | .pick _ c a b => match σ.val c with
    | .d _ (.bool t) => some (if t then σ.val a else σ.val b)
    | _ => none
  | .bin _ op x y => bin op (σ.val x) (σ.val y)
  | .beq _ ne x y => beq ne (σ.val x) (σ.val y)
  | .eqs _ ne ks x y => match σ.val x, σ.val y with
    | .ag as, .ag bs => (eqs ks as bs).map fun b => dBool (b != ne)
    | _, _ => none
  | .un _ op x => un op (σ.val x)
  | .cvt _ k x => match σ.val x with
    | .d _ (.int _ n) => some (.d true (.int k (k.wrap n)))
    | _ => none
  | .load _ x w => σ.load (σ.val x) w
  | .fad _ x off w => fad (σ.val x) off w
  | .fval _ x off w => match σ.val x with
    | .ag cs => (sub? off (wid w) cs).bind (ofCells w)
    | _ => none
  | .ix _ x i s => σ.ix (σ.val x) (σ.val i) s
  | .ixb _ x i n s => match σ.val x with
    | .ptr l m off => (natOf n (σ.val i)).map fun j => .ptr l m (off + j * s)
    | _ => none
  | .ixa _ x i n w => match σ.val x with
    | .ag cs => (natOf n (σ.val i)).bind fun j => (sub? (j * wid w) (wid w) cs).bind (ofCells w)
    | _ => none
  | .stx _ bs i => Vm.stx bs (σ.val i)
  | .bld _ z ps => match z.mapM Z.v with
    | some cs => (fill cs (ps.map fun (o, w, x) => (o, w, σ.val x))).map .ag
    | none => none
  | .slc _ s x lo hi mx => St.slc s (σ.val x) (lo.map σ.val) (hi.map σ.val) (mx.map σ.val)
  | .len _ x => (lenOf (σ.val x)).map fun (n : Nat) => dInt (n : Int)
  | .mx _ x xs => maxOf true (σ.val x) (σ.vals xs)
  | .mn _ x xs => maxOf false (σ.val x) (σ.vals xs)
  | .xt _ x i => match σ.val x with
    | .tp vs => vs[i]?
    | _ => none
  | .fn _ f caps => some (.cl f (σ.vals caps))
  | .chk _ x => chkV (σ.val x)
  | _ => none
theorem step_evN {i : I} (h : i.isN = true ∨ i.isR = true) : ∃ d, i.dst = some d ∧ step σ i = (evN σ i).map (σ.set d) := by
  cases i with
  | pick d c a b => exact ⟨d, rfl, by simp only [step, evN]; split <;> split <;> simp_all <;> rfl⟩
  | eqs d n ks x y => exact ⟨d, rfl, by simp only [step, evN]; split <;> split <;> simp_all <;> rfl⟩
  | cvt d k x => exact ⟨d, rfl, by simp only [step, evN]; split <;> split <;> simp_all <;> rfl⟩
  | fval d x off k => exact ⟨d, rfl, by simp only [step, evN]; split <;> split <;> simp_all <;> rfl⟩
  | ixb d x j n s => exact ⟨d, rfl, by simp only [step, evN]; split <;> split <;> simp_all <;> rfl⟩
  | ixa d x j n k => exact ⟨d, rfl, by simp only [step, evN]; split <;> split <;> simp_all <;> rfl⟩
  | bld d z ps => exact ⟨d, rfl, by simp only [step, evN]; split <;> split <;> simp_all <;> rfl⟩
  | len d x => exact ⟨d, rfl, by simp only [step, evN]; cases lenOf (σ.val x) <;> rfl⟩
  | xt d x j => exact ⟨d, rfl, by simp only [step, evN]; split <;> split <;> simp_all <;> rfl⟩
  | chk d x => exact ⟨d, rfl, rfl⟩
  | mv d x => exact ⟨d, rfl, rfl⟩
  | stx d bs x => exact ⟨d, rfl, rfl⟩
  | bin d op x y => exact ⟨d, rfl, rfl⟩
  | beq d op x y => exact ⟨d, rfl, rfl⟩
  | un d op x => exact ⟨d, rfl, rfl⟩
  | load d x k => exact ⟨d, rfl, rfl⟩
  | fad d x o k => exact ⟨d, rfl, rfl⟩
  | ix d x j s => exact ⟨d, rfl, rfl⟩
  | slc d s x a b c => exact ⟨d, rfl, rfl⟩
  | mx d x xs => exact ⟨d, rfl, rfl⟩
  | mn d x xs => exact ⟨d, rfl, rfl⟩
  | fn d f xs => exact ⟨d, rfl, rfl⟩
  | _ => simp [I.isN, I.isR] at h
theorem val_agr {x : X} (h : ∀ t ∈ x.slots, τ.get t = σ.get t) : τ.val x = σ.val x := by
  cases x with
  | t n => exact h n (by simp [X.slots])
  | c _ => rfl
theorem valo_agr {x : Option X} (h : ∀ t ∈ Xo.slots x, τ.get t = σ.get t) : x.map τ.val = x.map σ.val := by
  cases x with
  | none => rfl
  | some x => simp only [Option.map_some]; rw [val_agr h]
theorem vals_agr : ∀ {xs : List X}, (∀ t ∈ Xs.slots xs, τ.get t = σ.get t) → τ.vals xs = σ.vals xs
  | [], _ => rfl
  | x :: xs, h => by
    have := vals_agr (xs := xs) fun t ht => h t (by simp [Xs.slots, ht])
    simp only [St.vals, List.map_cons] at this ⊢
    rw [this, val_agr fun t ht => h t (by simp [Xs.slots, ht])]
theorem load_box {l n off k : Nat} : σ.load (.ptr l n off) k = match σ.boxOf l n with
    | some cs => (match sub? off (wid k) cs with
      | some cs => ofCells k (V.shifts l cs)
      | none => none)
    | none => none := by
  simp only [St.load, St.boxOf]
  cases σ.obj l n with
  | none => rfl
  | some o => cases o <;> rfl
theorem load_rel {l n i off k : Nat} : σ.load (.rel l n i off) k = match σ.relOf l n i with
    | some t => (match sub? off (wid k) t.cells with
      | some cs => ofCells k (cs.map (.d true))
      | none => none)
    | none => none := by
  simp only [St.load, St.relOf]
  cases σ.obj l n with
  | none => rfl
  | some o => cases o <;> rfl
theorem load_sim {v : V} {k : Nat} (h : SimV σ τ v) : τ.load v k = σ.load v k := by
  cases v with
  | ptr l n off => simp only [SimV] at h; rw [load_box, load_box, h]
  | rel l n i off => simp only [SimV] at h; rw [load_rel, load_rel, h]
  | _ => rfl
theorem ix_row {l n lo len s' s : Nat} {i : V} : σ.ix (.row l n lo len s') i s = if s = s' then (natOf len i).bind fun j => (σ.rowOf l n lo len).map fun _ => .rel l n (lo + j) 0 else none := by
  simp only [St.ix, St.rowOf]
  split
  · congr 1
    funext j
    cases σ.obj l n with
    | none => rfl
    | some o =>
      cases o with
      | box cs => rfl
      | rw s es gr => simp only; split <;> rfl
      | fz s es => simp only; split <;> rfl
      | gone => rfl
  · rfl
theorem ix_sim {v i : V} {s : Nat} (h : SimV σ τ v) : τ.ix v i s = σ.ix v i s := by
  cases v with
  | row l n lo len s' => simp only [SimV] at h; rw [ix_row, ix_row, h]
  | d p t => cases t <;> rfl
  | dx p t => cases t <;> rfl
  | _ => rfl
theorem lend1_sim {v : V} (h : SimV σ τ v) : τ.lend1 v = σ.lend1 v := by
  unfold St.lend1
  cases v with
  | row l n lo len s => simp only [SimV] at h; simp only [h]
  | d p t => cases t <;> rfl
  | dx p t => cases t <;> rfl
  | cl f cs => cases cs <;> rfl
  | _ => rfl
theorem lends_sim : ∀ {vs : List V}, SimVs σ τ vs → τ.lends vs = σ.lends vs
  | [], _ => rfl
  | v :: vs, h => by simp only [St.lends, lend1_sim h.1, lends_sim h.2]
theorem lend_sim {v : V} (h : SimV σ τ v) : τ.lend v = σ.lend v := by
  cases v with
  | ag cs => simp only [St.lend]; rw [lends_sim h]
  | _ => simp only [St.lend]; exact lend1_sim h
theorem hand_sim : ∀ {vs : List V} {ms : List Bool}, ms.all (! ·) = true → SimVs σ τ vs → τ.hand vs ms = σ.hand vs ms
  | [], [], _, _ => rfl
  | [], _ :: _, _, _ => rfl
  | _ :: _, [], _, _ => rfl
  | v :: vs, m :: ms, hm, h => by
    simp only [List.all_cons, Bool.and_eq_true] at hm
    cases m with
    | true => cases hm.1
    | false => simp only [St.hand, hand_sim hm.2 h.2, lend_sim h.1]
theorem hand_none : ∀ {vs : List V} {ms : List Bool} {ws : List V} {ns : List Nat}, ms.all (! ·) = true → σ.hand vs ms = some (ws, ns) → ns = []
  | [], [], ws, ns, _, e => by simp only [St.hand, Option.some.injEq, Prod.mk.injEq] at e; exact e.2.symm
  | [], _ :: _, _, _, _, e => by simp [St.hand] at e
  | _ :: _, [], _, _, _, e => by simp [St.hand] at e
  | v :: vs, m :: ms, ws, ns, hm, e => by
    simp only [List.all_cons, Bool.and_eq_true] at hm
    cases m with
    | true => cases hm.1
    | false =>
      simp only [St.hand] at e
      split at e
      · cases e
      · rename_i ws1 ns1 e1
        obtain ⟨w1, _, e2⟩ := map_some e
        simp only [Prod.mk.injEq] at e2
        obtain ⟨_, rfl⟩ := e2
        exact hand_none hm.2 e1
theorem vals_sim : ∀ {xs : List X}, xs.all X.plain = true → (∀ t ∈ Xs.slots xs, SimV σ τ (σ.get t)) → SimVs σ τ (σ.vals xs)
  | [], _, _ => trivial
  | x :: xs, hp, h => by
    simp only [List.all_cons, Bool.and_eq_true] at hp
    refine ⟨?_, vals_sim (xs := xs) hp.2 fun t ht => h t (by simp [Xs.slots, ht])⟩
    cases x with
    | t n => exact h n (by simp [Xs.slots, X.slots])
    | c v => exact V.plain_sim v hp.1
theorem evN_stable {i : I} (h : i.isN = true ∨ i.isR = true) (ha : ∀ t ∈ i.reads, τ.get t = σ.get t) (hs : i.isR = true → ∀ t ∈ i.reads, SimV σ τ (σ.get t)) : evN τ i = evN σ i := by
  have two : ∀ {a b : List Nat}, (∀ t ∈ a ++ b, τ.get t = σ.get t) → (∀ t ∈ a, τ.get t = σ.get t) ∧ ∀ t ∈ b, τ.get t = σ.get t := fun h => ⟨fun t ht => h t (List.mem_append_left _ ht), fun t ht => h t (List.mem_append_right _ ht)⟩
  cases i with
  | mv d x => simp only [evN, val_agr ha]
  | un d op x => simp only [evN, val_agr ha]
  | cvt d k x => simp only [evN, val_agr ha]
  | fad d x o k => simp only [evN, val_agr ha]
  | fval d x o k => simp only [evN, val_agr ha]
  | len d x => simp only [evN, val_agr ha]
  | xt d x j => simp only [evN, val_agr ha]
  | chk d x => simp only [evN, val_agr ha]
  | fn d f xs => simp only [evN, vals_agr ha]
  | load d x k =>
    have hx : SimV σ τ (σ.val x) := by
      cases x with
      | t n => exact hs (by simp [I.isR, X.plain]) n (by simp [I.reads, X.slots])
      | c v =>
        rcases h with h | h
        · cases h
        · exact V.plain_sim v h
    simp only [evN, val_agr ha, load_sim hx]
  | pick d c a b => obtain ⟨h1, h2⟩ := two ha; obtain ⟨h2, h3⟩ := two h2; simp only [evN, val_agr h1, val_agr h2, val_agr h3]
  | bin d op x y => obtain ⟨h1, h2⟩ := two ha; simp only [evN, val_agr h1, val_agr h2]
  | beq d op x y => obtain ⟨h1, h2⟩ := two ha; simp only [evN, val_agr h1, val_agr h2]
  | eqs d op ks x y => obtain ⟨h1, h2⟩ := two ha; simp only [evN, val_agr h1, val_agr h2]
  | ix d x j s =>
    obtain ⟨h1, h2⟩ := two ha
    have hx : SimV σ τ (σ.val x) := by
      cases x with
      | t n => exact hs (by simp [I.isR, X.plain]) n (by simp [I.reads, X.slots])
      | c v =>
        rcases h with h | h
        · cases h
        · exact V.plain_sim v h
    simp only [evN, val_agr h1, val_agr h2, ix_sim hx]
  | ixb d x j n s => obtain ⟨h1, h2⟩ := two ha; simp only [evN, val_agr h1, val_agr h2]
  | ixa d x j n k => obtain ⟨h1, h2⟩ := two ha; simp only [evN, val_agr h1, val_agr h2]
  | stx d bs x => simp only [I.reads] at ha; simp only [evN, val_agr ha]
  | slc d s x a b c => obtain ⟨h1, h2⟩ := two ha; obtain ⟨h2, h3⟩ := two h2; obtain ⟨h3, h4⟩ := two h3; simp only [evN, val_agr h1, valo_agr h2, valo_agr h3, valo_agr h4]
  | mx d x xs => obtain ⟨h1, h2⟩ := two ha; simp only [evN, val_agr h1, vals_agr h2]
  | mn d x xs => obtain ⟨h1, h2⟩ := two ha; simp only [evN, val_agr h1, vals_agr h2]
  | bld d z ps =>
    have hp : (ps.map fun (o, w, x) => (o, w, τ.val x)) = ps.map fun (o, w, x) => (o, w, σ.val x) := by
      refine List.map_congr_left fun p hp => ?_
      obtain ⟨o, w, x⟩ := p
      have : ∀ t ∈ x.slots, τ.get t = σ.get t := fun t ht => ha t (by
        simp only [I.reads]
        clear ha h hs two
        induction ps with
        | nil => cases hp
        | cons q ps ih =>
          simp only [List.map_cons, Xs.slots, List.mem_append]
          rcases List.mem_cons.1 hp with rfl | hp
          · exact .inl ht
          · exact .inr (ih hp))
      simp only [val_agr this]
    simp only [evN, hp]
  | _ => simp [I.isN, I.isR] at h
end
end Go.Proofs.YtcgjebaomhfbdaaGreat.Vm

/- Operations that may change places. -/
namespace Go.Proofs.YtcgjebaomhfbdaaGreat.Vm
open Go
def I.isW : I → Bool
  | .nilr .. | .alloc .. | .box .. | .bsl .. | .mks .. | .app .. => true
  | _ => false
def I.isNR (E : Env) (i : I) : Bool := i.isN || i.isR || i.isP E
def I.isNRW (E : Env) (i : I) : Bool := i.isNR E || i.isW
def sep (x y : G) : Bool :=
  (match x.i.dst with | some d => !y.reads.contains d && decide (y.i.dst ≠ some d) | none => true) &&
  (match y.i.dst with | some e => !x.reads.contains e | none => true)
/-- two operations that may change places -/
def com (E : Env) (x y : G) : Bool := sep x y && ((x.i.isN || (x.i.isNR E && y.i.isNRW E)) || (y.i.isN || (y.i.isNR E && x.i.isNRW E)))
section
variable {P : Program} {E : Env} {σ τ : St}
theorem wants_set {d : Nat} {v : V} {g : Option (Nat × Bool)} (h : ∀ t b, g = some (t, b) → t ≠ d) : (σ.set d v).wants g = σ.wants g := by
  cases g with
  | none => rfl
  | some p => obtain ⟨t, b⟩ := p; simp only [St.wants]; rw [St.get_set_ne (h t b rfl)]
theorem wants_agr {g : Option (Nat × Bool)} (h : ∀ t b, g = some (t, b) → τ.get t = σ.get t) : τ.wants g = σ.wants g := by
  cases g with
  | none => rfl
  | some p => obtain ⟨t, b⟩ := p; simp only [St.wants]; rw [h t b rfl]
theorem lend1_set {d : Nat} {v x : V} : (σ.set d v).lend1 x = σ.lend1 x := by unfold St.lend1; simp only [rowOf_set]
theorem lends_set {d : Nat} {v : V} : ∀ xs : List V, (σ.set d v).lends xs = σ.lends xs
  | [] => rfl
  | x :: xs => by simp only [St.lends, lend1_set, lends_set xs]
theorem lend_set {d : Nat} {v x : V} : (σ.set d v).lend x = σ.lend x := by
  cases x with
  | ag cs => simp only [St.lend, lends_set]
  | _ => simp only [St.lend]; exact lend1_set
theorem hand_set {d : Nat} {v : V} : ∀ (xs : List V) (ms : List Bool), (σ.set d v).hand xs ms = σ.hand xs ms
  | [], [] => rfl
  | [], _ :: _ => rfl
  | _ :: _, [] => rfl
  | x :: xs, m :: ms => by
    simp only [St.hand, hand_set xs ms, lend_set, toT_set]
theorem leave_set {d : Nat} {v : V} {p : Bool} {σc : St} : leave p (σ.set d v) σc = (leave p σ σc).map (·.set d v) := by
  unfold leave
  cases p with
  | true => rfl
  | false =>
    simp only [Bool.false_eq_true, if_false]
    cases σc.up <;> rfl
theorem if_map {α β : Type} {c : Prop} [Decidable c] {f : α → β} {a b : Option α} {a' b' : Option β} (h1 : a' = a.map f) (h2 : b' = b.map f) : (if c then a' else b') = (if c then a else b).map f := by
  subst h1; subst h2
  split <;> rfl
theorem merge_set {d : Nat} {v x : V} {σc σ₁ : St} {m : Nat} : merge (σ₁.set d v) σc x m = (merge σ₁ σc x m).map fun q => (q.1, q.2.set d v) := by
  unfold merge
  refine if_map ?_ ?_ <;> rfl
theorem back_some {x : V} {p : Bool} {σc σ₁ : St} {base : Nat} (hx : leave p σ σc = some σ₁) : back p σ σc x (some base) = if (!p && isMrg base) = true then merge σ₁ σc x base else (take p σc x (σ₁.ob, base, [])).map fun r => (r.1, { σ₁ with ob := r.2.1 }) := by
  unfold back
  rw [hx]
theorem take_set {d : Nat} {v x : V} {p : Bool} {σc σ₁ : St} {base : Nat} : Option.map (fun r => (r.1, { σ₁.set d v with ob := r.2.1 })) (take p σc x ((σ₁.set d v).ob, base, [])) = ((take p σc x (σ₁.ob, base, [])).map fun r => (r.1, { σ₁ with ob := r.2.1 })).map fun q => (q.1, q.2.set d v) := by
  rw [show (σ₁.set d v).ob = σ₁.ob from rfl]
  cases take p σc x (σ₁.ob, base, []) <;> rfl
theorem back_set {d : Nat} {v x : V} {p : Bool} {σc : St} {rm : Option Nat} : back p (σ.set d v) σc x rm = (back p σ σc x rm).map fun q => (q.1, q.2.set d v) := by
  cases hx : leave p σ σc with
  | none =>
    unfold back
    rw [leave_set, hx]
    rfl
  | some σ₁ =>
    cases rm with
    | none =>
      unfold back
      rw [leave_set, hx]
      simp only [Option.map_some]
      cases dat p σc x <;> rfl
    | some base =>
      rw [back_some hx, back_some (σ := σ.set d v) (by rw [leave_set, hx]; rfl)]
      exact if_map (merge_set (d := d) (v := v)) (take_set (d := d) (v := v))
/-! An operation and another slot. -/
theorem op1_set {d : Nat} {v : V} {y : G} (hX : ∀ f X, E.ext f = some X → ∀ σ d v as rm, X (σ.set d v) as rm = (X σ as rm).map fun p => (p.1, p.2.set d v))
    (hr : d ∉ y.reads) (hd : y.i.dst ≠ some d) (h : Op1 P E σ y τ) : Op1 P E (σ.set d v) y (τ.set d v) := by
  obtain ⟨i, g⟩ := y
  simp only [G.reads, List.mem_append, not_or] at hr
  have hw : ∀ σ : St, (σ.set d v).wants g = σ.wants g := fun σ => wants_set fun t b hg e => hr.1 (by rw [hg]; simp [e])
  cases h with
  | step hg hs => exact .step (by rw [hw]; exact hg) (by rw [step_set hr.2 hd, hs]; rfl)
  | skip hg =>
    have : (σ.skip i).set d v = (σ.set d v).skip i := by
      unfold St.skip
      cases hi : i.dst with
      | none => rfl
      | some e => exact (set_comm (fun he => hd (by rw [hi, he]))).symm
    rw [this]
    exact .skip (by rw [hw]; exact hg)
  | @call e f as rm _ _ F rv σc x σ₁ hg hf hm hF hb =>
    have hne : d ≠ e := fun he => hd (by rw [he]; rfl)
    rw [← set_comm hne]
    exact .call (by rw [hw]; exact hg) hf hm (by rw [vals_set hr.2]; exact hF) (by rw [back_set, hb]; rfl)
  | @callv e y f caps as rm _ _ F rv σc x σ₁ hg hx hf hm hF hb =>
    have hne : d ≠ e := fun he => hd (by rw [he]; rfl)
    have hr2 := hr.2
    simp only [I.reads, List.mem_append, not_or] at hr2
    rw [← set_comm hne]
    exact .callv (by rw [hw]; exact hg) (by rw [val_set hr2.1]; exact hx) hf hm (by rw [vals_set hr2.2]; exact hF) (by rw [back_set, hb]; rfl)
  | @pcall e f as rm _ _ F ms ws ns rv σc x σ₁ hg hf hm hh hF hb =>
    have hne : d ≠ e := fun he => hd (by rw [he]; rfl)
    rw [← set_comm hne]
    exact .pcall (by rw [hw]; exact hg) hf hm (by rw [vals_set hr.2, hand_set]; exact hh) hF (by rw [frz_set, back_set, hb]; rfl)
  | @ext e f as rm _ _ X x σ₁ hg hf hX1 hx =>
    have hne : d ≠ e := fun he => hd (by rw [he]; rfl)
    rw [← set_comm hne]
    exact .ext (by rw [hw]; exact hg) hf hX1 (by rw [vals_set hr.2, hX f X hX1, hx]; rfl)
theorem op1_unset {d : Nat} {v : V} {y : G} {σ₂ : St} (hX : ∀ f X, E.ext f = some X → ∀ σ d v as rm, X (σ.set d v) as rm = (X σ as rm).map fun p => (p.1, p.2.set d v))
    (hr : d ∉ y.reads) (hd : y.i.dst ≠ some d) (h : Op1 P E (σ.set d v) y σ₂) : ∃ τ, Op1 P E σ y τ ∧ σ₂ = τ.set d v := by
  obtain ⟨i, g⟩ := y
  simp only [G.reads, List.mem_append, not_or] at hr
  have hw : ∀ σ : St, (σ.set d v).wants g = σ.wants g := fun σ => wants_set fun t b hg e => hr.1 (by rw [hg]; simp [e])
  have hback : ∀ {p : Bool} {σc : St} {rv x : V} {rm : Option Nat} {σ₁ : St} {σ : St}, back p (σ.set d v) σc rv rm = some (x, σ₁) → ∃ σ₂, back p σ σc rv rm = some (x, σ₂) ∧ σ₁ = σ₂.set d v := fun hb => by
    rw [back_set] at hb
    obtain ⟨⟨a, b⟩, h1, h2⟩ := map_some hb
    simp only [Prod.mk.injEq] at h2
    obtain ⟨rfl, rfl⟩ := h2
    exact ⟨b, h1, rfl⟩
  cases h with
  | step hg hs =>
    rw [step_set hr.2 hd] at hs
    obtain ⟨τ, h1, rfl⟩ := map_some hs
    exact ⟨τ, .step (by rw [← hw]; exact hg) h1, rfl⟩
  | skip hg =>
    refine ⟨σ.skip i, .skip (by rw [← hw]; exact hg), ?_⟩
    unfold St.skip
    cases hi : i.dst with
    | none => rfl
    | some e => exact set_comm (fun he => hd (by rw [hi, he]))
  | @call e f as rm _ _ F rv σc x σ₁ hg hf hm hF hb =>
    have hne : d ≠ e := fun he => hd (by rw [he]; rfl)
    obtain ⟨σ₂, hb2, rfl⟩ := hback hb
    exact ⟨σ₂.set e x, .call (by rw [← hw]; exact hg) hf hm (by rw [vals_set hr.2] at hF; exact hF) hb2, set_comm hne⟩
  | @callv e y f caps as rm _ _ F rv σc x σ₁ hg hx hf hm hF hb =>
    have hne : d ≠ e := fun he => hd (by rw [he]; rfl)
    have hr2 := hr.2
    simp only [I.reads, List.mem_append, not_or] at hr2
    obtain ⟨σ₂, hb2, rfl⟩ := hback hb
    exact ⟨σ₂.set e x, .callv (by rw [← hw]; exact hg) (by rw [val_set hr2.1] at hx; exact hx) hf hm (by rw [vals_set hr2.2] at hF; exact hF) hb2, set_comm hne⟩
  | @pcall e f as rm _ _ F ms ws ns rv σc x σ₁ hg hf hm hh hF hb =>
    have hne : d ≠ e := fun he => hd (by rw [he]; rfl)
    rw [frz_set] at hb
    obtain ⟨σ₂, hb2, rfl⟩ := hback hb
    exact ⟨σ₂.set e x, .pcall (by rw [← hw]; exact hg) hf hm (by rw [vals_set hr.2, hand_set] at hh; exact hh) hF hb2, set_comm hne⟩
  | @ext e f as rm _ _ X x σ₁ hg hf hX1 hx =>
    have hne : d ≠ e := fun he => hd (by rw [he]; rfl)
    rw [vals_set hr.2, hX f X hX1] at hx
    obtain ⟨⟨a, b⟩, h1, h2⟩ := map_some hx
    simp only [Prod.mk.injEq] at h2
    obtain ⟨rfl, rfl⟩ := h2
    exact ⟨b.set e a, .ext (by rw [← hw]; exact hg) hf hX1 h1, set_comm hne⟩
mutual
theorem simV_refl : ∀ v : V, SimV σ σ v
  | .row .. | .ptr .. | .rel .. => by simp only [SimV]
  | .ag cs => simVs_refl cs
  | .d .. | .dx .. | .nil _ | .pd _ | .tp _ | .cl .. | .u => trivial
theorem simVs_refl : ∀ vs : List V, SimVs σ σ vs
  | [] => trivial
  | v :: vs => ⟨simV_refl v, simVs_refl vs⟩
end
/-- what Go's own library must keep -/
structure ExtOk (E : Env) : Prop where
  set : ∀ f X, E.ext f = some X → ∀ σ d v as rm, X (σ.set d v) as rm = (X σ as rm).map fun p => (p.1, p.2.set d v)
  get : ∀ f X, E.ext f = some X → ∀ σ as rm v σ' t, X σ as rm = some (v, σ') → σ'.get t = σ.get t
  pure : ∀ f X, E.ext f = some X → ∀ σ τ as v σ', X σ as none = some (v, σ') → SimVs σ τ as → σ' = σ ∧ X τ as none = some (v, τ)
/-- A reading operation, at another state that reads the same. -/
theorem op1_stable {i : I} {g : Option (Nat × Bool)} {σ' : St} (hE : ExtOk E) (hk : i.isNR E = true) (h : Op1 P E σ ⟨i, g⟩ σ') (ha : ∀ t ∈ G.reads ⟨i, g⟩, τ.get t = σ.get t)
    (hs : i.isN = false → ∀ t ∈ i.reads, SimV σ τ (σ.get t)) : ∃ d v, i.dst = some d ∧ σ' = σ.set d v ∧ Op1 P E τ ⟨i, g⟩ (τ.set d v) := by
  have ha2 : ∀ t ∈ i.reads, τ.get t = σ.get t := fun t ht => ha t (by simp [G.reads, ht])
  have hw : τ.wants g = σ.wants g := wants_agr fun t b hg => ha t (by simp [G.reads, hg])
  simp only [I.isNR, Bool.or_eq_true] at hk
  have notN : i.isR = true → i.isN = false := fun h => by cases i <;> first | rfl | (simp [I.isR] at h; done)
  cases h with
  | step hg hst =>
    have hk' : i.isN = true ∨ i.isR = true := by
      rcases hk with hk | hk
      · exact hk
      · cases i <;> first | (simp [I.isP] at hk; done) | (simp [step] at hst; done)
    obtain ⟨d, hd, he⟩ := step_evN (σ := σ) hk'
    obtain ⟨d', hd', he'⟩ := step_evN (σ := τ) hk'
    rw [hd] at hd'; cases hd'
    rw [he] at hst
    obtain ⟨v, hv, rfl⟩ := map_some hst
    refine ⟨d, v, hd, rfl, .step (by rw [hw]; exact hg) ?_⟩
    rw [he', evN_stable hk' ha2 fun hR => hs (notN hR), hv]
    rfl
  | skip hg =>
    have : ∃ d, i.dst = some d := by
      rcases hk with hk | hk
      · obtain ⟨d, hd, _⟩ := step_evN (σ := σ) hk; exact ⟨d, hd⟩
      · cases i <;> first | (simp [I.isP] at hk; done) | exact ⟨_, rfl⟩
    obtain ⟨d, hd⟩ := this
    refine ⟨d, .tp [], hd, by simp [St.skip, hd], ?_⟩
    have e : τ.set d (.tp []) = τ.skip i := by simp [St.skip, hd]
    rw [e]
    exact .skip (by rw [hw]; exact hg)
  | @call e f as rm _ _ F rv σc x σ₁ hg hf hm hF hb =>
    rcases hk with (hk | hk) | hk
    · cases hk
    · cases hk
    · cases rm with
      | some b => cases hk
      | none => simp [I.isP, hf, hm] at hk
  | callv hg hx hf hm hF hb =>
    rcases hk with (hk | hk) | hk <;> cases hk
  | @pcall e f as rm _ _ F ms ws ns rv σc x σ₁ hg hf hm hh hF hb =>
    rcases hk with (hk | hk) | hk
    · cases hk
    · cases hk
    · cases rm with
      | some b => cases hk
      | none =>
        simp only [I.isP, hf, hm, Bool.and_eq_true] at hk
        have hns := hand_none hk.2 hh
        subst hns
        have hb0 : back true σ σc rv none = some (x, σ₁) := hb
        unfold back at hb0
        simp only [leave, if_true] at hb0
        obtain ⟨⟨a, b⟩, h1, h2⟩ := map_some hb0
        simp only [Prod.mk.injEq] at h2
        obtain ⟨rfl, rfl⟩ := h2
        refine ⟨e, a, rfl, rfl, .pcall (by rw [hw]; exact hg) hf hm (ws := ws) (ns := []) (by rw [vals_agr ha2, hand_sim hk.2 (vals_sim hk.1 (hs rfl))]; exact hh) hF ?_⟩
        show back true τ σc rv none = some (a, τ)
        unfold back
        simp only [leave, if_true, h1, Option.map_some]
  | @ext e f as rm _ _ X x σ₁ hg hf hX1 hx =>
    rcases hk with (hk | hk) | hk
    · cases hk
    · cases hk
    · cases rm with
      | some b => cases hk
      | none =>
        simp only [I.isP, hf, Bool.and_eq_true] at hk
        obtain ⟨rfl, h1⟩ := hE.pure f X hX1 σ τ _ x σ₁ hx (vals_sim hk.1 (hs rfl))
        exact ⟨e, x, rfl, rfl, .ext (by rw [hw]; exact hg) hf hX1 (by rw [vals_agr ha2]; exact h1)⟩
end
end Go.Proofs.YtcgjebaomhfbdaaGreat.Vm

/- Changing places. -/
namespace Go.Proofs.YtcgjebaomhfbdaaGreat.Vm
open Go
/-- the second state reads like the first wherever the first can be read -/
structure Like (σ τ : St) : Prop where
  row : ∀ l n lo len es, σ.rowOf l n lo len = some es → τ.rowOf l n lo len = some es
  rel : ∀ l n i e, σ.relOf l n i = some e → τ.relOf l n i = some e
  box : ∀ l n cs, σ.boxOf l n = some cs → τ.boxOf l n = some cs
  gone : ∀ l n, σ.obj l n = some .gone → τ.obj l n = some .gone
  fz : ∀ l n s es, σ.obj l n = some (.fz s es) → τ.obj l n = some (.fz s es)
section
variable {P : Program} {E : Env} {σ τ : St}
theorem Like.same (h : ∀ l n, τ.obj l n = σ.obj l n) : Like σ τ :=
  ⟨fun _ _ _ _ _ he => by simpa only [St.rowOf, h] using he, fun _ _ _ _ he => by simpa only [St.relOf, h] using he, fun _ _ _ he => by simpa only [St.boxOf, h] using he, fun l n he => by rw [h]; exact he, fun l n s es he => by rw [h]; exact he⟩
theorem Like.trans {ρ : St} (h : Like σ τ) (k : Like τ ρ) : Like σ ρ :=
  ⟨fun _ _ _ _ _ he => k.row _ _ _ _ _ (h.row _ _ _ _ _ he), fun _ _ _ _ he => k.rel _ _ _ _ (h.rel _ _ _ _ he), fun _ _ _ he => k.box _ _ _ (h.box _ _ _ he), fun _ _ he => k.gone _ _ (h.gone _ _ he), fun _ _ _ _ he => k.fz _ _ _ _ (h.fz _ _ _ _ he)⟩
/-- one object in another's place -/
theorem Like.obj {l n : Nat} {o : Ob} (h : σ.obj l n = none ∨ ∃ s es gr, σ.obj l n = some (.rw s es gr) ∧ ((∃ s' gr' zs, o = .rw s' (es ++ zs) gr') ∨ o = .fz s es)) : Like σ (σ.setObj l n (some o)) := by
  refine ⟨fun l' n' lo len ys he => ?_, fun l' n' i e he => ?_, fun l' n' cs he => ?_, fun l' n' he => ?_, fun l' n' s1 es1 he => ?_⟩
  · simp only [St.rowOf, St.obj_setObj] at he ⊢
    by_cases hh : l = l' ∧ n = n'
    · obtain ⟨rfl, rfl⟩ := hh
      rw [if_pos ⟨rfl, rfl⟩]
      rcases h with h | ⟨s, es, gr, h, ⟨s', gr', zs, rfl⟩ | rfl⟩
      · rw [h] at he; cases he
      · rw [h] at he
        simp only at he ⊢
        split at he
        · rename_i hfit
          cases he
          rw [if_pos (by simp; omega)]
          simp only [slice]
          rw [List.drop_append_of_le_length (by omega), List.take_append_of_le_length (by simp; omega)]
        · cases he
      · rw [h] at he; exact he
    · rw [if_neg hh]; exact he
  · simp only [St.relOf, St.obj_setObj] at he ⊢
    by_cases hh : l = l' ∧ n = n'
    · obtain ⟨rfl, rfl⟩ := hh
      rw [if_pos ⟨rfl, rfl⟩]
      rcases h with h | ⟨s, es, gr, h, ⟨s', gr', zs, rfl⟩ | rfl⟩
      · rw [h] at he; cases he
      · rw [h] at he
        simp only at he ⊢
        rw [List.getElem?_append_left (List.getElem?_eq_some_iff.1 he).1]
        exact he
      · rw [h] at he; exact he
    · rw [if_neg hh]; exact he
  · simp only [St.boxOf, St.obj_setObj] at he ⊢
    by_cases hh : l = l' ∧ n = n'
    · obtain ⟨rfl, rfl⟩ := hh
      rcases h with h | ⟨s, es, gr, h, _⟩
      · rw [h] at he; cases he
      · rw [h] at he; cases he
    · rw [if_neg hh]; exact he
  · rw [St.obj_setObj]
    by_cases hh : l = l' ∧ n = n'
    · obtain ⟨rfl, rfl⟩ := hh
      rcases h with h | ⟨s, es, gr, h, _⟩
      · rw [h] at he; cases he
      · rw [h] at he; cases he
    · rw [if_neg hh]; exact he
  · rw [St.obj_setObj]
    by_cases hh : l = l' ∧ n = n'
    · obtain ⟨rfl, rfl⟩ := hh
      rcases h with h | ⟨s, es, gr, h, _⟩
      · rw [h] at he; cases he
      · rw [h] at he; cases he
    · rw [if_neg hh]; exact he
theorem Like.new {n : Nat} {o : Ob} (h : σ.new n o = some τ) : Like σ τ ∧ ∀ t, τ.get t = σ.get t := by
  obtain ⟨hno, rfl⟩ := new_some h
  exact ⟨Like.obj (.inl hno), fun t => St.get_setObj _ _ _ _ _⟩
theorem Like.frz1 {n : Nat} : Like σ (σ.frz1 n) := by
  unfold St.frz1
  split
  · rename_i s es gr ho
    exact Like.obj (.inr ⟨s, es, gr, ho, .inr rfl⟩)
  · exact Like.same fun _ _ => rfl
theorem Like.frz : ∀ (ns : List Nat) {σ : St}, Like σ (σ.frz ns)
  | [], _ => Like.same fun _ _ => rfl
  | n :: ns, _ => (Like.frz1 (n := n)).trans (Like.frz ns)
theorem Like.zcells : ∀ (zs : List Z) {σ τ : St} {vs : List V}, Vm.zcells σ zs = some (vs, τ) → Like σ τ ∧ ∀ t, τ.get t = σ.get t
  | [], _, τ, vs, e => by
    simp only [Vm.zcells, Option.some.injEq, Prod.mk.injEq] at e
    obtain ⟨_, rfl⟩ := e
    exact ⟨Like.same fun _ _ => rfl, fun _ => rfl⟩
  | z :: zs, _, τ, vs, e => by
    simp only [Vm.zcells] at e
    split at e
    · cases e
    · rename_i us ρ hu
      have ih := Like.zcells zs hu
      split at e
      · simp only [Option.some.injEq, Prod.mk.injEq] at e; obtain ⟨_, rfl⟩ := e; exact ih
      · simp only [Option.some.injEq, Prod.mk.injEq] at e; obtain ⟨_, rfl⟩ := e; exact ih
      · simp only [Option.some.injEq, Prod.mk.injEq] at e; obtain ⟨_, rfl⟩ := e; exact ih
      · split at e
        · rename_i ρ' hn
          simp only [Option.some.injEq, Prod.mk.injEq] at e
          obtain ⟨_, rfl⟩ := e
          have k := Like.new hn
          exact ⟨ih.1.trans k.1, fun t => (k.2 t).trans (ih.2 t)⟩
        · cases e
theorem Like.set {d : Nat} {v : V} : Like σ (σ.set d v) := Like.same fun _ _ => St.obj_set _ _ _ _ _
theorem like_newset {n d : Nat} {o : Ob} {v : V} (h : (σ.new n o).map (fun σ => σ.set d v) = some τ) : Like σ τ ∧ ∀ t, t ≠ d → τ.get t = σ.get t := by
  obtain ⟨ρ, h1, rfl⟩ := map_some h
  have k := Like.new h1
  exact ⟨k.1.trans Like.set, fun t ht => by rw [St.get_set_ne ht]; exact k.2 t⟩
theorem newL_get {l n d t : Nat} {o : Ob} {v : V} (h : (σ.newL l n o).map (fun σ => σ.set d v) = some τ) (ht : t ≠ d) : τ.get t = σ.get t := by
  obtain ⟨ρ, h1, rfl⟩ := map_some h
  unfold St.newL at h1
  split at h1
  · split at h1
    · cases h1; rw [St.get_set_ne ht, St.get_setObj]
    · cases h1
  · cases h1
/-- What is made new, or frozen, leaves the rest. -/
theorem step_W {i : I} (hw : i.isW = true) (h : step σ i = some τ) : Like σ τ ∧ ∀ t, i.dst ≠ some t → τ.get t = σ.get t := by
  have ne : ∀ {d t : Nat}, some d ≠ some t → t ≠ d := fun h e => h (by rw [e])
  cases i with
  | nilr d nm s => have := like_newset h; exact ⟨this.1, fun t ht => this.2 t (ne ht)⟩
  | alloc d nm z =>
    simp only [step] at h
    split at h
    · rename_i cs ρ hz
      have k1 := Like.zcells z hz
      have k2 := like_newset h
      exact ⟨k1.1.trans k2.1, fun t ht => (k2.2 t (ne ht)).trans (k1.2 t)⟩
    · cases h
  | box d nm x k =>
    simp only [step] at h
    split at h
    · have := like_newset h; exact ⟨this.1, fun t ht => this.2 t (ne ht)⟩
    · cases h
  | bsl d nm s n z ps =>
    simp only [step] at h
    split at h
    · rename_i ts ns t' _ _
      split at h
      · have k2 := like_newset h
        exact ⟨(Like.frz ns).trans k2.1, fun t ht => (k2.2 t (ne ht)).trans (St.get_frz σ ns t)⟩
      · cases h
    · cases h
  | mks d nm s n c z =>
    simp only [step] at h
    split at h
    · split at h
      · have := like_newset h; exact ⟨this.1, fun t ht => this.2 t (ne ht)⟩
      · cases h
    · cases h
  | app d nm s x y =>
    simp only [step] at h
    unfold St.app at h
    split at h
    · cases h
    · rename_i ys hys
      split at h
      · split at h
        · have := like_newset h; exact ⟨this.1, fun t ht => this.2 t (ne ht)⟩
        · cases h
      · split at h
        · have := like_newset h; exact ⟨this.1, fun t ht => this.2 t (ne ht)⟩
        · cases h
      · rename_i l n lo len s' _
        split at h
        · split at h
          · rename_i s1 es gr hobj
            split at h
            · cases h
              have k : Like σ (σ.setObj l n (some (.rw s (es ++ ys) true))) := Like.obj (.inr ⟨s1, es, gr, hobj, .inl ⟨s, true, ys, rfl⟩⟩)
              exact ⟨k.trans Like.set, fun t ht => by rw [St.get_set_ne (ne ht), St.get_setObj]⟩
            · cases h
          · cases h
        · cases h
      · cases h
  | _ => cases hw
theorem store_get {x y : V} {k : Nat} (h : σ.store x y k = some τ) (t : Nat) : τ.get t = σ.get t := by
  unfold St.store at h
  split at h
  · split at h
    · split at h
      · cases h; exact St.get_setObj _ _ _ _ _
      · cases h
    · cases h
  · split at h
    · simp only at h
      split at h
      · split at h
        · cases h; rw [St.get_setObj, St.get_frz]
        · cases h
      · cases h
    · cases h
  · cases h
theorem step_get {i : I} {t : Nat} (h : step σ i = some τ) (ht : i.dst ≠ some t) : τ.get t = σ.get t := by
  have ne : ∀ {d t : Nat}, some d ≠ some t → t ≠ d := fun h e => h (by rw [e])
  by_cases hn : i.isN = true ∨ i.isR = true
  · obtain ⟨d, hd, he⟩ := step_evN (σ := σ) hn
    rw [he] at h
    obtain ⟨v, _, rfl⟩ := map_some h
    exact St.get_set_ne (ne (by rw [← hd]; exact ht))
  · by_cases hw : i.isW = true
    · exact (step_W hw h).2 t ht
    · cases i with
      | load d x k =>
        simp only [step] at h
        obtain ⟨v, _, rfl⟩ := map_some h
        exact St.get_set_ne (ne ht)
      | ix d x j s =>
        simp only [step] at h
        obtain ⟨v, _, rfl⟩ := map_some h
        exact St.get_set_ne (ne ht)
      | store x y k => exact store_get h t
      | app d nm s x y =>
        simp only [step] at h
        unfold St.app at h
        split at h
        · cases h
        · split at h
          · split at h
            · exact (like_newset h).2 t (ne ht)
            · cases h
          · split at h
            · exact (like_newset h).2 t (ne ht)
            · cases h
          · split at h
            · split at h
              · split at h
                · cases h; rw [St.get_set_ne (ne ht), St.get_setObj]
                · cases h
              · cases h
            · cases h
          · cases h
      | cpy d s x y =>
        simp only [step] at h
        unfold St.cpy at h
        split at h
        · split at h
          · split at h
            · split at h
              · cases h; rw [St.get_set_ne (ne ht), St.get_setObj]
              · cases h
            · cases h
          · cases h
        · cases h
      | clr s x z =>
        simp only [step] at h
        cases hz : z.t? with
        | none => rw [hz] at h; cases h
        | some zt =>
          rw [hz] at h
          simp only [Option.bind_some] at h
          unfold St.clr at h
          split at h
          · split at h
            · split at h
              · split at h
                · cases h; exact St.get_setObj _ _ _ _ _
                · cases h
              · cases h
            · cases h
          · cases h; rfl
          · cases h
      | mkl d l nm s n c z =>
        simp only [step] at h
        split at h
        · split at h
          · exact newL_get h (ne ht)
          · cases h
        · cases h
      | apl d l nm s x y =>
        simp only [step] at h
        unfold St.apl at h
        split at h
        · split at h
          · cases h
          · split at h
            · exact newL_get h (ne ht)
            · cases h
        · unfold St.app at h
          split at h
          · cases h
          · simp only at h
            split at h
            · split at h
              · split at h
                · cases h; rw [St.get_set_ne (ne ht), St.get_setObj]
                · cases h
              · cases h
            · cases h
        · cases h
      | ixv d x i =>
        simp only [step] at h
        obtain ⟨v, _, rfl⟩ := map_some h
        exact St.get_set_ne (ne ht)
      | bsv d nm xs =>
        simp only [step] at h
        split at h
        · exact (like_newset h).2 t (ne ht)
        · cases h
      | apv d nm x y =>
        simp only [step] at h
        unfold St.apv at h
        split at h
        · split at h
          · split at h
            · split at h
              · split at h
                · split at h
                  · exact (like_newset h).2 t (ne ht)
                  · cases h
                · split at h
                  · split at h
                    · split at h
                      · exact ((like_newset h).2 t (ne ht)).trans (St.get_setObj _ _ _ _ _)
                      · cases h
                    · cases h
                  · cases h
                · cases h
              · cases h
            · cases h
          · cases h
        · cases h
      | call => cases h
      | callv => cases h
      | bad => cases h
      | _ => first | (simp [I.isN, I.isR] at hn; done) | (simp [I.isW] at hw; done)
theorem back_get {p : Bool} {σc σ₁ : St} {v x : V} {rm : Option Nat} (h : back p σ σc v rm = some (x, σ₁)) (t : Nat) : σ₁.get t = σ.get t := by
  have hl : ∀ σl, leave p σ σc = some σl → σl.get t = σ.get t := fun σl hl => by
    unfold leave at hl
    split at hl
    · cases hl; rfl
    · split at hl
      · cases hl; rfl
      · cases hl
  cases hlv : leave p σ σc with
  | none => unfold back at h; rw [hlv] at h; cases rm <;> cases h
  | some σl =>
    cases rm with
    | none =>
      unfold back at h
      rw [hlv] at h
      obtain ⟨r, _, h2⟩ := map_some h
      simp only [Prod.mk.injEq] at h2
      obtain ⟨_, rfl⟩ := h2
      exact hl _ hlv
    | some base =>
      rw [back_some hlv] at h
      split at h
      · unfold merge at h
        split at h
        · simp only [Option.some.injEq, Prod.mk.injEq] at h
          have h2 := hl σl hlv
          obtain ⟨_, rfl⟩ := h
          simp only [St.get] at h2 ⊢
          exact h2
        · cases h
      · obtain ⟨r, _, h2⟩ := map_some h
        simp only [Prod.mk.injEq] at h2
        obtain ⟨_, rfl⟩ := h2
        have h2 := hl σl hlv
        simp only [St.get] at h2 ⊢
        exact h2
theorem op1_get {y : G} {t : Nat} (hG : ∀ f X, E.ext f = some X → ∀ σ as rm v σ' t, X σ as rm = some (v, σ') → σ'.get t = σ.get t) (h : Op1 P E σ y τ) (ht : y.i.dst ≠ some t) : τ.get t = σ.get t := by
  have ne : ∀ {d t : Nat}, some d ≠ some t → t ≠ d := fun h e => h (by rw [e])
  cases h with
  | step hg hs => exact step_get hs ht
  | @skip i g hg =>
    unfold St.skip
    cases hi : i.dst with
    | none => rfl
    | some d => exact St.get_set_ne (ne (by rw [← hi]; exact ht))
  | call hg hf hm hF hb => rw [St.get_set_ne (ne ht)]; exact back_get hb t
  | callv hg hx hf hm hF hb => rw [St.get_set_ne (ne ht)]; exact back_get hb t
  | @pcall d f as rm g _ F ms ws ns v σc w σ₁ hg hf hm hh hF hb => rw [St.get_set_ne (ne ht), back_get hb t]; exact St.get_frz _ _ _
  | @ext d f as rm g _ X x σ₁ hg hf hX hx => rw [St.get_set_ne (ne ht)]; exact hG f X hX _ _ _ _ _ t hx
/-- reading and making leaves what there is -/
theorem op1_like {y : G} (hE : ExtOk E) (hk : y.i.isNRW E = true) (h : Op1 P E σ y τ) : Like σ τ := by
  obtain ⟨i, g⟩ := y
  simp only [I.isNRW, Bool.or_eq_true] at hk
  rcases hk with hk | hk
  · simp only [I.isNR, Bool.or_eq_true] at hk
    cases h with
    | step hg hst =>
      have hk' : i.isN = true ∨ i.isR = true := by
        rcases hk with hk | hk
        · exact hk
        · cases i <;> first | (simp [I.isP] at hk; done) | (simp [step] at hst; done)
      obtain ⟨d, hd, he⟩ := step_evN (σ := σ) hk'
      rw [he] at hst
      obtain ⟨v, _, rfl⟩ := map_some hst
      exact Like.set
    | skip hg =>
      unfold St.skip
      cases i.dst with
      | none => exact Like.same fun _ _ => rfl
      | some d => exact Like.set
    | @call e f as rm _ _ F rv σc x σ₁ hg hf hm hF hb =>
      rcases hk with (hk | hk) | hk
      · cases hk
      · cases hk
      · cases rm with
        | some b => cases hk
        | none => simp [I.isP, hf, hm] at hk
    | callv hg hx hf hm hF hb =>
      rcases hk with (hk | hk) | hk <;> cases hk
    | @pcall e f as rm _ _ F ms ws ns rv σc x σ₁ hg hf hm hh hF hb =>
      rcases hk with (hk | hk) | hk
      · cases hk
      · cases hk
      · cases rm with
        | some b => cases hk
        | none =>
          simp only [I.isP, hf, hm, Bool.and_eq_true] at hk
          have hns := hand_none hk.2 hh
          subst hns
          have hb0 : back true σ σc rv none = some (x, σ₁) := hb
          unfold back at hb0
          simp only [leave, if_true] at hb0
          obtain ⟨⟨a, b⟩, h1, h2⟩ := map_some hb0
          simp only [Prod.mk.injEq] at h2
          obtain ⟨rfl, rfl⟩ := h2
          exact Like.set
    | @ext e f as rm _ _ X x σ₁ hg hf hX1 hx =>
      rcases hk with (hk | hk) | hk
      · cases hk
      · cases hk
      · cases rm with
        | some b => cases hk
        | none =>
          obtain ⟨rfl, _⟩ := hE.pure f X hX1 σ σ _ x σ₁ hx (simVs_refl _)
          exact Like.set
  · cases h with
    | step hg hs => exact (step_W hk hs).1
    | skip hg =>
      unfold St.skip
      cases i.dst with
      | none => exact Like.same fun _ _ => rfl
      | some d => exact Like.set
    | call => cases hk
    | callv => cases hk
    | pcall => cases hk
    | ext => cases hk
/-! Values name only what can be read. -/
mutual
def ExV (σ : St) : V → Prop
  | .row l n lo len _ => (σ.rowOf l n lo len).isSome = true ∨ σ.obj l n = some .gone ∨ (σ.boxOf l n).isSome = true
  | .ptr l n _ => (σ.boxOf l n).isSome = true ∨ σ.obj l n = some .gone ∨ ∃ s es, σ.obj l n = some (.fz s es)
  | .rel l n i _ => (σ.relOf l n i).isSome = true ∨ σ.obj l n = some .gone
  | .ag cs => ExVs σ cs
  | _ => True
def ExVs (σ : St) : List V → Prop
  | [] => True
  | v :: vs => ExV σ v ∧ ExVs σ vs
end
theorem boxOf_obj {l n : Nat} {cs : List V} (h : σ.boxOf l n = some cs) : σ.obj l n = some (.box cs) := by
  unfold St.boxOf at h
  split at h
  · rename_i e; cases h; exact e
  · cases h
mutual
theorem ExV.sim (h : Like σ τ) : ∀ v : V, ExV σ v → SimV σ τ v
  | .row l n lo len _, e => by
    simp only [SimV]
    rcases e with e | e | e
    · obtain ⟨es, he⟩ := Option.isSome_iff_exists.1 e
      rw [he, h.row _ _ _ _ _ he]
    · simp only [St.rowOf, e, h.gone _ _ e]
    · obtain ⟨cs, he⟩ := Option.isSome_iff_exists.1 e
      simp only [St.rowOf, boxOf_obj he, boxOf_obj (h.box _ _ _ he)]
  | .ptr l n _, e => by
    simp only [SimV]
    rcases e with e | e | ⟨s, es, e⟩
    · obtain ⟨cs, he⟩ := Option.isSome_iff_exists.1 e
      rw [he, h.box _ _ _ he]
    · simp only [St.boxOf, e, h.gone _ _ e]
    · simp only [St.boxOf, e, h.fz _ _ _ _ e]
  | .rel l n i _, e => by
    simp only [SimV]
    rcases e with e | e
    · obtain ⟨t, he⟩ := Option.isSome_iff_exists.1 e
      rw [he, h.rel _ _ _ _ he]
    · simp only [St.relOf, e, h.gone _ _ e]
  | .ag cs, e => ExVs.sim h cs e
  | .d .., _ | .dx .., _ | .nil _, _ | .pd _, _ | .tp _, _ | .cl .., _ | .u, _ => trivial
theorem ExVs.sim (h : Like σ τ) : ∀ vs : List V, ExVs σ vs → SimVs σ τ vs
  | [], _ => trivial
  | v :: vs, e => ⟨ExV.sim h v e.1, ExVs.sim h vs e.2⟩
end
mutual
theorem SimV.symm : ∀ v : V, SimV σ τ v → SimV τ σ v
  | .row .., e | .ptr .., e | .rel .., e => by simp only [SimV] at e ⊢; exact e.symm
  | .ag cs, e => SimVs.symm cs e
  | .d .., _ | .dx .., _ | .nil _, _ | .pd _, _ | .tp _, _ | .cl .., _ | .u, _ => trivial
theorem SimVs.symm : ∀ vs : List V, SimVs σ τ vs → SimVs τ σ vs
  | [], _ => trivial
  | v :: vs, e => ⟨SimV.symm v e.1, SimVs.symm vs e.2⟩
end
mutual
theorem VR.ex {g : Gh} {w : World} : ∀ (v : V) (x : Value), VR g w σ.O (σ.up.length + 1) v x → ExV σ v
  | .row l n lo len s, x, h => by
    obtain ⟨hl, A, c, _, hr⟩ := h
    have e1 : σ.up.length + 1 - 1 - l = σ.up.length - l := by omega
    rw [e1] at hr
    have hO := St.O_obj σ l n (by omega)
    unfold RowV at hr
    rw [hO] at hr
    simp only [ExV, St.rowOf]
    split at hr
    · rename_i ho; left; first | (rw [ho]; simp only; rw [if_pos hr.2.1]; rfl) | (rw [if_pos hr.2.1]; rfl)
    · rename_i ho; left; first | (rw [ho]; simp only; rw [if_pos hr.2.1]; rfl) | (rw [if_pos hr.2.1]; rfl)
    · rename_i ho; right; left; exact ho
    · rename_i ho; right; right; simp [St.boxOf, ho]
    · exact hr.elim
  | .ptr l n off, x, h => by
    obtain ⟨hl, hr⟩ := h
    have e1 : σ.up.length + 1 - 1 - l = σ.up.length - l := by omega
    rw [e1] at hr
    have hO := St.O_obj σ l n (by omega)
    unfold PtrV at hr
    rw [hO] at hr
    simp only [ExV, St.boxOf]
    split at hr
    · rename_i ho; left; rw [ho]; rfl
    · rename_i ho; right; left; exact ho
    · rename_i ho; right; right; exact ⟨_, _, ho⟩
    · exact hr.elim
  | .rel l n i off, x, h => by
    obtain ⟨hl, hr⟩ := h
    have e1 : σ.up.length + 1 - 1 - l = σ.up.length - l := by omega
    rw [e1] at hr
    have hO := St.O_obj σ l n (by omega)
    unfold RelV at hr
    rw [hO] at hr
    simp only [ExV, St.relOf]
    split at hr
    · rename_i ho; left; rw [ho]
      obtain ⟨_, _, e, _, _, _, he, _⟩ := hr
      simp only [he]; rfl
    · rename_i ho; left; rw [ho]
      obtain ⟨_, _, e, _, _, _, he, _⟩ := hr
      simp only [he]; rfl
    · rename_i ho; right; exact ho
    · exact hr.elim
  | .ag cs, x, h => by obtain ⟨vs, _, h, _⟩ := h; exact VRs.ex cs vs h
  | .d .., _, _ | .dx .., _, _ | .nil _, _, _ | .pd _, _, _ | .tp _, _, _ | .cl .., _, _ | .u, _, _ => trivial
theorem VRs.ex {g : Gh} {w : World} : ∀ (vs : List V) (xs : List Value), VRs g w σ.O (σ.up.length + 1) vs xs → ExVs σ vs
  | [], _, _ => trivial
  | v :: vs, _, h => by obtain ⟨x, xs, rfl, h1, h2⟩ := h; exact ⟨VR.ex v x h1, VRs.ex vs xs h2⟩
end
theorem Rel.ex {g : Gh} {tmps : Array Value} {rts : Roots} {w : World} (h : Rel g σ tmps rts w) (t : Nat) : ExV σ (σ.get t) := VR.ex _ _ (h.sl t)
theorem swapL {x y : G} {σ₁ σ₂ : St} (hE : ExtOk E) (hex : ∀ t, ExV σ (σ.get t)) (hs : sep x y = true) (hx : x.i.isNR E = true) (hy : x.i.isN = true ∨ y.i.isNRW E = true) (h1 : Op1 P E σ x σ₁) (h2 : Op1 P E σ₁ y σ₂) :
    ∃ τ, Op1 P E σ y τ ∧ Op1 P E τ x σ₂ := by
  obtain ⟨d, v, hd, rfl, _⟩ := op1_stable (τ := σ) hE hx h1 (fun _ _ => rfl) (fun _ t _ => ExV.sim (Like.same fun _ _ => rfl) _ (hex t))
  simp only [sep, hd, Bool.and_eq_true, decide_eq_true_eq] at hs
  obtain ⟨⟨hs1, hs2⟩, hs3⟩ := hs
  have hs1 : d ∉ y.reads := by simpa using hs1
  obtain ⟨τ, hy1, rfl⟩ := op1_unset hE.set hs1 hs2 h2
  have hne : ∀ t ∈ x.reads, y.i.dst ≠ some t := fun t ht he => by
    rw [he] at hs3
    simp at hs3
    exact hs3 ht
  have hag : ∀ t ∈ x.reads, τ.get t = σ.get t := fun t ht => op1_get hE.get hy1 (hne t ht)
  obtain ⟨i, g⟩ := x
  obtain ⟨d', v', hd', he, hx1⟩ := op1_stable (τ := τ) hE hx h1 hag (fun hn t _ => ExV.sim (op1_like hE (by
    rcases hy with hy | hy
    · rw [hy] at hn; cases hn
    · exact hy) hy1) _ (hex t))
  have hd2 : i.dst = some d := hd
  rw [hd2] at hd'; cases hd'
  have hv : v = v' := by
    have := congrArg (fun ρ : St => ρ.get d) he
    simpa [St.get_set] using this
  subst hv
  exact ⟨τ, hy1, hx1⟩
theorem swapR {x y : G} {σ₁ σ₂ : St} (hE : ExtOk E) (hex : ∀ t, ExV σ (σ.get t)) (hs : sep x y = true) (hx : x.i.isNR E = true) (hy : x.i.isN = true ∨ y.i.isNRW E = true) (h1 : Op1 P E σ y σ₁) (h2 : Op1 P E σ₁ x σ₂) :
    ∃ τ, Op1 P E σ x τ ∧ Op1 P E τ y σ₂ := by
  obtain ⟨i, g⟩ := x
  have hsimp := hs
  have hag : ∀ t ∈ G.reads ⟨i, g⟩, σ₁.get t = σ.get t := fun t ht => op1_get hE.get h1 (fun he => by
    simp only [sep, Bool.and_eq_true, he] at hs
    have := hs.2
    simp at this
    exact this ht)
  obtain ⟨d, v, hd, rfl, hx1⟩ := op1_stable (τ := σ) hE hx h2 (fun t ht => (hag t ht).symm) (fun hn t ht => by
    have hlike : Like σ σ₁ := op1_like hE (by
      rcases hy with hy | hy
      · have : i.isN = true := hy
        rw [this] at hn; cases hn
      · exact hy) h1
    rw [hag t (by simp [G.reads, ht])]
    exact SimV.symm _ (ExV.sim hlike _ (hex t)))
  have hd2 : (⟨i, g⟩ : G).i.dst = some d := hd
  simp only [sep, hd2, Bool.and_eq_true, decide_eq_true_eq] at hs
  have hs1 : d ∉ y.reads := by simpa using hs.1.1
  exact ⟨σ.set d v, hx1, op1_set hE.set hs1 hs.1.2 h1⟩
theorem sep_symm {x y : G} (h : sep x y = true) (hd : ∀ d, x.i.dst = some d → y.i.dst ≠ some d) : sep y x = true := by
  simp only [sep, Bool.and_eq_true] at h ⊢
  obtain ⟨h1, h2⟩ := h
  constructor
  · cases hy : y.i.dst with
    | none => rfl
    | some e =>
      rw [hy] at h2
      simp only [Bool.and_eq_true, decide_eq_true_eq]
      exact ⟨h2, fun hx => hd e hx hy⟩
  · cases hx : x.i.dst with
    | none => rfl
    | some d => rw [hx] at h1; simp only [Bool.and_eq_true] at h1; exact h1.1
theorem swap {x y : G} {σ₁ σ₂ : St} (hE : ExtOk E) (hex : ∀ t, ExV σ (σ.get t)) (hc : com E x y = true) (h1 : Op1 P E σ x σ₁) (h2 : Op1 P E σ₁ y σ₂) : ∃ τ, Op1 P E σ y τ ∧ Op1 P E τ x σ₂ := by
  simp only [com, Bool.and_eq_true, Bool.or_eq_true] at hc
  obtain ⟨hs, hc⟩ := hc
  have nr : ∀ {z : G}, z.i.isN = true → z.i.isNR E = true := fun h => by simp [I.isNR, h]
  rcases hc with hc | hc
  · rcases hc with hc | hc
    · exact swapL hE hex hs (nr hc) (.inl hc) h1 h2
    · exact swapL hE hex hs hc.1 (.inr hc.2) h1 h2
  · have hs' : sep y x = true := sep_symm hs (fun d hd => by
      simp only [sep, hd, Bool.and_eq_true, decide_eq_true_eq] at hs
      exact hs.1.2)
    rcases hc with hc | hc
    · exact swapR hE hex hs' (nr hc) (.inl hc) h1 h2
    · exact swapR hE hex hs' hc.1 (.inr hc.2) h1 h2
end
end Go.Proofs.YtcgjebaomhfbdaaGreat.Vm

