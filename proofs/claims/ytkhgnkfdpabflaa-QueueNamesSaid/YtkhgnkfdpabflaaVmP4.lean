/- A machine for the seat's programs and its soundness, part 4. -/
import Derived.RangeFuncRecord
import Derived.Below
import Derived.Scope
import Derived.Test.YtkhgnkfdpabflaaVmP3
import GoSem.ClaimChange
import Derived.WalkKit
import Derived.ProofKit
import Derived.OpenShut
import Derived.ChangeOld
import Derived.Carry
import Derived.SizedLaws
import Derived.RowKit
import Derived.ChangeShapes
import Derived.Test.YtkhgnkfdpabflaaVmP1
/- Code in the frame of a round, too. -/
namespace Go.Proofs.Ytkhgnkfdpabflaa.Vm
open Go
def Wd (ro : Option Nat) : Fence := { Fence.wide with round := ro }
theorem room_Wd (ro : Option Nat) (n : Nat) : (Wd ro).room n := fun _ h => by simp [Wd, Fence.wide] at h
section
variable {P : Program} {E : Env} {ro : Option Nat} {g : Gh} {σ : St} {tmps : Array Value} {rts : Roots} {w : World} {Q : Exit → Act → World → Prop} {a : Act}
theorem wpIn_Wd {c : Code} : c.wpIn (Wd none) 0 P Q a w ↔ c.wp P Q a w := wpIn_wide (n := 0)
theorem callsIn_Wd {f : FuncId} {args : Array Value} {R : Ending → World → Prop} (h : Calls P f args w R) : CallsIn (Wd ro) 0 P f args w R :=
  (callsIn_wide.2 h : CallsIn Fence.wide 0 P f args w R)
theorem upon_in {o : Oper} {K : Act → World → Prop} {r : Result Go.Next} (h : o.upon P a K Q r) : o.uponIn (Wd ro) 0 P a K Q r := by
  cases r with
  | ok n w' =>
    cases n with
    | value v => exact h
    | skip => exact h
    | defer d => exact h
    | enter f args => exact ⟨fun h => (by cases h), callsIn_Wd h⟩
    | row row args => exact ⟨fun h => (by cases h), fun c cs _ => let ⟨v, w', r, s⟩ := h c cs; ⟨v, w', r, stepsIn_wide.2 s⟩⟩
    | _ => exact h.elim
  | halt x w' => cases x <;> first | exact h | exact h.elim
theorem okI_defer {nt : Nat} {i : I} {o : Oper} (h : okI P nt i o = true) (c : Call) : o.op ≠ .defer c := by
  intro hd
  unfold okI at h
  rw [hd, Bool.and_eq_true] at h
  have h := h.2
  cases i <;> cases h
theorem op1_defer {nt : Nat} {ops : Array Oper} {i : G} {o : Oper} {σ' : St} (hok : okG P nt ops i o = true) (h1 : Op1 P E σ i σ') (c : Call) : o.op ≠ .defer c := by
  simp only [okG, Bool.and_eq_true, Bool.or_eq_true] at hok
  rcases hok.2 with hok2 | hok2
  · exact okI_defer hok2 c
  · intro hd
    unfold okCall at hok2
    split at hok2
    · rename_i h; rw [hd] at h; cases h
    · rename_i h; rw [hd] at h; cases h
    · rename_i hi
      obtain ⟨i, gd⟩ := i
      simp only at hi
      subst hi
      cases h1 with
      | step hg hs => cases hs
      | skip hg =>
        have ho : o.guard = none := by simpa [okCall] using hok2
        have h1 := hok.1
        unfold okGd at h1
        rw [ho] at h1
        cases gd with
        | none => simp [St.wants] at hg
        | some x => simp at h1
    · cases hok2
theorem opwp_in {ops : Array Oper} {o : Oper} {K : Act → World → Prop} (hd : ∀ c, o.op ≠ .defer c) (h : OpWp P ops Q o K a w) :
    if Region.wanted o (yielded ops a.tmps) then o.wpIn (Wd ro) 0 P a w K Q else (∀ f, o.about P w a.eval = some f → (Wd ro).fn f) ∧ K (a.put o.dst undef) w := by
  unfold OpWp at h
  split
  · rename_i e
    rw [e] at h
    refine ⟨fun _ _ => trivial, ?_⟩
    rw [Oper.semAt_eq _ _ _ hd]
    exact upon_in h
  · rename_i e; rw [if_neg e] at h; exact ⟨fun _ _ => trivial, h⟩
theorem ops_wpIn (hE : EnvOk P E) {nt : Nat} {ops : Array Oper} {ds : List Deferred} {is : List G} {σ' : St} (h1 : Ops1 P E σ is σ') : ∀ {js : List Nat} {g : Gh} {tmps : Array Value} {w : World}, OkL P nt ops is js →
    Rel g σ tmps rts w → tmps.size = nt → (∀ a' w', Next g w rts nt σ.up.length σ' ds a' w' → Q .normal a' w') → wpOpsIn (Wd ro) 0 P ops Q js ⟨tmps, ds⟩ w := by
  induction h1 with
  | nil =>
    intro js g tmps w hL h hnt hQ
    cases hL
    exact hQ _ _ ⟨g, tmps, rfl, hnt, h, Adv.refl g w, rfl⟩
  | @cons σ σ₁ σ' i is h1 hr ih =>
    intro js g tmps w hL h hnt hQ
    cases hL with
    | @cons _ _ j js o hj ho hL =>
      unfold wpOpsIn
      simp only [hj]
      refine opwp_in (op1_defer ho h1) (op_wp (K := wpOpsIn (Wd ro) 0 P ops Q js) hE ho h hnt h1 (fun a' w' hn => ?_))
      obtain ⟨g1, tmps1, rfl, hs1, R1, A1, hup1⟩ := hn
      refine ih hL R1 hs1 (fun a2 w2 hn2 => hQ _ _ ?_)
      exact hn2.trans A1 hup1
def LoopWp (P : Program) (ro : Option Nat) (c : Code) (Q : Exit → Act → World → Prop) (a : Act) (w : World) : Prop :=
  ∀ (b : Frame) (k : List Item) (cs : List Frame), b.roundOf = ro → ∃ e a' w', Q e a' w' ∧ ArrivesIn (Machine.fenced P (Wd ro)) P (lone (b.atR a (.code c :: .inLoop c :: k)) cs w) b k cs e a' w'
theorem LoopWp.wp {c : Code} (h : LoopWp P ro c Q a w) : (Code.loop c).wpIn (Wd ro) 0 P Q a w :=
  fun b k cs hro hb hr => let ⟨e, a', w', q, r⟩ := h b k cs hro; ⟨e, a', w', q, .of_steps (.one (fenced_calm hb hr rfl) stepR_loop) r⟩
theorem LoopWp.round {c : Code} (h : c.wpIn (Wd ro) 0 P (Exit.then (LoopWp P ro c Q) Q) a w) : LoopWp P ro c Q a w := by
  intro b k cs hro
  obtain ⟨e, a₁, w₁, hq, harr⟩ := h b (.inLoop c :: k) cs hro trivial (room_Wd ro _)
  cases e with
  | normal =>
    obtain ⟨e₂, a₂, w₂, hq₂, harr₂⟩ := hq b k cs hro
    exact ⟨e₂, a₂, w₂, hq₂, .of_steps (StepsIn.trans harr (.one (fenced_calm (n := 0) trivial (room_Wd ro _) rfl) stepR_inLoop)) harr₂⟩
  | exit id => exact ⟨_, a₁, w₁, hq, .pass (x := .inLoop c) rfl (fun _ _ => .inl (by simp)) harr⟩
  | goto l => exact ⟨_, a₁, w₁, hq, .pass (x := .inLoop c) rfl (fun _ _ => .inl (by simp)) harr⟩
  | ret => exact ⟨_, a₁, w₁, hq, .pass (x := .inLoop c) rfl (fun _ _ => .inl (by simp)) harr⟩
  | panic ch => exact ⟨_, a₁, w₁, hq, .pass (x := .inLoop c) rfl (fun _ _ => .inl (by simp)) harr⟩
  | outgrown => exact ⟨_, a₁, w₁, hq, .pass (x := .inLoop c) rfl (fun _ _ => .inl (by simp)) harr⟩
theorem stepR_scope {b : Frame} {k : List Item} {cs : List Frame} {c : Code} : Go.step P (lone (b.atR a (.code (.scope c) :: k)) cs w) = .next (lone (b.atR a (.code c :: .inScope c :: k)) cs w) :=
  step_lone_go (by simp [stepG, stepG.exec, Frame.atR])
theorem stepR_inScope {b : Frame} {k : List Item} {cs : List Frame} {c : Code} : Go.step P (lone (b.atR a (.inScope c :: k)) cs w) = .next (lone (b.atR a k) cs w) :=
  step_lone_go (by simp [stepG, stepG.exec, Frame.atR])
theorem wpIn_scope {c : Code} (h : c.wpIn (Wd ro) 0 P (Exit.noGoto Q) a w) : (Code.scope c).wpIn (Wd ro) 0 P Q a w := by
  intro b k cs hro hb hr
  obtain ⟨e, a₁, w₁, hq, harr⟩ := h b (.inScope c :: k) cs hro hb hr
  have h0 : (lone (b.atR a (.code (.scope c) :: k)) cs w).fenced P (Wd ro) := fenced_calm hb hr rfl
  have hx : ∀ id, exitTo id (.inScope c :: k) = exitTo id k := fun id => by simp [exitTo]
  cases e with
  | normal => exact ⟨.normal, a₁, w₁, hq, .head h0 stepR_scope (StepsIn.trans harr (.one (fenced_calm hb hr rfl) stepR_inScope))⟩
  | exit id => exact ⟨.exit id, a₁, w₁, hq, fun k' hk => .head h0 stepR_scope (harr.1 k' (by rw [hx]; exact hk)),
      fun hr' hk => let ⟨k₁, h1, h2⟩ := harr.2 hr' (by rw [hx]; exact hk); ⟨k₁, h1, .head h0 stepR_scope h2⟩⟩
  | goto l => exact hq.elim
  | ret => exact ⟨_, a₁, w₁, hq, .of_steps (.one h0 stepR_scope) harr⟩
  | panic ch => exact ⟨_, a₁, w₁, hq, .of_steps (.one h0 stepR_scope) harr⟩
  | outgrown => exact ⟨_, a₁, w₁, hq, .of_steps (.one h0 stepR_scope) harr⟩
def CodeGoal (P : Program) (ro : Option Nat) (c : Code) (Q : Exit → Act → World → Prop) (a : Act) (w : World) : Prop := match c with
  | .loop c => LoopWp P ro c Q a w
  | c => c.wpIn (Wd ro) 0 P Q a w
theorem CodeGoal.wp {c : Code} (h : CodeGoal P ro c Q a w) : c.wpIn (Wd ro) 0 P Q a w := by
  cases c with
  | loop c => exact LoopWp.wp h
  | _ => exact h
structure Foreign (g : Gh) (w : World) (b : Nat) : Prop where
  own : g.own b = none
  ok : ¬ g.ok b
  base : g.base ≤ b
  lt : b < w.heap.size
theorem Foreign.adv {g' : Gh} {w' : World} {b : Nat} (h : Foreign g w b) (A : Adv g w g' w') : Foreign g' w' b ∧ w'.heap[b]? = w.heap[b]? := by
  have hn : g'.own b = none := by
    cases ho : g'.own b with
    | none => rfl
    | some x => rcases A.ownNew b (by rw [ho]; simp) with h1 | h1
                · exact absurd h.own h1
                · have := h.lt; omega
  refine ⟨⟨hn, fun hk => ?_, by rw [A.base]; exact h.base, Nat.lt_of_lt_of_le h.lt A.size⟩, A.heap b h.lt h.own⟩
  rcases A.okNew b hk with h1 | h1 | h1
  · exact h.ok h1
  · have := h.lt; omega
  · exact h1 h.own
theorem Rel.world (h : Rel g σ tmps rts w) {w' : World} (hh : ∀ x, g.ok x ∨ x < g.base ∨ g.own x ≠ none → w'.heap[x]? = w.heap[x]?) (hs : w.heap.size ≤ w'.heap.size) : Rel g σ tmps rts w' := by
  have G : Grow (fun _ _ => False) g w σ.O g w' σ.O := ⟨rfl, fun _ h => h, hh, fun _ _ _ _ h => h, fun _ _ _ => rfl, fun _ _ _ => rfl⟩
  have K : ∀ D, Keep D (fun _ _ => False) g w σ.O g w' σ.O := fun D => G.keep
  refine ⟨fun i => VR.keep' (K _) (Nat.le_refl _) (h.sl i), fun a n o ha ho => ?_, fun r hr => ⟨(h.rt r hr).1, VR.keep' (K _) (Nat.le_refl _) (h.rt r hr).2⟩, fun x a n hx => ?_, fun x hx => ?_, Nat.le_trans h.base hs⟩
  · have hold := h.ob a n o ha ho
    cases o with
    | box cs =>
      obtain ⟨h1, vs, el, h2, h3, h4⟩ := hold
      exact ⟨h1, vs, el, by rw [hh _ (.inr (.inr (by rw [h1]; simp)))]; exact h2, VRs.keep' (K _) (Nat.le_refl _) h3, h4⟩
    | rw s es gr =>
      rcases hold with hold | ⟨h1, h2, cs, el, h3, h4, h5⟩
      · exact .inl hold
      · have hne1 := hh _ (.inr (.inr (by rw [h1]; simp)))
        refine .inr ⟨h1, h2, cs, el, by rw [hne1]; exact h3, h4, ?_⟩
        exact DenR.mono (fun x hx => hh x (.inl hx)) (fun _ h => h) _ _ hne1 _ _ h5
    | fz s es => trivial
    | gone => trivial
  · have := h.own x a n hx
    exact ⟨Nat.lt_of_lt_of_le this.1 hs, this.2⟩
  · exact Nat.lt_of_lt_of_le (h.okb x hx) hs
theorem Rel.put (h : Rel g σ tmps rts w) {b : Nat} (hF : Foreign g w b) (o : Obj) : Rel g σ tmps rts (w.putObj b o) :=
  h.world (fun x hx => World.putObj_heap_other fun he => by
    subst he
    rcases hx with hx | hx | hx
    · exact hF.ok hx
    · have := hF.base; omega
    · exact hx hF.own) (by simp)
theorem Foreign.put {b c : Nat} (h : Foreign g w b) (o : Obj) : Foreign g (w.putObj c o) b := ⟨h.own, h.ok, h.base, by simpa using h.lt⟩
theorem Adv.put {g0 : Gh} {w0 : World} {b : Nat} (A : Adv g0 w0 g w) (hb : w0.heap.size ≤ b) (o : Obj) : Adv g0 w0 g (w.putObj b o) :=
  ⟨A.base, A.ok, A.okNew, A.ownNew, fun x hx hn => (World.putObj_heap_other (by omega)).trans (A.heap x hx hn), by simpa using A.size, A.os, A.tape, A.output⟩
theorem Adv.allocO (o : Obj) : Adv g w g (w.alloc o) :=
  ⟨rfl, fun _ h => h, fun _ h => .inl h, fun _ h => .inl h, fun x hx _ => RowKit.Below.heap_alloc w o x hx, by simp, rfl, rfl, rfl⟩
theorem Rel.allocO (h : Rel g σ tmps rts w) (o : Obj) : Rel g σ tmps rts (w.alloc o) :=
  h.world (fun x hx => RowKit.Below.heap_alloc w o x (by
    rcases hx with hx | hx | hx
    · exact h.okb x hx
    · exact Nat.lt_of_lt_of_le hx h.base
    · cases ho : g.own x with
      | none => exact absurd ho hx
      | some y => exact (h.own x y.1 y.2 ho).1)) (by simp)
theorem Foreign.allocO (h : Rel g σ tmps rts w) (o : Obj) : Foreign g (w.alloc o) w.heap.size := by
  refine ⟨?_, fun hk => ?_, h.base, by simp⟩
  · cases ho : g.own w.heap.size with
    | none => rfl
    | some y => have := (h.own _ y.1 y.2 ho).1; omega
  · have := h.okb _ hk; omega
def DsOk (n0 : Nat) (g : Gh) (w : World) : List Deferred → Prop
  | [] => n0 ≤ w.heap.size
  | d :: ds => (∃ r, d.target = .collected r ∧ w.heap[r]? = some (.deferred (some [])) ∧ Foreign g w r ∧ n0 ≤ r ∧ ∀ d' ∈ ds, d'.target ≠ .collected r) ∧ DsOk n0 g w ds
theorem DsOk.adv {n0 : Nat} {g' : Gh} {w' : World} (A : Adv g w g' w') : ∀ {ds : List Deferred}, DsOk n0 g w ds → DsOk n0 g' w' ds
  | [], h => Nat.le_trans h A.size
  | d :: ds, ⟨⟨r, h1, h2, h3, h4⟩, h5⟩ => by
    obtain ⟨q1, q2⟩ := h3.adv A
    exact ⟨⟨r, h1, by rw [q2]; exact h2, q1, h4⟩, DsOk.adv A h5⟩
theorem DsOk.put {n0 b : Nat} (o : Obj) : ∀ {ds : List Deferred}, (∀ d ∈ ds, d.target ≠ .collected b) → DsOk n0 g w ds → DsOk n0 g (w.putObj b o) ds
  | [], _, h => by simpa [DsOk] using h
  | d :: ds, hb, ⟨⟨r, h1, h2, h3, h4⟩, h5⟩ => by
    have hr : r ≠ b := fun e => hb d (by simp) (by rw [h1, e])
    exact ⟨⟨r, h1, by rw [World.putObj_heap_other hr]; exact h2, h3.put o, h4⟩, DsOk.put o (fun d hd => hb d (by simp [hd])) h5⟩
theorem DsOk.lt {n0 : Nat} : ∀ {ds : List Deferred} {r : Nat}, DsOk n0 g w ds → (∃ d ∈ ds, d.target = .collected r) → r < w.heap.size
  | [], _, _, ⟨_, h, _⟩ => by cases h
  | d :: ds, r, ⟨⟨r', h1, _, h3, _⟩, h5⟩, ⟨d', hd, he⟩ => by
    rcases List.mem_cons.1 hd with rfl | hd
    · rw [h1] at he; cases he; exact h3.lt
    · exact DsOk.lt h5 ⟨d', hd, he⟩
theorem DsOk.le {n0 : Nat} : ∀ {ds : List Deferred}, DsOk n0 g w ds → n0 ≤ w.heap.size
  | [], h => h
  | _ :: _, h => DsOk.le h.2
def NextD (nr : Bool) (n0 : Nat) (g : Gh) (w : World) (rts : Roots) (nt n : Nat) (σ' : St) (ds : List Deferred) (a' : Act) (w' : World) : Prop :=
  ∃ g' tmps' ds', a' = ⟨tmps', ds'⟩ ∧ tmps'.size = nt ∧ Rel g' σ' tmps' rts w' ∧ Adv g w g' w' ∧ σ'.up.length = n ∧ DsOk n0 g' w' ds' ∧ (nr = true → ds' = ds)
theorem Next.toD {nr : Bool} {n0 nt n : Nat} {σ' : St} {ds : List Deferred} {a' : Act} {w' : World} (hd : DsOk n0 g w ds) (h : Next g w rts nt n σ' ds a' w') : NextD nr n0 g w rts nt n σ' ds a' w' := by
  obtain ⟨g', tmps', ha, hs, R, A, hu⟩ := h
  exact ⟨g', tmps', ds, ha, hs, R, A, hu, hd.adv A, fun _ => rfl⟩
theorem opwp_mono {ops : Array Oper} {o : Oper} {K K' : Act → World → Prop} (h : OpWp P ops Q o K a w) (hk : ∀ a' w', (∃ v, a'.tmps = (a.put o.dst v).tmps) → K a' w' → K' a' w') : OpWp P ops Q o K' a w := by
  unfold OpWp at h ⊢
  split
  · rename_i e
    rw [e] at h
    simp only [if_true] at h
    unfold Oper.wp at h ⊢
    generalize (execOp a.eval o).run P w = r at h ⊢
    cases r with
    | ok n w' =>
      cases n with
      | value v => exact hk _ _ ⟨v, rfl⟩ h
      | skip => exact hk _ _ ⟨undef, rfl⟩ h
      | defer d => exact hk _ _ ⟨undef, by cases o.dst <;> rfl⟩ h
      | enter f args =>
        refine Calls.mono h fun e w'' he => ?_
        cases e with
        | returned v => exact hk _ _ ⟨v, rfl⟩ he
        | panicked c => exact he
        | outgrown => exact he
      | row row args => exact Rows.mono h fun v w'' hr => hk _ _ ⟨v, rfl⟩ hr
      | _ => exact h
    | halt x w' => cases x <;> exact h
  · rename_i e; rw [if_neg e] at h; exact hk _ _ ⟨undef, rfl⟩ h
theorem op1_dst {nt : Nat} {ops : Array Oper} {i : G} {o : Oper} {σ' : St} (hok : okG P nt ops i o = true) (h1 : Op1 P E σ i σ') : o.dst = i.i.dst := by
  simp only [okG, Bool.and_eq_true, Bool.or_eq_true] at hok
  rcases hok.2 with hok2 | hok2
  · exact (okI.dst hok2).1
  · refine (okCall.dst (fun hi => ?_) hok2).1
    obtain ⟨i, gd⟩ := i
    simp only at hi
    subst hi
    cases h1 with
    | step hg hs => cases hs
    | skip hg =>
      have ho : o.guard = none := by simpa [okCall] using hok2
      have h1 := hok.1
      unfold okGd at h1
      rw [ho] at h1
      cases gd with
      | none => simp [St.wants] at hg
      | some x => simp at h1
theorem op_wpT (hE : EnvOk P E) {nt : Nat} {i : G} {o : Oper} {ops : Array Oper} {K : Act → World → Prop} {ds : List Deferred} {σ' : St} (hok : okG P nt ops i o = true) (h : Rel g σ tmps rts w) (hnt : tmps.size = nt)
    (h1 : Op1 P E σ i σ') (hK : ∀ a' w', Next g w rts nt σ.up.length σ' ds a' w' → (∀ s, i.i.dst ≠ some s → a'.tmps.getD s undef = tmps.getD s undef) → K a' w') : OpWp P ops Q o K ⟨tmps, ds⟩ w := by
  refine opwp_mono (op_wp (K := fun a' w' => Next g w rts nt σ.up.length σ' ds a' w') hE hok h hnt h1 (fun _ _ h => h)) fun a' w' ⟨v, hv⟩ hn => hK a' w' hn fun s hs => ?_
  rw [hv, op1_dst hok h1]
  cases hd : i.i.dst with
  | none => rfl
  | some d =>
    have hne : d ≠ s := fun e => hs (by rw [hd, e])
    simp [Act.put, Array.getD_eq_getD_getElem?, Array.getElem?_setIfInBounds_ne hne]
theorem move_wpT {nt d s : Nat} {o : Oper} {ops : Array Oper} {K : Act → World → Prop} {ds : List Deferred} (hok : okG P nt ops ⟨.mv d (.t s), none⟩ o = true) (h : Rel g σ tmps rts w) (hnt : tmps.size = nt)
    (hK : d < nt → K ⟨tmps.setIfInBounds d (tmps.getD s undef), ds⟩ w) : OpWp P ops Q o K ⟨tmps, ds⟩ w := by
  simp only [okG, Bool.and_eq_true, Bool.or_eq_true] at hok
  have hwt := wanted_of (t := true) hok.1 h rfl
  unfold OpWp
  rw [hwt]
  simp only [if_true]
  rcases hok.2 with hok | hok
  · have hd := okI.dst hok
    unfold okI at hok
    rw [Bool.and_eq_true] at hok
    have h2 := hok.2
    have key : ∀ p, okX (.t s) p = true → evalT tmps p = tmps.getD s undef := fun p hp => by
      cases p with
      | tmp t =>
        have : s = t := by simpa [okX] using hp
        subst this; rfl
      | _ => simp [okX] at hp
    unfold Oper.wp
    rw [Act.eval_T]
    cases hop : o.op with
    | move p =>
      rw [hop] at h2
      have : (execOp (evalT tmps) o).run P w = .ok (.value (evalT tmps p)) w := by unfold execOp; simp only [hop]; rfl
      rw [this, Oper.upon_value, hd.1, key p h2]
      exact hK (hd.2 d rfl)
    | assign p =>
      rw [hop] at h2
      have : (execOp (evalT tmps) o).run P w = .ok (.value (evalT tmps p)) w := by unfold execOp; simp only [hop]; rfl
      rw [this, Oper.upon_value, hd.1, key p h2]
      exact hK (hd.2 d rfl)
    | _ => rw [hop] at h2; cases h2
  · unfold okCall at hok
    split at hok
    · rename_i hi _; cases hi
    · rename_i hi _; cases hi
    · rename_i hi; cases hi
    · cases hok
end
end Go.Proofs.Ytkhgnkfdpabflaa.Vm
/- Code: what the machine's run says of Go's. -/
namespace Go.Proofs.Ytkhgnkfdpabflaa.Vm
open Go
def okRg (P : Program) (E : Env) (nt : Nat) (dr : Bool) (is : List G) (ops : Array Oper) (os : List (List Nat)) : Bool :=
  decide (is.length = ops.size) && ((List.range ops.size).all fun i => match ops[i]? with | some o => okG P nt ops (itG is i) o | none => false) && (!dr || okDraw E is ops os)
def okCode (P : Program) (E : Env) (nt : Nat) : C → Code → Bool
  | .skip, .skip => true
  | .skip, .label _ => true
  | .rg _ dr _ is os, .region _ ops dr' => (dr == dr') && okRg P E nt dr is ops os
  | .seq a b, .seq x y => okCode P E nt a x && okCode P E nt b y
  | .seq .skip a, .scope x => okCode P E nt a x
  | .cond x a b, .cond p c d => okX x p && okCode P E nt a c && okCode P E nt b d
  | .block i a, .block j b => decide (i = j) && okCode P E nt a b
  | .loop a, .loop b => okCode P E nt a b
  | .exit i, .exit j => decide (i = j)
  | .ret, .ret => true
  | .rfun x ps a b, .rangeFunc p qs c d => okX x p && decide (qs.toList = ps) && ps.all (fun q => decide (q < nt)) && okCode P E nt a c && okCode P E nt b d
  | .bad, _ => true
  | _, _ => false
def okRv (P : Program) : List Rv → List ResultVar → Bool
  | [], [] => true
  | .s t :: rs, .tmp u :: us => decide (t = u) && okRv P rs us
  | .c t w :: rs, .cell u ty :: us => decide (t = u) && isW P ty w && okRv P rs us
  | _, _ => false
def exitOf : Ex → Exit
  | .normal => .normal
  | .exit id => .exit id
  | .ret => .ret
section
variable {P : Program} {E : Env} {g : Gh} {σ : St} {tmps : Array Value} {rts : Roots} {w : World}
theorem Rel.nrw {d m : Nat} {σ' : St} (h : Rel g σ tmps rts w) (e : σ.nrw d m = some σ') : ∃ g', Rel g' σ' tmps rts w ∧ Adv g w g' w ∧ σ'.up.length = σ.up.length := by
  unfold St.nrw at e
  split at e
  · rename_i s hd
    obtain ⟨τ, hn, rfl⟩ := map_some e
    obtain ⟨hno, rfl⟩ := new_some hn
    have hv0 := h.sl d
    rw [hd] at hv0
    obtain ⟨A, hA⟩ := hv0
    obtain ⟨R, K, Ad, hv⟩ := h.newNil (s := s) (gr := false) hno A
    refine ⟨_, ⟨fun i => ?_, fun a n o ha ho => ?_, fun r hr => ?_, R.own, R.okb, R.base⟩, Ad, rfl⟩
    · rw [St.O_set, St.get_set]
      by_cases hi : d = i
      · subst hi
        rw [if_pos rfl, hA]
        exact hv
      · rw [if_neg hi]; exact R.sl i
    · rw [St.O_set] at ho ⊢; exact R.ob a n o ha ho
    · rw [St.O_set]; exact R.rt r hr
  · cases e; exact ⟨g, h, Adv.refl g w, rfl⟩
theorem pre_sound : ∀ (fs : List F) {g : Gh} {σ σ₁ : St}, Rel g σ tmps rts w → pre σ fs = some σ₁ → ∃ g', Rel g' σ₁ tmps rts w ∧ Adv g w g' w ∧ σ₁.up.length = σ.up.length
  | [], g, σ, σ₁, h, e => by simp only [pre, Option.some.injEq] at e; subst e; exact ⟨g, h, Adv.refl g w, rfl⟩
  | .frz m :: fs, g, σ, σ₁, h, e => by
    simp only [pre] at e
    obtain ⟨g1, R1, _, A1, _⟩ := h.frzs [m]
    obtain ⟨g2, R2, A2, hup⟩ := pre_sound fs (σ := σ.frz1 m) R1 e
    exact ⟨g2, R2, A1.trans A2, by rw [hup]; exact congrArg List.length (St.up_frz σ [m])⟩
  | .pur m :: fs, g, σ, σ₁, h, e => by
    simp only [pre] at e
    obtain ⟨g2, R2, A2, hup⟩ := pre_sound fs (h.pur m) e
    exact ⟨g2, R2, A2, by rw [hup, St.up_pur]⟩
  | .kill a b :: fs, g, σ, σ₁, h, e => by
    simp only [pre] at e
    obtain ⟨g2, R2, A2, hup⟩ := pre_sound fs (h.kill a b) e
    exact ⟨g2, R2, A2, by rw [hup, St.up_kill]⟩
  | .settle m :: fs, g, σ, σ₁, h, e => by
    simp only [pre] at e
    split at e
    · rename_i σ2 hs
      obtain ⟨R, hup⟩ := h.settle hs
      obtain ⟨g2, R2, A2, hup2⟩ := pre_sound fs R e
      exact ⟨g2, R2, A2, by rw [hup2, hup]⟩
    · cases e
  | .nrw d m :: fs, g, σ, σ₁, h, e => by
    simp only [pre] at e
    split at e
    · rename_i σ2 hs
      obtain ⟨g1, R, A1, hup⟩ := h.nrw hs
      obtain ⟨g2, R2, A2, hup2⟩ := pre_sound fs R e
      exact ⟨g2, R2, A1.trans A2, by rw [hup2, hup]⟩
    · cases e
  | .ren a b :: fs, g, σ, σ₁, h, e => by
    simp only [pre] at e
    split at e
    · cases e
    · rename_i hab
      obtain ⟨g1, R, A1⟩ := h.ren hab
      obtain ⟨g2, R2, A2, hup2⟩ := pre_sound fs R e
      exact ⟨g2, R2, A1.trans A2, hup2⟩
theorem okRg.facts {nt : Nat} {dr : Bool} {is : List G} {ops : Array Oper} {os : List (List Nat)} (h : okRg P E nt dr is ops os = true) :
    is.length = ops.size ∧ (∀ i, i < ops.size → ∃ o, ops[i]? = some o ∧ okG P nt ops (itG is i) o = true) ∧ (dr = true → okDraw E is ops os = true) := by
  simp only [okRg, Bool.and_eq_true, decide_eq_true_eq, Bool.or_eq_true, Bool.not_eq_true'] at h
  obtain ⟨⟨h1, h2⟩, h3⟩ := h
  refine ⟨h1, fun i hi => ?_, fun hd => ?_⟩
  · have := List.all_eq_true.1 h2 i (List.mem_range.2 hi)
    split at this
    · rename_i o ho; exact ⟨o, ho, this⟩
    · cases this
  · rcases h3 with h3 | h3
    · rw [hd] at h3; cases h3
    · exact h3
theorem itG_map {is : List G} {n : Nat} (h : is.length = n) : (List.range n).map (itG is) = is := by
  apply List.ext_getElem?
  intro i
  simp only [List.getElem?_map]
  by_cases hi : i < n
  · rw [List.getElem?_range hi]; simp [itG, List.getElem?_eq_getElem (show i < is.length by omega)]
  · rw [List.getElem?_eq_none (by simp; omega), List.getElem?_eq_none (by omega)]; rfl
theorem OkL.of {nt : Nat} {is : List G} {ops : Array Oper} (h : ∀ i, i < ops.size → ∃ o, ops[i]? = some o ∧ okG P nt ops (itG is i) o = true) : ∀ js : List Nat, (∀ j ∈ js, j < ops.size) → OkL P nt ops (js.map (itG is)) js
  | [], _ => .nil
  | j :: js, hj => by
    obtain ⟨o, ho, hok⟩ := h j (hj j (by simp))
    exact .cons ho hok (OkL.of h js fun k hk => hj k (by simp [hk]))
theorem pick_map {is : List G} : ∀ {o : List Nat}, (∀ j ∈ o, j < is.length) → pick is o = o.map (itG is)
  | [], _ => rfl
  | j :: o, h => by
    have hj := h j (by simp)
    simp only [pick, List.filterMap_cons, List.getElem?_eq_getElem hj, List.map_cons, itG, List.getD_eq_getElem?_getD, Option.getD_some]
    rw [← pick_map (is := is) (o := o) (fun k hk => h k (by simp [hk]))]
    rfl
theorem region_wp (hE : EnvOk P E) (hX : ExtOk E) (hm : P.follows .mixedOrders = true) {nt id : Nat} {dr : Bool} {is : List G} {ops : Array Oper} {os : List (List Nat)} {σ' : St} {ds : List Deferred} {Q : Exit → Act → World → Prop} {ro : Option Nat} (hok : okRg P E nt dr is ops os = true)
    (h1 : Ops1 P E σ is σ') (hos : ∀ o ∈ os, Ops1 P E σ (pick is o) σ') (h : Rel g σ tmps rts w) (hnt : tmps.size = nt) (hQ : ∀ a' w', Next g w rts nt σ.up.length σ' ds a' w' → Q .normal a' w') : (Code.region id ops dr).wpIn (Wd ro) 0 P Q ⟨tmps, ds⟩ w := by
  obtain ⟨hlen, hall, hdr⟩ := okRg.facts hok
  cases dr with
  | false =>
    refine wpIn_region (ops_wpIn hE h1 ?_ h hnt hQ)
    have := OkL.of hall (List.range ops.size) (fun j hj => List.mem_range.1 hj)
    rwa [itG_map hlen] at this
  | true =>
    refine wpIn_region_draw fun t => ?_
    simp only [Region.schedule, hm, Bool.true_or, if_true]
    have hd := hdr rfl
    obtain ⟨r, hr, hlt, hc⟩ := sched_any hd t
    have hg : Good nt σ := ⟨g, tmps, rts, w, h, hnt⟩
    have hao : AllOk P nt ops (r.map (itG is)) := fun i hi => by
      obtain ⟨j, hj, rfl⟩ := List.mem_map.1 hi
      obtain ⟨o, _, ho⟩ := hall j (hlt j hj)
      exact ⟨o, ho⟩
    have hrun : Ops1 P E σ (r.map (itG is)) σ' := by
      rcases hr with rfl | hr
      · rw [itG_map hlen]; exact h1
      · rw [← pick_map (fun j hj => by rw [hlen]; exact hlt j hj)]; exact hos r hr
    have h2 := lin hE hX hc hg hao hrun
    have hL := OkL.of hall _ (fun j hj => hlt j (hc.perm.mem_iff.1 hj))
    refine ops_wpIn hE h2 hL (h.same (w' := { w with drawn := w.drawn + 1 }) rfl) hnt (fun a' w' hn => hQ a' w' ?_)
    obtain ⟨g', tmps', ha, hs, R, Ad, hup⟩ := hn
    exact ⟨g', tmps', ha, hs, R, Adv.trans Adv.drew Ad, hup⟩
structure FnsOk (P : Program) (E : Env) : Prop where
  fn : ∀ f F, E.fn f = some F → ∃ fn c, P.funcs[f]? = some fn ∧ fn.body = some c ∧ okRv P F.res fn.results.toList = true ∧ ∀ nt, fn.ntmps ≤ nt → okCode P E nt F.code c = true
def codeEx : Ex → Code
  | .exit id => .exit id
  | _ => .ret
def stOf : Option Ex → LoopState
  | none => .ready
  | some _ => .done
def recAt (r : Loop) (j : Option Ex) : Loop := { r with state := stOf j, pending := j.map codeEx }
structure LoopAt (l : Nat) (r : Loop) (j : Option Ex) (g : Gh) (w : World) : Prop where
  rc : w.heap[l]? = some (.loop (recAt r j))
  fgn : Foreign g w l
  nn : j ≠ some .normal
structure LoopC (P : Program) (E : Env) (y : Yc) (l : Nat) (r : Loop) (D : Nat) (w0 : World) (rts : Roots) : Prop where
  ps : r.params.toList = y.ps
  lt : ∀ p ∈ y.ps, p < r.tmps.size
  a : okCode P E r.tmps.size y.a r.assign = true
  b : okCode P E r.tmps.size y.b r.body = true
  na : y.a.noRf = true
  nb : y.b.noRf = true
  rts : ∀ i, i < y.sl.length → (D, gt .u y.sl i, r.tmps.getD i undef) ∈ rts
  new : w0.heap.size ≤ l
def isYield (l : Nat) (v : Value) : Prop := v = .func (.yield l) #[] #[]
def NextI (l : Nat) (r : Loop) (j : Option Ex) (g0 : Gh) (w0 : World) (rts : Roots) (nt n : Nat) (σ' : St) (ys : List Nat) (a' : Act) (w' : World) : Prop :=
  ∃ g' tmps', a' = ⟨tmps', []⟩ ∧ tmps'.size = nt ∧ (∀ s ∈ ys, isYield l (tmps'.getD s undef)) ∧ Rel g' σ' tmps' rts w' ∧ Adv g0 w0 g' w' ∧ σ'.up.length = n ∧ LoopAt l r j g' w'
def Mot (P : Program) (E : Env) : Task → Res → Prop
  | .code c σ, .code e σ' => ∀ ro nt mc, (ro = none ∨ c.noRf = true) → okCode P E nt c mc = true → ∀ g tmps rts w ds n0, Rel g σ tmps rts w → tmps.size = nt → DsOk n0 g w ds →
      ∀ Q, (∀ a' w', NextD c.noRf n0 g w rts nt σ.up.length σ' ds a' w' → Q (exitOf e) a' w') → CodeGoal P ro mc Q ⟨tmps, ds⟩ w
  | .ops is σ, .ops σ' => Ops1 P E σ is σ'
  | .fn f as up, .fn v σ => FnSem P f as up v σ
  | .icode y j c σ, .icode j' e σ' => ∀ nt mc, c.noRf = true → okCode P E nt c mc = true → ∀ l r g0 w0 rts, LoopC P E y l r σ.up.length w0 rts → ∀ g tmps w, Rel g σ tmps rts w → tmps.size = nt → isYield l (tmps.getD 0 undef) → LoopAt l r j g w → Adv g0 w0 g w →
      ∀ Q, (∀ a' w', NextI l r j' g0 w0 rts nt σ.up.length σ' [0] a' w' → Q (exitOf e) a' w') → CodeGoal P none mc Q ⟨tmps, []⟩ w
  | .iops y j ys is σ, .iops j' σ' => ∀ nt ops js, OkL P nt ops is js → ∀ l r g0 w0 rts, LoopC P E y l r σ.up.length w0 rts → 0 ∈ ys → ∀ g tmps w, Rel g σ tmps rts w → tmps.size = nt → (∀ s ∈ ys, isYield l (tmps.getD s undef)) → LoopAt l r j g w → Adv g0 w0 g w →
      ∀ Q, (∀ a' w', NextI l r j' g0 w0 rts nt σ.up.length σ' [0] a' w' → Q .normal a' w') → wpOpsIn (Wd none) 0 P ops Q js ⟨tmps, []⟩ w
  | _, _ => True
end
end Go.Proofs.Ytkhgnkfdpabflaa.Vm
/- Rounds of a loop over a function. -/
namespace Go.Proofs.Ytkhgnkfdpabflaa.Vm
open Go
section
variable {P : Program} {E : Env} {g : Gh} {σ : St} {tmps : Array Value} {rts : Roots} {w : World}
theorem gt_shifts (k : Nat) : ∀ (cs : List V) (i : Nat), gt .u (V.shifts k cs) i = V.shift k (gt .u cs i)
  | [], i => by simp [V.shifts, gt, V.shift]
  | c :: cs, 0 => rfl
  | c :: cs, i + 1 => gt_shifts k cs i
theorem Rel.sets {ob : Lv} {up : List Lv} : ∀ (ps : List Nat) (vs : List V) (xs : List Value) {sl : List V} {tl : Array Value}, Rel g ⟨sl, ob, up⟩ tl rts w → VRs g w (⟨[], ob, up⟩ : St).O (up.length + 1) vs xs → (∀ p ∈ ps, p < tl.size) →
    Rel g ⟨setsl sl ps vs, ob, up⟩ ((ps.zip xs).foldl (fun t p => t.setIfInBounds p.1 p.2) tl) rts w ∧ ((ps.zip xs).foldl (fun t p => t.setIfInBounds p.1 p.2) tl).size = tl.size
  | [], vs, xs, sl, tl, h, _, _ => by
    simp only [setsl, List.zip_nil_left, List.foldl_nil]; exact ⟨h, trivial⟩
  | p :: ps, [], xs, sl, tl, h, hv, _ => by
    simp only [VRs] at hv
    subst hv
    simp only [setsl, List.zip_nil_right, List.foldl_nil]; exact ⟨h, trivial⟩
  | p :: ps, v :: vs, xs, sl, tl, h, hv, hp => by
    obtain ⟨x, xs, rfl, h1, h2⟩ := hv
    have h3 : Rel g ⟨st .u sl p v, ob, up⟩ (tl.setIfInBounds p x) rts w := Rel.set h (hp p (by simp)) h1
    obtain ⟨q1, q2⟩ := Rel.sets ps vs xs h3 h2 (fun q hq => by rw [Array.size_setIfInBounds]; exact hp q (by simp [hq]))
    simp only [setsl, List.zip_cons_cons, List.foldl_cons]
    exact ⟨q1, by rw [q2, Array.size_setIfInBounds]⟩
theorem VRs.shift1 {O : Obs} {D : Nat} {vs : List V} {xs : List Value} (h : VRs g w O D vs xs) : VRs g w O (D + 1) (V.shifts 1 vs) xs :=
  VRs.shift (k := 1) (D := D + 1) (by omega) vs xs h
theorem Rel.atRound (h : Rel g σ tmps rts w) {y : Yc} {r : Loop} (hr : ∀ i, i < y.sl.length → (σ.up.length, gt .u y.sl i, r.tmps.getD i undef) ∈ rts) (hps : r.params.toList = y.ps) (hlt : ∀ p ∈ y.ps, p < r.tmps.size) {vs : List V} {args : Array Value}
    (hv : VRs g w σ.O (σ.up.length + 1) vs args.toList) :
    Rel g (roundSt y σ vs) ((r.params.zip args).foldl (fun t p => t.setIfInBounds p.1 p.2) r.tmps) (slotRoots σ tmps ++ rts) w ∧ ((r.params.zip args).foldl (fun t p => t.setIfInBounds p.1 p.2) r.tmps).size = r.tmps.size := by
  have R0 := h.enter (vs := []) (args := #[]) rfl
  have hO : (⟨V.shifts 1 [], [], σ.ob :: σ.up⟩ : St).O = σ.O := St.O_enter σ _
  have R1 : Rel g ⟨V.shifts 2 y.sl, [], σ.ob :: σ.up⟩ r.tmps (slotRoots σ tmps ++ rts) w := by
    refine ⟨fun i => ?_, R0.ob, R0.rt, R0.own, R0.okb, R0.base⟩
    show VR g w (⟨V.shifts 2 y.sl, [], σ.ob :: σ.up⟩ : St).O ((σ.ob :: σ.up).length + 1) (gt .u (V.shifts 2 y.sl) i) _
    rw [St.O_enter, gt_shifts]
    by_cases hi : i < y.sl.length
    · have := (h.rt _ (hr i hi)).2
      exact VR.shift (k := 2) (by simp) _ _ (by simpa using this)
    · rw [gt_far _ _ _ (by omega)]; trivial
  have hv1 : VRs g w (⟨[], [], σ.ob :: σ.up⟩ : St).O ((σ.ob :: σ.up).length + 1) (V.shifts 1 vs) args.toList := by
    rw [St.O_enter]
    exact hv.shift1
  obtain ⟨q1, q2⟩ := Rel.sets y.ps (V.shifts 1 vs) args.toList R1 hv1 hlt
  have e : (r.params.zip args).foldl (fun t p => t.setIfInBounds p.1 p.2) r.tmps = (y.ps.zip args.toList).foldl (fun t p => t.setIfInBounds p.1 p.2) r.tmps := by
    rw [← hps, ← Array.foldl_toList, Array.toList_zip]
  rw [e]
  exact ⟨q1, q2⟩
theorem run_yieldB {o : Oper} {l : Nat} {p : Operand} {ps : Array Operand} {ts : Array TypeId} (hop : o.op = .call ⟨.value p, ps, ts⟩) (hp : isYield l (evalT tmps p)) :
    (execOp (evalT tmps) o).run P w = (Instr.yield l (ps.map (evalT tmps))).run P w := by
  unfold isYield at hp
  unfold execOp
  simp only [hop]
  simp [resolve, hp, Deferred.ofValue, invoke]
theorem LoopAt.adv {l : Nat} {r : Loop} {j : Option Ex} {g' : Gh} {w' : World} (h : LoopAt l r j g w) (A : Adv g w g' w') : LoopAt l r j g' w' := by
  obtain ⟨q1, q2⟩ := h.fgn.adv A
  exact ⟨q2.trans h.rc, q1, h.nn⟩
theorem NextD.trans {nr1 nr2 : Bool} {n0 nt n : Nat} {σ₁ σ₂ : St} {ds ds1 : List Deferred} {a' : Act} {w1 w2 : World} {g1 : Gh} (A : Adv g w g1 w1) (hn : σ₁.up.length = n) (hds : nr1 = true → ds1 = ds) (h : NextD nr2 n0 g1 w1 rts nt σ₁.up.length σ₂ ds1 a' w2) : NextD (nr1 && nr2) n0 g w rts nt n σ₂ ds a' w2 := by
  obtain ⟨g2, tmps2, ds2, ha, hs, R, A2, hup, hD, hd⟩ := h
  refine ⟨g2, tmps2, ds2, ha, hs, R, A.trans A2, by rw [hup, hn], hD, fun h => ?_⟩
  simp only [Bool.and_eq_true] at h
  rw [hd h.2, hds h.1]
theorem NextD.weak {nr nr' : Bool} {n0 nt n : Nat} {σ' : St} {ds : List Deferred} {a' : Act} {w' : World} (hn : nr' = true → nr = true) (h : NextD nr n0 g w rts nt n σ' ds a' w') : NextD nr' n0 g w rts nt n σ' ds a' w' := by
  obtain ⟨g2, tmps2, ds2, ha, hs, R, A2, hup, hD, hd⟩ := h
  exact ⟨g2, tmps2, ds2, ha, hs, R, A2, hup, hD, fun h => hd (hn h)⟩
theorem round_sound {y : Yc} {σ₂ τ₁ τ₂ : St} {e : Ex} {vs : List V} {args : Array Value} {l : Nat} {r : Loop} {g0 : Gh} {w0 : World}
    (C : LoopC P E y l r σ.up.length w0 rts) (iha : Mot P E (.code y.a (roundSt y σ vs)) (.code .normal τ₁)) (ihb : Mot P E (.code y.b τ₁) (.code e τ₂)) (hle : leave false σ τ₂ = some σ₂)
    (R : Rel g σ tmps rts w) (hv : VRs g w σ.O (σ.up.length + 1) vs args.toList) (hL : LoopAt l r none g w) (A : Adv g0 w0 g w) :
    RoundIn (Wd none) 0 P l r.fn ((r.params.zip args).foldl (fun t p => t.setIfInBounds p.1 p.2) r.tmps) r.assign r.body w fun x w' =>
      x = .returned (.bool (jump e).isNone) ∧ ∃ g', Rel g' σ₂ tmps rts w' ∧ Adv g0 w0 g' w' ∧ σ₂.up.length = σ.up.length ∧ LoopAt l r (jump e) g' w' := by
  obtain ⟨R1, hs1⟩ := R.atRound C.rts C.ps C.lt hv
  have hrt : ∀ q ∈ rts, q.1 ≤ σ.up.length := fun q hq => (R.rt q hq).1
  refine roundIn_of_wpIn trivial ?_
  refine CodeGoal.wp (iha (some l) r.tmps.size r.assign (.inr C.na) C.a g _ (slotRoots σ tmps ++ rts) w [] 0 R1 hs1 (Nat.zero_le _) _ fun a1 w1 hn1 => ?_)
  obtain ⟨g1, tmps1, ds1, rfl, hz1, Ra, A1, hu1, _, hd1⟩ := hn1
  obtain rfl := hd1 C.na
  have hL1 := hL.adv A1
  have hbr := run_beginRound (P := P) hL1.rc rfl
  refine ⟨_, hbr, ?_⟩
  have F2 := hL1.fgn.put (c := l) (.loop { recAt r none with state := .busy })
  have hrec2 : (w1.putObj l (.loop { recAt r none with state := .busy })).heap[l]? = some (.loop { recAt r none with state := .busy }) := World.putObj_heap_same hL1.fgn.lt
  refine CodeGoal.wp (ihb (some l) r.tmps.size r.body (.inr C.nb) C.b g1 tmps1 (slotRoots σ tmps ++ rts) _ [] 0 (Ra.put hL1.fgn _) hz1 (Nat.zero_le _) _ fun a3 w3 hn3 => ?_)
  obtain ⟨g3, tmps3, ds3, rfl, hz3, Rb, A3, hu3, _, hd3⟩ := hn3
  obtain rfl := hd3 C.nb
  obtain ⟨F3, hh3⟩ := F2.adv A3
  have hrec3 := hh3.trans hrec2
  have A03 : Adv g0 w0 g3 w3 := ((A.trans A1).put C.new _).trans A3
  have hu : τ₂.up.length = σ.up.length + 1 := by rw [hu3, hu1]; rfl
  have fin : ∀ (j : Option Ex) (o : Obj), j ≠ some .normal → o = .loop (recAt r j) → ∃ g', Rel g' σ₂ tmps rts (w3.putObj l o) ∧ Adv g0 w0 g' (w3.putObj l o) ∧ σ₂.up.length = σ.up.length ∧ LoopAt l r j g' (w3.putObj l o) := fun j o hj ho => by
    obtain ⟨R4, K4, hl4⟩ := Rel.leave (Rb.put F3 o) hle hu hrt
    have A4 := (A03.put C.new o).low (D := σ.up.length + 1)
    have F4 : Foreign (g3.low (σ.up.length + 1)) (w3.putObj l o) l := by
      refine ⟨?_, F3.ok, F3.base, by simpa using F3.lt⟩
      cases hx : (g3.low (σ.up.length + 1)).own l with
      | none => rfl
      | some x => have := (Gh.low_some hx).1; rw [F3.own] at this; cases this
    exact ⟨_, R4, A4, hl4, ⟨by rw [ho]; exact World.putObj_heap_same F3.lt, F4, hj⟩⟩
  cases e with
  | normal =>
    refine ⟨_, _, run_endRound none hrec3, rfl, ?_⟩
    exact fin none _ (by simp) rfl
  | ret =>
    refine ⟨_, _, run_endRound (some .ret) hrec3, rfl, ?_⟩
    exact fin (some .ret) _ (by simp) rfl
  | exit id =>
    refine ⟨_, _, run_endRound (some (.exit id)) hrec3, rfl, ?_⟩
    exact fin (some (.exit id)) _ (by simp) rfl
theorem yield_wp {y : Yc} {σ₂ τ₁ τ₂ : St} {e : Ex} {d s nt : Nat} {as : List X} {rm : Option Nat} {o : Oper} {ops : Array Oper} {l : Nat} {r : Loop} {g0 : Gh} {w0 : World} {K : Act → World → Prop} {Q : Exit → Act → World → Prop}
    (C : LoopC P E y l r σ.up.length w0 rts) (iha : Mot P E (.code y.a (roundSt y σ (σ.vals as))) (.code .normal τ₁)) (ihb : Mot P E (.code y.b τ₁) (.code e τ₂)) (hle : leave false σ τ₂ = some σ₂) (hlen : as.length = y.ps.length)
    (hok : okG P nt ops ⟨.callv d (.t s) as rm, none⟩ o = true) (hnt : tmps.size = nt) (hy : isYield l (tmps.getD s undef)) (R : Rel g σ tmps rts w) (hL : LoopAt l r none g w) (A : Adv g0 w0 g w)
    (hK : ∀ g' w', Rel g' σ₂ tmps rts w' → Adv g0 w0 g' w' → σ₂.up.length = σ.up.length → LoopAt l r (jump e) g' w' → d < nt → K ⟨tmps.setIfInBounds d (.bool (jump e).isNone), []⟩ w') :
    if Region.wanted o (yielded ops tmps) then o.wpIn (Wd none) 0 P ⟨tmps, []⟩ w K Q else (∀ f, o.about P w (⟨tmps, []⟩ : Act).eval = some f → (Wd none).fn f) ∧ K ((⟨tmps, []⟩ : Act).put o.dst undef) w := by
  simp only [okG, Bool.and_eq_true, Bool.or_eq_true] at hok
  obtain ⟨hok1, hok2⟩ := hok
  have hwt := wanted_of (t := true) hok1 R rfl
  rw [hwt]
  simp only [if_true]
  rcases hok2 with hok2 | hok2
  · exact (okI_callv hok2).elim
  · unfold okCall at hok2
    split at hok2
    · rename_i hi _; cases hi
    · rename_i d' x' as' rm' p ps ts hi hop
      cases hi
      simp only [Bool.and_eq_true, decide_eq_true_eq] at hok2
      obtain ⟨⟨⟨hd, hlt⟩, hxp⟩, hxs⟩ := hok2
      have hp : isYield l (evalT tmps p) := by
        cases p with
        | tmp t =>
          have ht : s = t := by simpa [okX] using hxp
          subst ht
          exact hy
        | _ => simp [okX] at hxp
      have hv := R.vals hxs
      have hv' : VRs g w σ.O (σ.up.length + 1) (σ.vals as) (ps.map (evalT tmps)).toList := by rw [Array.toList_map]; exact hv
      have hsz : (ps.map (evalT tmps)).size = (recAt r none).params.size := by
        have h1 := VRs.length _ _ hv'
        simp only [St.vals, List.length_map, Array.length_toList] at h1
        have h2 : r.params.size = y.ps.length := by rw [← C.ps]; simp
        show _ = r.params.size
        rw [h2, ← hlen, ← h1]
      have hrun := run_yield (P := P) hL.rc hsz
      refine ⟨fun _ _ => trivial, ?_⟩
      rw [Oper.semAt_eq _ _ _ (by rw [hop]; intro c hc; cases hc), Act.eval_T, run_yieldB hop hp, hrun, Oper.uponIn_round]
      refine ⟨fun h => (by cases h), (round_sound C iha ihb hle R hv' hL A).mono fun x w' hx => ?_⟩
      obtain ⟨rfl, g', R', A', hu, hL'⟩ := hx
      show K ((⟨tmps, []⟩ : Act).put o.dst _) w'
      rw [hd]
      exact hK g' w' R' A' hu hL' hlt
    · rename_i hi; cases hi
    · cases hok2
end
end Go.Proofs.Ytkhgnkfdpabflaa.Vm
/- The machine's runs are Go's. -/
namespace Go.Proofs.Ytkhgnkfdpabflaa.Vm
open Go
section
variable {P : Program} {E : Env} {g : Gh} {σ : St} {tmps : Array Value} {rts : Roots} {w : World}
def readRv (tmps : Array Value) : ResultVar → Sem Value
  | .tmp t => pure (tmps.getD t undef)
  | .cell a t => do loadVar t (← asAddr (tmps.getD a undef))
theorem loadAt_as {t : TypeId} {y z : Value} (h : (Instr.loadAt t y).run P w = .ok z w) : (do loadVar t (← asAddr y) : Sem Value).run P w = .ok z w := by
  cases y with
  | pointer a =>
    cases a with
    | some a => simpa [Instr.loadAt, Instr.sureAddr, asAddr] using h
    | none => simp [Instr.loadAt, Instr.sureAddr, stuck] at h
  | _ => simp [Instr.loadAt, Instr.sureAddr, stuck] at h
theorem readRv_sound (R : Rel g σ tmps rts w) : ∀ (rs : List Rv) (us : List ResultVar) (vs : List V), okRv P rs us = true → resVals σ rs = some vs →
    ∃ xs, (us.mapM (readRv tmps)).run P w = .ok xs w ∧ VRs g w σ.O (σ.up.length + 1) vs xs
  | [], [], vs, _, e => by
    simp only [resVals, Option.some.injEq] at e; subst e
    exact ⟨[], by simp, rfl⟩
  | [], _ :: _, _, h, _ => by simp [okRv] at h
  | _ :: _, [], _, h, _ => by simp [okRv] at h
  | .s t :: rs, .tmp x :: us, vs, h, e => by
    simp only [okRv, Bool.and_eq_true, decide_eq_true_eq] at h
    obtain ⟨rfl, h⟩ := h
    simp only [resVals] at e
    split at e
    · rename_i v vs' e1 e2
      cases e1
      cases e
      obtain ⟨xs, hx, hv⟩ := readRv_sound R rs us vs' h e2
      refine ⟨tmps.getD t undef :: xs, ?_, ⟨_, xs, rfl, R.sl t, hv⟩⟩
      simp only [List.mapM_cons, Sem.run_bind]
      simp [readRv, hx]
    · cases e
  | .c t k :: rs, .cell x ty :: us, vs, h, e => by
    simp only [okRv, Bool.and_eq_true, decide_eq_true_eq] at h
    obtain ⟨⟨rfl, hk⟩, h⟩ := h
    simp only [resVals] at e
    split at e
    · rename_i v vs' e1 e2
      cases e
      obtain ⟨xs, hx, hv⟩ := readRv_sound R rs us vs' h e2
      obtain ⟨z, hz, hvz⟩ := R.load (of_decide_eq_true hk) (R.sl t) e1
      refine ⟨z :: xs, ?_, ⟨_, xs, rfl, hvz, hv⟩⟩
      have hz2 := loadAt_as hz
      simp only [List.mapM_cons, Sem.run_bind]
      have : (readRv tmps (.cell t ty)).run P w = .ok z w := hz2
      rw [this]
      simp [hx]
    · cases e
  | .s _ :: _, .cell _ _ :: _, _, h, _ => by simp [okRv] at h
  | .c _ _ :: _, .tmp _ :: _, _, h, _ => by simp [okRv] at h
theorem results_sound (R : Rel g σ tmps rts w) {fn : Func} {rs : List Rv} {v : V} (h : okRv P rs fn.results.toList = true) (e : resVal σ rs = some v) :
    ∃ r, (results fn tmps).run P w = .ok r w ∧ VR g w σ.O (σ.up.length + 1) v r := by
  unfold resVal at e
  obtain ⟨vs, e1, e2⟩ := map_some e
  obtain ⟨xs, hx, hv⟩ := readRv_sound R rs _ vs h e1
  have hrun : (fn.results.mapM (readRv tmps)).run P w = .ok xs.toArray w := by
    rw [Array.mapM_eq_mapM_toList]
    simp [hx]
  have hres : (results fn tmps).run P w = .ok (if h : xs.toArray.size = 1 then xs.toArray[0] else .tuple xs.toArray) w := by
    have he : results fn tmps = (do
        let vs ← fn.results.mapM (readRv tmps)
        pure (if h : vs.size = 1 then vs[0] else .tuple vs)) := by
      unfold results
      congr 1
    rw [he, Sem.run_bind, hrun]
    rfl
  refine ⟨_, hres, ?_⟩
  have hl := VRs.length _ _ hv
  subst e2
  match vs, xs, hv, hl with
  | [], [], _, _ => exact ⟨[], rfl, rfl⟩
  | [v], [x], hv, _ =>
    obtain ⟨y, ys, hy, h1, _⟩ := hv
    cases hy
    exact h1
  | v :: v2 :: vs, x :: x2 :: xs, hv, _ =>
    rw [dif_neg (by simp)]
    exact ⟨_, rfl, hv⟩
theorem Next.refl {nt : Nat} {ds : List Deferred} (h : Rel g σ tmps rts w) (hnt : tmps.size = nt) : Next g w rts nt σ.up.length σ ds ⟨tmps, ds⟩ w := ⟨g, tmps, rfl, hnt, h, Adv.refl g w, rfl⟩
theorem callsIn_Wd2 {f : Nat} {args : Array Value} {R : Ending → World → Prop} (h : CallsIn (Wd none) 0 P f args w R) : Calls P f args w R := (callsIn_wide (n := 0)).1 h
theorem leavesM_sound {fn : Func} {rs : List Rv} {v : V} {g0 : Gh} {w0 : World} {up : List Lv} (hres : okRv P rs fn.results.toList = true) (hv : resVal σ rs = some v) (hup : σ.up.length = up.length) :
    ∀ ds {w : World}, Rel g σ tmps rts w → Adv g0 w0 g w → DsOk w0.heap.size g w ds → LeavesInM (Wd none) 0 P fn tmps (fun e w' => ∃ r, e = .returned r ∧ Left g0 rts w0 up v σ r w') ds .returning w
  | [], w, R, A, _ => by
    obtain ⟨r, hr, hvr⟩ := results_sound R hres hv
    exact ⟨r, hr, r, rfl, g, tmps, R, hvr, A, hup⟩
  | d :: ds, w, R, A, ⟨⟨r, h1, h2, h3, h4, h5⟩, h6⟩ => by
    refine ⟨by simp, .inl ⟨r, _, h1, run_takeDeferred h2, ?_⟩⟩
    exact leavesM_sound hres hv hup ds (R.put h3 _) (A.put h4 _) (DsOk.put _ h5 h6)
theorem NextI.refl {nt l : Nat} {r : Loop} {j : Option Ex} {g0 : Gh} {w0 : World} (R : Rel g σ tmps rts w) (hnt : tmps.size = nt) (hy : isYield l (tmps.getD 0 undef)) (hL : LoopAt l r j g w) (A : Adv g0 w0 g w) : NextI l r j g0 w0 rts nt σ.up.length σ [0] ⟨tmps, []⟩ w :=
  ⟨g, tmps, rfl, hnt, fun s hs => by simp only [List.mem_singleton] at hs; subst hs; exact hy, R, A, rfl, hL⟩
theorem NextI.up {nt l n n' : Nat} {r : Loop} {j : Option Ex} {g0 : Gh} {w0 : World} {σ' : St} {ys : List Nat} {a' : Act} {w' : World} (hn : n = n') (h : NextI l r j g0 w0 rts nt n σ' ys a' w') : NextI l r j g0 w0 rts nt n' σ' ys a' w' := hn ▸ h
theorem LoopC.up {y : Yc} {l : Nat} {r : Loop} {D D' : Nat} {w0 : World} (hn : D' = D) (h : LoopC P E y l r D w0 rts) : LoopC P E y l r D' w0 rts := hn ▸ h
theorem dropY_zero {ys : List Nat} {i : G} (hd : keep0 i = true) (h : 0 ∈ ys) : 0 ∈ dropY ys i := by
  unfold keep0 at hd
  unfold dropY
  split
  · rename_i d hdst
    rw [hdst] at hd
    simp only [List.mem_filter]
    refine ⟨h, ?_⟩
    have h1 : d.beq 0 = false := by simpa using hd
    have h2 : d ≠ 0 := fun e => by subst e; cases h1
    have h3 : Nat.beq 0 d = false := by
      cases d with
      | zero => exact absurd rfl h2
      | succ d => rfl
    rw [h3]; rfl
  · exact h
theorem dropY_mem {ys : List Nat} {i : G} {s : Nat} (h : s ∈ dropY ys i) : s ∈ ys ∧ i.i.dst ≠ some s := by
  unfold dropY at h
  split at h
  · rename_i d hdst
    simp only [List.mem_filter] at h
    refine ⟨h.1, fun e => ?_⟩
    rw [hdst] at e
    cases e
    have := h.2
    simp at this
  · rename_i hdst
    exact ⟨h, by rw [hdst]; simp⟩
theorem run_resolve {a : Act} {p : Operand} {l f : Nat} {caps : Array Value} (hp : a.eval p = .func (.func f) #[] caps) (he : enters P f = true) :
    ∃ d, (resolve a.eval (rangeCall p l) 0).run P w = .ok d w ∧ (invoke d.target d.args).run P w = .ok (.enter f (#[.func (.yield l) #[] #[]] ++ caps)) w := by
  have hcall : ∀ args, (callFunc f args).run P w = .ok (.enter f args) w := fun args => by
    unfold enters at he
    split at he
    · rename_i fn hf
      simp only [Bool.and_eq_true, bne_iff_ne, ne_eq] at he
      unfold callFunc
      have h2 : fn.body ≠ none := fun hb => by rw [hb] at he; cases he.2
      simp [hf, he.1, h2]
    · cases he
  refine ⟨_, by simp [resolve, rangeCall, hp, Deferred.ofValue]; rfl, ?_⟩
  simp only [invoke]
  have e : (#[a.eval (.const (.func (.yield l) #[] #[]))] : Array Value) = #[.func (.yield l) #[] #[]] := rfl
  first | exact hcall _ | (simp [invoke]; exact hcall _)
theorem rfun_sound (hE : EnvOk P E) (hF : FnsOk P E) {x : X} {ps : List Nat} {a b : C} {σ τ σ' : St} {f : Nat} {caps : List V} {F : Fn} {j : Option Ex} {e : Ex} (hx : σ.val x = .cl f caps) (hb : Nat.ble bndF f = false) (hf : E.fn f = some F) (hn : (a.noRf && b.noRf && F.code.noRf) = true)
    (ih : Mot P E (.icode ⟨ps, a, b, σ.sl⟩ none F.code ⟨V.shifts 1 (.u :: caps), [], σ.ob :: σ.up⟩) (.icode j e τ)) (he : e = .normal ∨ e = .ret) (hr : F.res = []) (hl : leave false σ τ = some σ') : Mot P E (.code (.rfun x ps a b) σ) (.code (ofJump j) σ') := by
  intro ro nt mc hro hok g tmps rts w ds n0 R hnt hD Q hQ
  have hro0 : ro = none := hro.resolve_right (fun h => by cases h)
  subst hro0
  simp only [Bool.and_eq_true] at hn
  obtain ⟨⟨hna, hnb⟩, hnF⟩ := hn
  cases mc with
  | rangeFunc p qs ca cb =>
    simp only [okCode, Bool.and_eq_true, decide_eq_true_eq] at hok
    obtain ⟨⟨⟨⟨hxp, hqs⟩, hlt⟩, hoa⟩, hob⟩ := hok
    have hxv := R.val hxp
    rw [hx] at hxv
    obtain ⟨cs, hpv, hcs⟩ := hxv
    obtain ⟨fn, c, hfn, hbody, hres, hokF⟩ := hF.fn f F hf
    have hen := hE.fn f F hf
    have hnilF : Nat.ble nilF f = false := by
      rw [Bool.eq_false_iff]
      intro h
      have h1 := Nat.le_of_ble_eq_true h
      rw [Bool.eq_false_iff] at hb
      exact hb (Nat.ble_eq_true_of_le (by unfold nilF at h1; unfold bndF; omega))
    have hpv' : (⟨tmps, ds⟩ : Act).eval p = .func (.func f) #[] cs.toArray := by
      rw [Act.eval_T]
      show evalT tmps p = _
      rw [hpv]
      unfold clV
      rw [hnilF, hb]
    show (Code.rangeFunc p qs ca cb).wpIn (Wd none) 0 P Q ⟨tmps, ds⟩ w
    refine wpIn_rangeFunc fun fn0 _ => ?_
    have henter := run_enterLoop_outer (P := P) (w := w) fn0 tmps qs ca cb
    let r : Loop := { state := .ready, pending := none, fn := fn0, tmps := tmps, params := qs, assign := ca, body := cb, defers := w.heap.size }
    let wD := w.alloc (.deferred (some []))
    have hwl : wD.heap.size = w.heap.size + 1 := by simp [wD]
    obtain ⟨d, hres1, hinv⟩ := run_resolve (w := wD.alloc (.loop r)) (l := w.heap.size + 1) (p := p) hpv' hen
    refine ⟨w.heap.size + 1, _, _, d, _, f, _, _, henter, hres1, fun _ _ => trivial, hinv, fun h => (by cases h), ?_⟩
    -- the function's call
    have AD : Adv g w g wD := Adv.allocO _
    have RD : Rel g σ tmps rts wD := R.allocO _
    have R1 : Rel g σ tmps rts (wD.alloc (.loop r)) := RD.allocO _
    have Fl : Foreign g (wD.alloc (.loop r)) (w.heap.size + 1) := by rw [← hwl]; exact Foreign.allocO RD _
    have hL : LoopAt (w.heap.size + 1) r none g (wD.alloc (.loop r)) := ⟨by rw [← hwl]; exact World.alloc_heap_new wD _, Fl, by simp⟩
    have FD : Foreign g wD w.heap.size := Foreign.allocO R _
    have hDD : wD.heap[w.heap.size]? = some (.deferred (some [])) := World.alloc_heap_new w _
    have hrt : ∀ q ∈ rts, q.1 ≤ σ.up.length := fun q hq => (R.rt q hq).1
    have hcs1 : VRs g (wD.alloc (.loop r)) σ.O (σ.up.length + 1) (.u :: caps) (#[Value.func (.yield (w.heap.size + 1)) #[] #[]] ++ cs.toArray).toList := by
      have hh := R1.val hxp
      rw [hx] at hh
      obtain ⟨cs', hpv2, hcs2⟩ := hh
      have : cs' = cs := by
        have h1 := hpv.symm.trans hpv2
        unfold clV at h1
        rw [hnilF, hb] at h1
        simpa using h1.symm
      subst this
      exact ⟨.func (.yield (w.heap.size + 1)) #[] #[], cs', by simp, trivial, hcs2⟩
    have Re := R1.enter hcs1
    have LC : LoopC P E ⟨ps, a, b, σ.sl⟩ (w.heap.size + 1) r (⟨V.shifts 1 (.u :: caps), [], σ.ob :: σ.up⟩ : St).up.length wD (slotRoots σ tmps ++ rts) := by
      refine ⟨hqs, fun q hq => ?_, by rw [show r.tmps.size = nt from hnt]; exact hoa, by rw [show r.tmps.size = nt from hnt]; exact hob, hna, hnb, fun i hi => List.mem_append_left _ (List.mem_map.2 ⟨i, List.mem_range.2 hi, rfl⟩), by rw [hwl]; exact Nat.le_refl _⟩
      have := List.all_eq_true.1 hlt q hq
      rw [show r.tmps.size = nt from hnt]
      exact of_decide_eq_true this
    generalize hargs : (#[Value.func (.yield (w.heap.size + 1)) #[] #[]] ++ cs.toArray) = args at Re
    have hsz1 : 1 ≤ args.size := by rw [← hargs]; simp
    have hget0 : args.getD 0 undef = .func (.yield (w.heap.size + 1)) #[] #[] := by rw [← hargs]; simp
    refine callsIn_of_wp hfn hbody trivial (CodeGoal.wp (ih (args ++ Array.replicate (fn.ntmps - args.size) undef).size c hnF (hokF _ (by simp; omega)) _ r g wD _ LC g _ _ ?_ rfl ?_ hL (Adv.allocO _) _ fun a' w' hn => ?_))
    · refine ⟨fun i => ?_, Re.ob, Re.rt, Re.own, Re.okb, Re.base⟩
      have := Re.sl i
      by_cases hi : i < args.size
      · have e1 : (args ++ Array.replicate (fn.ntmps - args.size) undef).getD i undef = args.getD i undef := by
          simp [Array.getD_eq_getD_getElem?, Array.getElem?_append, hi]
        rw [e1]; exact this
      · have hlen : (V.shifts 1 (.u :: caps)).length = args.size := by rw [V.shifts_length, VRs.length _ _ hcs1, ← hargs, Array.length_toList]
        have : (⟨V.shifts 1 (.u :: caps), [], σ.ob :: σ.up⟩ : St).get i = .u := gt_far _ _ _ (by rw [hlen]; omega)
        rw [this]; trivial
    · show (args ++ Array.replicate (fn.ntmps - args.size) undef).getD 0 undef = _
      have e1 : (args ++ Array.replicate (fn.ntmps - args.size) undef).getD 0 undef = args.getD 0 undef := by
        simp [Array.getD_eq_getD_getElem?, Array.getElem?_append, show 0 < args.size by omega]
      rw [e1, hget0]
    · obtain ⟨g', tmps', rfl, hs, _, R', A', hu, hL'⟩ := hn
      obtain ⟨v, hrv, _⟩ := results_sound R' hres (v := .tp []) (by rw [hr]; rfl)
      have hup' : τ.up.length = σ.up.length + 1 := hu
      have post : ([] : List Deferred) = [] ∧ ∃ v, (results fn tmps').run P w' = .ok v w' ∧ rangePost (Wd none) 0 P (w.heap.size + 1) Q ⟨tmps, [{ target := .collected w.heap.size, args := #[] }] ++ ds⟩ (.returned v) w' := by
        refine ⟨rfl, v, hrv, (recAt r j).pending, _, run_endLoop hL'.rc (by unfold recAt; cases j <;> simp [stOf]), ?_⟩
        obtain ⟨R4, K4, hl4⟩ := Rel.leave (R'.put hL'.fgn (.loop { recAt r j with state := .exhausted })) hl hup' hrt
        have A4 := (A'.put (b := w.heap.size + 1) (by rw [hwl]; exact Nat.le_refl _) (.loop { recAt r j with state := .exhausted })).low (D := σ.up.length + 1)
        have A5 := AD.trans A4
        have hDs : DsOk n0 (g'.low (σ.up.length + 1)) (w'.putObj (w.heap.size + 1) (.loop { recAt r j with state := .exhausted })) ([{ target := .collected w.heap.size, args := #[] }] ++ ds) := by
          obtain ⟨q1, q2⟩ := FD.adv A4
          refine ⟨⟨w.heap.size, rfl, q2.trans hDD, q1, hD.le, fun d' hd' he => ?_⟩, hD.adv A5⟩
          have := hD.lt ⟨d', hd', he⟩
          omega
        have hN : NextD false n0 g w rts nt σ.up.length σ' ds ⟨tmps, [{ target := .collected w.heap.size, args := #[] }] ++ ds⟩ (w'.putObj (w.heap.size + 1) (.loop { recAt r j with state := .exhausted })) :=
          ⟨_, tmps, _, rfl, hnt, R4, A5, hl4, hDs, fun h => by cases h⟩
        have hq := hQ _ _ hN
        cases j with
        | none => exact hq
        | some e' =>
          cases e' with
          | normal => exact absurd rfl hL'.nn
          | exit id => exact wpIn_exit hq
          | ret => exact wpIn_ret hq
      rcases he with rfl | rfl
      · exact post
      · exact post
  | _ => simp [okCode] at hok
theorem ev_sound (hE : EnvOk P E) (hX : ExtOk E) (hF : FnsOk P E) (hm : P.follows .mixedOrders = true) {t : Task} {r : Res} (h : Ev E t r) : Mot P E t r := by
  induction h with
  | skip =>
    intro ro nt mc hro hok g tmps rts w ds n0 R hnt hD Q hQ
    cases mc <;> simp [okCode] at hok
    · exact wpIn_skip (hQ _ _ ((Next.refl R hnt).toD hD))
    · exact wpIn_label (hQ _ _ ((Next.refl R hnt).toD hD))
  | @rg id dr fs is os σ σ₁ σ' hp _ _ ih iho =>
    intro ro nt mc hro hok g tmps rts w ds n0 R hnt hD Q hQ
    cases mc <;> simp [okCode] at hok
    obtain ⟨rfl, hok⟩ := hok
    obtain ⟨g1, R1, A1, hup⟩ := pre_sound fs R hp
    exact region_wp hE hX hm hok ih iho R1 hnt (fun a' w' hn => hQ a' w' (Next.toD hD (hn.trans A1 hup)))
  | @seq a b σ σ₁ r ha hb iha ihb =>
    cases r with
    | code e σ' =>
      intro ro nt mc hro hok g tmps rts w ds n0 R hnt hD Q hQ
      cases mc with
      | seq x y =>
        simp [okCode] at hok
        have hro1 : (ro = none ∨ a.noRf = true) ∧ (ro = none ∨ b.noRf = true) := by
          rcases hro with h | h
          · exact ⟨.inl h, .inl h⟩
          · simp only [C.noRf, Bool.and_eq_true] at h; exact ⟨.inr h.1, .inr h.2⟩
        refine wpIn_seq (CodeGoal.wp (iha ro nt x hro1.1 hok.1 g tmps rts w ds n0 R hnt hD _ fun a' w' hn => ?_))
        obtain ⟨g1, tmps1, ds1, rfl, hs1, R1, A1, hup1, hD1, hds1⟩ := hn
        exact CodeGoal.wp (ihb ro nt y hro1.2 hok.2 g1 tmps1 rts w' ds1 n0 R1 hs1 hD1 Q fun a2 w2 hn2 => hQ _ _ (NextD.trans A1 hup1 hds1 hn2))
      | scope x =>
        cases a with
        | skip =>
          simp only [okCode] at hok
          cases ha
          exact wpIn_scope (CodeGoal.wp (ihb ro nt x (by simpa [C.noRf] using hro) hok g tmps rts w ds n0 R hnt hD (Exit.noGoto Q) fun a' w' hn => by
            have hn2 : NextD (C.seq .skip b).noRf n0 g w rts nt σ.up.length σ' ds a' w' := hn.weak (fun h => by simpa [C.noRf] using h)
            cases e <;> exact hQ _ _ hn2))
        | _ => simp [okCode] at hok
      | _ => simp [okCode] at hok
    | _ => trivial
  | @seqX a b σ σ₁ e he ha iha =>
    intro ro nt mc hro hok g tmps rts w ds n0 R hnt hD Q hQ
    cases mc with
    | seq x y =>
      simp [okCode] at hok
      have hro1 : ro = none ∨ a.noRf = true := hro.imp id (fun h => by simp only [C.noRf, Bool.and_eq_true] at h; exact h.1)
      refine wpIn_seq (CodeGoal.wp (iha ro nt x hro1 hok.1 g tmps rts w ds n0 R hnt hD _ fun a' w' hn => ?_))
      have hn2 : NextD (C.seq a b).noRf n0 g w rts nt σ.up.length σ₁ ds a' w' := hn.weak (fun h => by simp only [C.noRf, Bool.and_eq_true] at h; exact h.1)
      cases e with
      | normal => exact absurd rfl he
      | exit id => exact hQ _ _ hn2
      | ret => exact hQ _ _ hn2
    | scope x =>
      cases a with
      | skip => cases ha; exact absurd rfl he
      | _ => simp [okCode] at hok
    | _ => simp [okCode] at hok
  | @cond x a b σ p t r hx _ ih =>
    cases r with
    | code e σ' =>
      intro ro nt mc hro hok g tmps rts w ds n0 R hnt hD Q hQ
      cases mc <;> simp [okCode] at hok
      rename_i q c d
      have hv := R.val hok.1.1
      rw [hx] at hv
      refine wpIn_cond (t := t) (by rw [Act.eval_T]; exact hv.bool) ?_
      cases t with
      | true => exact CodeGoal.wp (ih ro nt c (hro.imp id (fun h => by simp only [C.noRf, Bool.and_eq_true] at h; exact h.1)) hok.1.2 g tmps rts w ds n0 R hnt hD Q fun a' w' hn => hQ _ _ (hn.weak (fun h => by simp only [C.noRf, Bool.and_eq_true] at h; exact h.1)))
      | false => exact CodeGoal.wp (ih ro nt d (hro.imp id (fun h => by simp only [C.noRf, Bool.and_eq_true] at h; exact h.2)) hok.2 g tmps rts w ds n0 R hnt hD Q fun a' w' hn => hQ _ _ (hn.weak (fun h => by simp only [C.noRf, Bool.and_eq_true] at h; exact h.2)))
    | _ => trivial
  | @block id c σ σ₁ _ ih =>
    intro ro nt mc hro hok g tmps rts w ds n0 R hnt hD Q hQ
    cases mc <;> simp [okCode] at hok
    obtain ⟨rfl, hok⟩ := hok
    exact wpIn_block (CodeGoal.wp (ih ro nt _ hro hok g tmps rts w ds n0 R hnt hD _ fun a' w' hn => hQ _ _ hn))
  | @blockX id c σ σ₁ _ ih =>
    intro ro nt mc hro hok g tmps rts w ds n0 R hnt hD Q hQ
    cases mc <;> simp [okCode] at hok
    obtain ⟨rfl, hok⟩ := hok
    refine wpIn_block (CodeGoal.wp (ih ro nt _ hro hok g tmps rts w ds n0 R hnt hD _ fun a' w' hn => ?_))
    simp only [exitOf, Exit.inBlock, if_true]
    exact hQ _ _ hn
  | @blockY id c σ σ₁ e hn1 he _ ih =>
    intro ro nt mc hro hok g tmps rts w ds n0 R hnt hD Q hQ
    cases mc <;> simp [okCode] at hok
    obtain ⟨rfl, hok⟩ := hok
    refine wpIn_block (CodeGoal.wp (ih ro nt _ hro hok g tmps rts w ds n0 R hnt hD _ fun a' w' hn => ?_))
    cases e with
    | normal => exact absurd rfl hn1
    | exit id' =>
      have : id' ≠ id := fun h => he (by rw [h])
      simp only [exitOf, Exit.inBlock, if_neg this]
      exact hQ _ _ hn
    | ret => exact hQ _ _ hn
  | @loop c σ σ₁ r _ _ ih1 ih2 =>
    cases r with
    | code e σ' =>
      intro ro nt mc hro hok g tmps rts w ds n0 R hnt hD Q hQ
      cases mc with
      | loop b =>
        simp only [okCode] at hok
        refine LoopWp.round (CodeGoal.wp (ih1 ro nt b hro hok g tmps rts w ds n0 R hnt hD _ fun a' w' hn => ?_))
        obtain ⟨g1, tmps1, ds1, rfl, hs1, R1, A1, hup1, hD1, hds1⟩ := hn
        exact ih2 ro nt (.loop b) hro (by simp only [okCode]; exact hok) g1 tmps1 rts w' ds1 n0 R1 hs1 hD1 Q fun a2 w2 hn2 => hQ _ _ ((NextD.trans A1 hup1 hds1 hn2).weak (fun h => by simp only [C.noRf, Bool.and_self] at h ⊢; exact h))
      | _ => simp [okCode] at hok
    | _ => trivial
  | @loopX c σ σ₁ e he _ ih =>
    intro ro nt mc hro hok g tmps rts w ds n0 R hnt hD Q hQ
    cases mc with
    | loop b =>
      simp only [okCode] at hok
      refine LoopWp.round (CodeGoal.wp (ih ro nt b hro hok g tmps rts w ds n0 R hnt hD _ fun a' w' hn => ?_))
      cases e with
      | normal => exact absurd rfl he
      | exit id => exact hQ _ _ hn
      | ret => exact hQ _ _ hn
    | _ => simp [okCode] at hok
  | exit =>
    intro ro nt mc hro hok g tmps rts w ds n0 R hnt hD Q hQ
    cases mc <;> simp [okCode] at hok
    subst hok
    exact wpIn_exit (hQ _ _ ((Next.refl R hnt).toD hD))
  | ret =>
    intro ro nt mc hro hok g tmps rts w ds n0 R hnt hD Q hQ
    cases mc <;> simp [okCode] at hok
    exact wpIn_ret (hQ _ _ ((Next.refl R hnt).toD hD))
  | nil => exact Ops1.nil
  | @step i g is σ σ₁ r hg hs _ ih => cases r with
    | ops σ' => exact Ops1.cons (.step hg hs) ih
    | _ => trivial
  | @skipped i g is σ r hg _ ih => cases r with
    | ops σ' => exact Ops1.cons (.skip hg) ih
    | _ => trivial
  | @call d f as rm g is σ F v σc w σ₁ r hg hf hmm _ hb _ ihf ih => cases r with
    | ops σ' => exact Ops1.cons (.call hg hf hmm ihf hb) ih
    | _ => trivial
  | @callv d x f caps as rm g is σ F v σc w σ₁ r hg hx hf hmm _ hb _ ihf ih => cases r with
    | ops σ' => exact Ops1.cons (.callv hg hx hf hmm ihf hb) ih
    | _ => trivial
  | @pcall d f as rm g is σ F ms ws ns v σc w σ₁ r hg hf hmm hh _ hb _ ihf ih => cases r with
    | ops σ' => exact Ops1.cons (.pcall hg hf hmm hh ihf hb) ih
    | _ => trivial
  | @ext d f as rm g is σ X w σ₁ r hg hf hx h _ ih => cases r with
    | ops σ' => exact Ops1.cons (.ext hg hf hx h) ih
    | _ => trivial
  | @fn f as up F e σ v hf _ he hv ih =>
    intro g rts w args hlen R
    obtain ⟨fn, c, hfn, hbody, hres, hok⟩ := hF.fn f F hf
    refine callsIn_Wd2 (callsIn_of_wp_marks hfn hbody trivial (CodeGoal.wp (ih none _ c (.inl rfl) (hok (args ++ Array.replicate (fn.ntmps - args.size) undef).size (by simp; omega)) g _ rts w [] w.heap.size ?_ rfl (Nat.le_refl _) _ fun a' w' hn => ?_)))
    · refine ⟨fun i => ?_, R.ob, R.rt, R.own, R.okb, R.base⟩
      have := R.sl i
      by_cases hi : i < args.size
      · have e1 : (args ++ Array.replicate (fn.ntmps - args.size) undef).getD i undef = args.getD i undef := by
          simp [Array.getD_eq_getD_getElem?, Array.getElem?_append, hi]
        rw [e1]; exact this
      · have : (⟨as, [], up⟩ : St).get i = .u := gt_far _ _ _ (by simp; omega)
        rw [this]; trivial
    · obtain ⟨g', tmps', ds', rfl, hs, R', Ad, hup, hD, _⟩ := hn
      have post := leavesM_sound (fn := fn) hres hv hup ds' R' Ad hD
      rcases he with rfl | rfl
      · exact post
      · exact post
  | rfun hx hb hf hmm hn _ he hr hl ih => exact rfun_sound hE hF hx hb hf hn ih he hr hl
  | iskip =>
    intro nt mc hno hok l r g0 w0 rts LC g tmps w R hnt hy hL A Q hQ
    cases mc <;> simp [okCode] at hok
    · exact wpIn_skip (hQ _ _ (NextI.refl R hnt hy hL A))
    · exact wpIn_label (hQ _ _ (NextI.refl R hnt hy hL A))
  | iexit =>
    intro nt mc hno hok l r g0 w0 rts LC g tmps w R hnt hy hL A Q hQ
    cases mc <;> simp [okCode] at hok
    subst hok
    exact wpIn_exit (hQ _ _ (NextI.refl R hnt hy hL A))
  | iret =>
    intro nt mc hno hok l r g0 w0 rts LC g tmps w R hnt hy hL A Q hQ
    cases mc <;> simp [okCode] at hok
    exact wpIn_ret (hQ _ _ (NextI.refl R hnt hy hL A))
  | @iseq y j a b σ j₁ σ₁ r ha hb iha ihb =>
    cases r with
    | icode j₂ e σ' =>
      intro nt mc hno hok l r g0 w0 rts LC g tmps w R hnt hy hL A Q hQ
      simp only [C.noRf, Bool.and_eq_true] at hno
      cases mc with
      | seq x z =>
        simp [okCode] at hok
        refine wpIn_seq (CodeGoal.wp (iha nt x hno.1 hok.1 l r g0 w0 rts LC g tmps w R hnt hy hL A _ fun a' w' hn => ?_))
        obtain ⟨g1, tmps1, rfl, hs1, hy1, R1, A1, hup1, hL1⟩ := hn
        exact CodeGoal.wp (ihb nt z hno.2 hok.2 l r g0 w0 rts (LC.up hup1) g1 tmps1 w' R1 hs1 (hy1 0 (by simp)) hL1 A1 Q fun a2 w2 hn2 => hQ _ _ (hn2.up hup1))
      | scope x =>
        cases a with
        | skip =>
          simp only [okCode] at hok
          cases ha
          exact wpIn_scope (CodeGoal.wp (ihb nt x hno.2 hok l r g0 w0 rts LC g tmps w R hnt hy hL A (Exit.noGoto Q) fun a' w' hn => by cases e <;> exact hQ _ _ hn))
        | _ => simp [okCode] at hok
      | _ => simp [okCode] at hok
    | _ => trivial
  | @iseqX y j a b σ j₁ σ₁ e he ha iha =>
    intro nt mc hno hok l r g0 w0 rts LC g tmps w R hnt hy hL A Q hQ
    simp only [C.noRf, Bool.and_eq_true] at hno
    cases mc with
    | seq x z =>
      simp [okCode] at hok
      refine wpIn_seq (CodeGoal.wp (iha nt x hno.1 hok.1 l r g0 w0 rts LC g tmps w R hnt hy hL A _ fun a' w' hn => ?_))
      cases e with
      | normal => exact absurd rfl he
      | exit id => exact hQ _ _ hn
      | ret => exact hQ _ _ hn
    | scope x =>
      cases a with
      | skip => cases ha; exact absurd rfl he
      | _ => simp [okCode] at hok
    | _ => simp [okCode] at hok
  | @icond y j x a b σ p t r hx _ ih =>
    cases r with
    | icode j₂ e σ' =>
      intro nt mc hno hok l r g0 w0 rts LC g tmps w R hnt hy hL A Q hQ
      simp only [C.noRf, Bool.and_eq_true] at hno
      cases mc <;> simp [okCode] at hok
      rename_i q c d
      have hv := R.val hok.1.1
      rw [hx] at hv
      refine wpIn_cond (t := t) (by rw [Act.eval_T]; exact hv.bool) ?_
      cases t with
      | true => exact CodeGoal.wp (ih nt c hno.1 hok.1.2 l r g0 w0 rts LC g tmps w R hnt hy hL A Q hQ)
      | false => exact CodeGoal.wp (ih nt d hno.2 hok.2 l r g0 w0 rts LC g tmps w R hnt hy hL A Q hQ)
    | _ => trivial
  | @iblock y j id c σ j₁ σ₁ _ ih =>
    intro nt mc hno hok l r g0 w0 rts LC g tmps w R hnt hy hL A Q hQ
    cases mc <;> simp [okCode] at hok
    obtain ⟨rfl, hok⟩ := hok
    exact wpIn_block (CodeGoal.wp (ih nt _ hno hok l r g0 w0 rts LC g tmps w R hnt hy hL A _ fun a' w' hn => hQ _ _ hn))
  | @iblockX y j id c σ j₁ σ₁ _ ih =>
    intro nt mc hno hok l r g0 w0 rts LC g tmps w R hnt hy hL A Q hQ
    cases mc <;> simp [okCode] at hok
    obtain ⟨rfl, hok⟩ := hok
    refine wpIn_block (CodeGoal.wp (ih nt _ hno hok l r g0 w0 rts LC g tmps w R hnt hy hL A _ fun a' w' hn => ?_))
    simp only [exitOf, Exit.inBlock, if_true]
    exact hQ _ _ hn
  | @iblockY y j id c σ j₁ σ₁ e hn1 he _ ih =>
    intro nt mc hno hok l r g0 w0 rts LC g tmps w R hnt hy hL A Q hQ
    cases mc <;> simp [okCode] at hok
    obtain ⟨rfl, hok⟩ := hok
    refine wpIn_block (CodeGoal.wp (ih nt _ hno hok l r g0 w0 rts LC g tmps w R hnt hy hL A _ fun a' w' hn => ?_))
    cases e with
    | normal => exact absurd rfl hn1
    | exit id' =>
      have : id' ≠ id := fun h => he (by rw [h])
      simp only [exitOf, Exit.inBlock, if_neg this]
      exact hQ _ _ hn
    | ret => exact hQ _ _ hn
  | @iloop y j c σ j₁ σ₁ r _ _ ih1 ih2 =>
    cases r with
    | icode j₂ e σ' =>
      intro nt mc hno hok l r g0 w0 rts LC g tmps w R hnt hy hL A Q hQ
      cases mc with
      | loop b =>
        simp only [okCode] at hok
        refine LoopWp.round (CodeGoal.wp (ih1 nt b hno hok l r g0 w0 rts LC g tmps w R hnt hy hL A _ fun a' w' hn => ?_))
        obtain ⟨g1, tmps1, rfl, hs1, hy1, R1, A1, hup1, hL1⟩ := hn
        exact ih2 nt (.loop b) hno (by simp only [okCode]; exact hok) l r g0 w0 rts (LC.up hup1) g1 tmps1 w' R1 hs1 (hy1 0 (by simp)) hL1 A1 Q fun a2 w2 hn2 => hQ _ _ (hn2.up hup1)
      | _ => simp [okCode] at hok
    | _ => trivial
  | @iloopX y j c σ j₁ σ₁ e he _ ih =>
    intro nt mc hno hok l r g0 w0 rts LC g tmps w R hnt hy hL A Q hQ
    cases mc with
    | loop b =>
      simp only [okCode] at hok
      refine LoopWp.round (CodeGoal.wp (ih nt b hno hok l r g0 w0 rts LC g tmps w R hnt hy hL A _ fun a' w' hn => ?_))
      cases e with
      | normal => exact absurd rfl he
      | exit id => exact hQ _ _ hn
      | ret => exact hQ _ _ hn
    | _ => simp [okCode] at hok
  | @irg y j id fs is σ σ₁ j₁ σ' hp hz _ ih =>
    intro nt mc hno hok l r g0 w0 rts LC g tmps w R hnt hy hL A Q hQ
    cases mc <;> simp [okCode] at hok
    obtain ⟨rfl, hok⟩ := hok
    obtain ⟨g1, R1, A1, hup⟩ := pre_sound fs R hp
    obtain ⟨hlen, hall, _⟩ := okRg.facts hok
    have hL' := OkL.of hall (List.range _) (fun j hj => List.mem_range.1 hj)
    rw [itG_map hlen] at hL'
    exact wpIn_region (ih nt _ _ hL' l r g0 w0 rts (LC.up hup) (by simp) g1 tmps w R1 hnt (fun s hs => by simp only [List.mem_singleton] at hs; subst hs; exact hy) (hL.adv A1) (A.trans A1) Q fun a2 w2 hn2 => hQ _ _ (hn2.up hup))
  | inil =>
    intro nt ops js hO l r g0 w0 rts LC h0 g tmps w R hnt hy hL A Q hQ
    cases hO
    exact hQ _ _ ⟨g, tmps, rfl, hnt, fun s hs => by simp only [List.mem_singleton] at hs; subst hs; exact hy 0 h0, R, A, rfl, hL⟩
  | @iop y j ys i is σ σ₁ r hyi hd0 _ _ ihs ih =>
    cases r with
    | iops j₂ σ' =>
      intro nt ops js hO l r g0 w0 rts LC h0 g tmps w R hnt hy hL A Q hQ
      cases hO with
      | @cons _ _ jx js o hj ho hO =>
        have h1 : Op1 P E σ i σ₁ := by
          have h1 : Ops1 P E σ [i] σ₁ := ihs
          cases h1 with
          | cons h1 hr => cases hr; exact h1
        unfold wpOpsIn
        simp only [hj]
        refine opwp_in (op1_defer ho h1) (op_wpT (K := wpOpsIn (Wd none) 0 P ops Q js) hE ho R hnt h1 (fun a' w' hn hkeep => ?_))
        obtain ⟨g1, tmps1, rfl, hs1, R1, A1, hup1⟩ := hn
        refine ih nt ops js hO l r g0 w0 rts (LC.up hup1) ?_ g1 tmps1 w' R1 hs1 ?_ (hL.adv A1) (A.trans A1) Q fun a2 w2 hn2 => hQ _ _ (hn2.up hup1)
        · exact dropY_zero hd0 h0
        · intro s hs
          obtain ⟨q1, q2⟩ := dropY_mem hs
          rw [hkeep s q2]
          exact hy s q1
    | _ => trivial
  | @imv y j ys d s is σ r hyi hd0 _ ih =>
    cases r with
    | iops j₂ σ' =>
      intro nt ops js hO l r g0 w0 rts LC h0 g tmps w R hnt hy hL A Q hQ
      cases hO with
      | @cons _ _ jx js o hj ho hO =>
        have hmem : s ∈ ys := by simpa using hyi
        have h1 : Op1 P E (σ.set s .u) ⟨.mv d (.t s), none⟩ ((σ.set s .u).set d .u) := .step rfl (by simp [Vm.step, St.val, St.get_set])
        unfold wpOpsIn
        simp only [hj]
        refine opwp_in (op1_defer ho h1) (move_wpT (K := wpOpsIn (Wd none) 0 P ops Q js) ho R hnt (fun hlt => ?_))
        refine ih nt ops js hO l r g0 w0 rts LC (by simp [h0]) g _ w (R.set (by rw [hnt]; exact hlt) trivial) (by simpa using hnt) ?_ hL A Q hQ
        intro t ht
        by_cases htd : d = t
        · subst htd
          simp only [Array.getD_eq_getD_getElem?, Array.getElem?_setIfInBounds_self_of_lt (by rw [hnt]; exact hlt), Option.getD_some]
          have := hy s hmem
          simpa [Array.getD_eq_getD_getElem?] using this
        · have : t ∈ ys := by simpa [Ne.symm htd] using ht
          simp only [Array.getD_eq_getD_getElem?, Array.getElem?_setIfInBounds_ne htd]
          have := hy t this
          simpa [Array.getD_eq_getD_getElem?] using this
    | _ => trivial
  | @iyield y ys d s as rm is σ τ₁ e τ₂ σ₂ r hyi hd0 hl _ _ hv _ iha ihb ih =>
    cases r with
    | iops j₂ σ' =>
      intro nt ops js hO l r g0 w0 rts LC h0 g tmps w R hnt hy hL A Q hQ
      cases hO with
      | @cons _ _ jx js o hj ho hO =>
        have hmem : s ∈ ys := by simpa using hyi
        unfold wpOpsIn
        simp only [hj]
        refine yield_wp LC iha ihb hv hl ho hnt (hy s hmem) R hL A fun g' w' R' A' hu hL' hlt => ?_
        refine ih nt ops js hO l r g0 w0 rts (LC.up (by rw [St.up_set]; exact hu)) ?_ g' _ w' (R'.set (by rw [hnt]; exact hlt) (by simp [VR, Den, DenC])) (by simpa using hnt) ?_ hL' A' Q fun a2 w2 hn2 => hQ _ _ (hn2.up (by rw [St.up_set]; exact hu))
        · refine dropY_zero ?_ h0
          simp only [keep0, I.dst, hd0]; rfl
        · intro t ht
          obtain ⟨q1, q2⟩ := dropY_mem ht
          have hne : d ≠ t := fun h => q2 (by rw [← h]; rfl)
          simp only [Array.getD_eq_getD_getElem?, Array.getElem?_setIfInBounds_ne hne]
          have := hy t q1
          simpa [Array.getD_eq_getD_getElem?] using this
    | _ => trivial
end
end Go.Proofs.Ytkhgnkfdpabflaa.Vm
/- Checks hold for longer frames too. -/
namespace Go.Proofs.Ytkhgnkfdpabflaa.Vm
open Go
section
variable {P : Program} {E : Env} {nt nt' : Nat}
theorem okI_mono (hn : nt ≤ nt') {i : I} {o : Oper} (h : okI P nt i o = true) : okI P nt' i o = true := by
  unfold okI at h ⊢
  rw [Bool.and_eq_true] at h ⊢
  refine ⟨?_, h.2⟩
  have h1 := h.1
  cases hd : i.dst with
  | none => rw [hd] at h1; exact h1
  | some d =>
    rw [hd] at h1
    simp only [Bool.and_eq_true, decide_eq_true_eq] at h1 ⊢
    exact ⟨h1.1, by omega⟩
theorem okCall_mono (hn : nt ≤ nt') {i : I} {o : Oper} (h : okCall nt i o = true) : okCall nt' i o = true := by
  unfold okCall at h ⊢
  split at h
  · simp only [Bool.and_eq_true, decide_eq_true_eq] at h ⊢
    exact ⟨⟨⟨h.1.1.1, by omega⟩, h.1.2⟩, h.2⟩
  · simp only [Bool.and_eq_true, decide_eq_true_eq] at h ⊢
    exact ⟨⟨⟨h.1.1.1, by omega⟩, h.1.2⟩, h.2⟩
  · exact h
  · cases h
theorem okG_mono (hn : nt ≤ nt') {ops : Array Oper} {i : G} {o : Oper} (h : okG P nt ops i o = true) : okG P nt' ops i o = true := by
  simp only [okG, Bool.and_eq_true, Bool.or_eq_true] at h ⊢
  exact ⟨h.1, h.2.imp (okI_mono hn) (okCall_mono hn)⟩
theorem okRg_mono (hn : nt ≤ nt') {dr : Bool} {is : List G} {ops : Array Oper} {os : List (List Nat)} (h : okRg P E nt dr is ops os = true) : okRg P E nt' dr is ops os = true := by
  simp only [okRg, Bool.and_eq_true] at h ⊢
  refine ⟨⟨h.1.1, List.all_eq_true.2 fun i hi => ?_⟩, h.2⟩
  have := List.all_eq_true.1 h.1.2 i hi
  split at this
  · exact okG_mono hn this
  · cases this
theorem okCode_mono (hn : nt ≤ nt') : ∀ (c : C) (mc : Code), okCode P E nt c mc = true → okCode P E nt' c mc = true := by
  intro c
  induction c with
  | skip => intro mc h; cases mc <;> first | exact h | (simp [okCode] at h; done)
  | rg id dr fs is os =>
    intro mc h
    cases mc <;> try (simp [okCode] at h; done)
    simp only [okCode, Bool.and_eq_true] at h ⊢
    exact ⟨h.1, okRg_mono hn h.2⟩
  | seq a b iha ihb =>
    intro mc h
    cases mc with
    | seq x y =>
      simp only [okCode, Bool.and_eq_true] at h ⊢
      exact ⟨iha _ h.1, ihb _ h.2⟩
    | scope x =>
      cases a with
      | skip => simp only [okCode] at h ⊢; exact ihb _ h
      | _ => simp [okCode] at h
    | _ => simp [okCode] at h
  | cond x a b iha ihb =>
    intro mc h
    cases mc <;> try (simp [okCode] at h; done)
    simp only [okCode, Bool.and_eq_true] at h ⊢
    exact ⟨⟨h.1.1, iha _ h.1.2⟩, ihb _ h.2⟩
  | block id a iha =>
    intro mc h
    cases mc <;> try (simp [okCode] at h; done)
    simp only [okCode, Bool.and_eq_true] at h ⊢
    exact ⟨h.1, iha _ h.2⟩
  | loop a iha =>
    intro mc h
    cases mc <;> try (simp [okCode] at h; done)
    simp only [okCode] at h ⊢
    exact iha _ h
  | exit id => intro mc h; cases mc <;> first | exact h | (simp [okCode] at h; done)
  | ret => intro mc h; cases mc <;> first | exact h | (simp [okCode] at h; done)
  | rfun x ps a b iha ihb =>
    intro mc h
    cases mc <;> try (simp [okCode] at h; done)
    simp only [okCode, Bool.and_eq_true] at h ⊢
    refine ⟨⟨⟨h.1.1.1, List.all_eq_true.2 fun q hq => ?_⟩, iha _ h.1.2⟩, ihb _ h.2⟩
    have := List.all_eq_true.1 h.1.1.2 q hq
    simp only [decide_eq_true_eq] at this ⊢
    omega
  | bad => intro mc h; simp [okCode]
def okFn (P : Program) (E : Env) (f : Nat) (F : Fn) : Bool := match P.funcs[f]? with
  | some fn => fn.name != "runtime.NumGoroutine" && (match fn.body with | some c => okCode P E fn.ntmps F.code c | none => false) && okRv P F.res fn.results.toList
  | none => false
theorem okFn.fns (h : ∀ f F, E.fn f = some F → okFn P E f F = true) : FnsOk P E ∧ ∀ f F, E.fn f = some F → enters P f = true := by
  refine ⟨⟨fun f F hf => ?_⟩, fun f F hf => ?_⟩
  · have := h f F hf
    unfold okFn at this
    split at this
    · rename_i fn hfn
      simp only [Bool.and_eq_true] at this
      split at this
      · rename_i c hc
        exact ⟨fn, c, hfn, hc, this.2, fun nt hnt => okCode_mono hnt _ _ this.1.2⟩
      · cases this.1.2
    · cases this
  · have := h f F hf
    unfold okFn at this
    unfold enters
    split at this
    · rename_i fn hfn
      simp only [Bool.and_eq_true] at this
      split at this
      · rename_i c hc
        rw [hfn]
        simp [hc]
        simpa using this.1.1
      · cases this.1.2
    · cases this
end
end Go.Proofs.Ytkhgnkfdpabflaa.Vm
/- Arguments that can be read, as trees. -/
namespace Go.Proofs.Ytkhgnkfdpabflaa.Vm
open Go
def mkT (P : Program) (t : TypeId) (ts : List T) : T := match wOf P t with
  | some 0 => ts.headD (.agg [])
  | _ => .agg ts
def TyT (P : Program) : Nat → TypeId → List T → Prop
  | 0, _, _ => False
  | fuel + 1, t, ts => match P.underlying t with
    | some .bool => ∃ b, ts = [.bool b]
    | some (.int k) => ∃ n, ts = [.int k n] ∧ (Lit.int k n).wf = true
    | some (.slice e) => ∃ es : List (List T), ts = [.lst (P.cellsOf e) (es.map (mkT P e))] ∧ es.length ≤ maxLen ∧ ∀ x ∈ es, TyT P fuel e x
    | some (.struct fs) => ∃ ps : List (List T), ts = ps.flatten ∧ ps.length = fs.size ∧ ∀ (i : Nat) (f : Field) (p : List T), fs[i]? = some f → ps[i]? = some p → TyT P fuel f.type p
    | some (.array n e) => ∃ ps : List (List T), ts = ps.flatten ∧ ps.length = n ∧ ∀ p ∈ ps, TyT P fuel e p
    | _ => False
def offsOk (P : Program) : Nat → List Field → Option Nat
  | n, [] => some n
  | n, f :: fs => if f.offset = n then offsOk P (n + P.cellsOf f.type) fs else none
def tyOk (P : Program) : Nat → TypeId → Bool
  | 0, _ => false
  | fuel + 1, t => match P.underlying t with
    | some .bool => decide (wOf P t = some 0) && decide (P.cellsOf t = 1)
    | some (.int _) => decide (wOf P t = some 0) && decide (P.cellsOf t = 1)
    | some (.slice e) => decide (wOf P t = some 0) && decide (P.cellsOf t = 1) && decide (0 < P.cellsOf e) && tyOk P fuel e
    | some (.struct fs) => decide (wOf P t = some (P.cellsOf t + 1)) && decide (offsOk P 0 fs.toList = some (P.cellsOf t)) && fs.toList.all fun f => tyOk P fuel f.type
    | some (.array n e) => decide (wOf P t = some (P.cellsOf t + 1)) && decide (P.cellsOf t = n * P.cellsOf e) && tyOk P fuel e
    | _ => false
theorem mapM_some {α β : Type} {f : α → Option β} : ∀ {l : List α} {ys : List β}, l.mapM f = some ys → ys.length = l.length ∧ ∀ (i : Nat) (x : α), l[i]? = some x → ∃ y, ys[i]? = some y ∧ f x = some y
  | [], ys, h => by simp at h; subst h; simp
  | a :: l, ys, h => by
    simp only [List.mapM_cons, Option.bind_eq_bind, Option.pure_def] at h
    cases h1 : f a with
    | none => simp [h1] at h
    | some b =>
      cases h2 : l.mapM f with
      | none => simp [h1, h2] at h
      | some bs =>
        simp [h1, h2] at h
        subst h
        have ih := mapM_some h2
        refine ⟨by simp [ih.1], fun i x hx => ?_⟩
        cases i with
        | zero => simp at hx; subst hx; exact ⟨b, by simp, h1⟩
        | succ i => simp at hx; obtain ⟨y, hy, hf⟩ := ih.2 i x hx; exact ⟨y, by simpa using hy, hf⟩
section
variable {P : Program} {w : World} {ok : Nat → Prop}
theorem DenL.cells : ∀ {ts : List T} {vs : List Value}, DenL w ok ts vs → ts.length = vs.length ∧ ∀ t ∈ ts, t.isCell = true
  | [], vs, h => by simp only [DenL] at h; subst h; simp
  | t :: ts, _, h => by
    obtain ⟨v, vs, rfl, h0, _, h2⟩ := h
    have ih := DenL.cells h2
    exact ⟨by simp [ih.1], fun x hx => by rcases List.mem_cons.1 hx with rfl | hx; exact h0; exact ih.2 x hx⟩
theorem DenL.append : ∀ {ts us : List T} {vs ws : List Value}, DenL w ok ts vs → DenL w ok us ws → DenL w ok (ts ++ us) (vs ++ ws)
  | [], us, vs, ws, h, k => by simp only [DenL] at h; subst h; simpa using k
  | t :: ts, us, _, ws, h, k => by
    obtain ⟨v, vs, rfl, h0, h1, h2⟩ := h
    exact ⟨v, vs ++ ws, by simp, h0, h1, DenL.append h2 k⟩
theorem mkT_den {t : TypeId} {ts : List T} {vs : List Value} (hw : wOf P t = some 0 → vs.length = 1) (h : DenL w ok ts vs) : DenC w ok (mkT P t ts) vs := by
  unfold mkT
  split
  · rename_i h0
    have hl := hw h0
    match ts, vs, h, hl with
    | [t], [v], h, _ =>
      obtain ⟨v', vs', he, _, h1, _⟩ := h
      cases he
      exact h1
    | [], [v], h, _ => exact absurd h (by simp [DenL])
    | t :: u :: ts, [v], h, _ =>
      obtain ⟨v', vs', he, _, _, h2⟩ := h
      simp only [List.cons.injEq] at he
      obtain ⟨_, rfl⟩ := he
      obtain ⟨_, _, he, _⟩ := h2
      cases he
  · exact h
theorem cells_some {a : Addr} {n : Nat} {cs : List Value} (h : w.cells? 0 a n = some cs) : cs.length = n ∧ ∀ j, j < n → w.cell? (a.add j) = cs[j]? := by
  unfold World.cells? at h
  rw [if_pos (Nat.zero_le _)] at h
  obtain ⟨h1, h2⟩ := mapM_some h
  refine ⟨by simpa using h1, fun j hj => ?_⟩
  obtain ⟨y, hy, hf⟩ := h2 j j (by rw [List.getElem?_range hj])
  rw [hf, hy]
end
end Go.Proofs.Ytkhgnkfdpabflaa.Vm
/- Arguments that can be read: they are trees. -/
namespace Go.Proofs.Ytkhgnkfdpabflaa.Vm
open Go
section
variable {P : Program} {w : World}
theorem DenR.mk {ok : Nat → Prop} {b s : Nat} : ∀ (es : List T) (o : Nat), (∀ (i : Nat) (e : T), es[i]? = some e → ∃ vs, vs.length = s ∧ (∀ j, j < s → w.cell? ⟨b, o + i * s + j, none⟩ = vs[j]?) ∧ DenC w ok e vs) → DenR w ok b s o es
  | [], _, _ => trivial
  | e :: es, o, h => by
    refine ⟨?_, DenR.mk es (o + s) fun i e he => ?_⟩
    · obtain ⟨vs, hl, hc, hd⟩ := h 0 e (by simp)
      exact ⟨vs, hl, fun j hj => by simpa using hc j hj, hd⟩
    · obtain ⟨vs, hl, hc, hd⟩ := h (i + 1) e (by simpa using he)
      refine ⟨vs, hl, fun j hj => ?_, hd⟩
      have := hc j hj
      rw [show o + (i + 1) * s + j = o + s + i * s + j by rw [Nat.succ_mul]; omega] at this
      exact this
theorem tyOk_size {t : TypeId} (hw : wOf P t = some 0) : P.cellsOf t = 1 := by
  obtain ⟨i, hi, hs⟩ := wOf_size hw
  simp [Program.cellsOf, hi, hs, wid]
theorem cell_add {a : Addr} {n j : Nat} (h : a.spot = none) : w.cell? ((a.add n).add j) = w.cell? ⟨a.block, a.off + n + j, none⟩ := by
  have : (a.add n).add j = ⟨a.block, a.off + n + j, none⟩ := by
    unfold Addr.add
    cases a
    simp at h
    subst h
    split <;> split <;> simp_all
  rw [this]
theorem trod_parts {Q : TypeId → List T → Prop} {ok : Nat → Prop} {cs : List Value} {N : Nat} : ∀ (fs : List Field) (n : Nat),
    offsOk P n fs = some N → (∀ f ∈ fs, ∃ ts, Q f.type ts ∧ DenL w ok ts ((cs.drop f.offset).take (P.cellsOf f.type))) →
    ∃ ps : List (List T), ps.length = fs.length ∧ (∀ (i : Nat) (f : Field) (p : List T), fs[i]? = some f → ps[i]? = some p → Q f.type p) ∧ DenL w ok ps.flatten ((cs.drop n).take (N - n)) ∧ n ≤ N
  | [], n, h, _ => by
    simp [offsOk] at h
    subst h
    exact ⟨[], rfl, fun i f p hf => by simp at hf, by simp [DenL], Nat.le_refl _⟩
  | f :: fs, n, h, hf => by
    unfold offsOk at h
    split at h
    · rename_i ho
      obtain ⟨ts, hq, hd⟩ := hf f (by simp)
      obtain ⟨ps, hl, hp, hdd, hle⟩ := trod_parts fs _ h (fun f hm => hf f (by simp [hm]))
      refine ⟨ts :: ps, by simp [hl], fun i g p hg hpp => ?_, ?_, by omega⟩
      · cases i with
        | zero => simp at hg hpp; subst hg; subst hpp; exact hq
        | succ i => simp at hg hpp; exact hp i g p hg hpp
      · rw [List.flatten_cons]
        have := DenL.append hd hdd
        rw [ho] at this
        rw [show N - n = P.cellsOf f.type + (N - (n + P.cellsOf f.type)) by omega, List.take_add, List.drop_drop]
        exact this
    · cases h
theorem trod_arr {Q : List T → Prop} {ok : Nat → Prop} {cs : List Value} {s : Nat} : ∀ (n m : Nat),
    (∀ i, i < n → ∃ ts, Q ts ∧ DenL w ok ts ((cs.drop ((m + i) * s)).take s)) →
    ∃ ps : List (List T), ps.length = n ∧ (∀ p ∈ ps, Q p) ∧ DenL w ok ps.flatten ((cs.drop (m * s)).take (n * s))
  | 0, m, _ => ⟨[], rfl, fun p hp => by simp at hp, by simp [DenL]⟩
  | n + 1, m, h => by
    obtain ⟨ts, hq, hd⟩ := h 0 (by omega)
    obtain ⟨ps, hl, hp, hdd⟩ := trod_arr n (m + 1) (fun i hi => by
      obtain ⟨ts, h1, h2⟩ := h (i + 1) (by omega)
      exact ⟨ts, h1, by rw [show m + 1 + i = m + (i + 1) by omega]; exact h2⟩)
    refine ⟨ts :: ps, by simp [hl], fun p hm => ?_, ?_⟩
    · rcases List.mem_cons.1 hm with rfl | hm
      · exact hq
      · exact hp p hm
    · rw [List.flatten_cons]
      have := DenL.append hd hdd
      rw [show (n + 1) * s = s + n * s by rw [Nat.succ_mul]; omega, List.take_add, List.drop_drop]
      rw [show (m + 1) * s = m * s + s by rw [Nat.succ_mul]] at this
      simpa using this
theorem trod_els {H : Type} {enc : TypeId × Value → H} {spare : Nat → Bool} {held : Bool} {k fuel : Nat} {e : TypeId} {a : Addr} {xs : List (DataW H × List MemPlace)} {len : Nat}
    (IH : ∀ (cs : List Value) (x : DataW H × List MemPlace), DataW.trod enc P w 0 spare held fuel e cs = some x → ∃ ts, TyT P k e ts ∧ DenL w (· < w.heap.size) ts cs ∧ cs.length = P.cellsOf e)
    (hs : 0 < P.cellsOf e) (hw : wOf P e = some 0 → P.cellsOf e = 1)
    (h : (List.range len).mapM (fun i => (w.cells? 0 (a.add (i * P.cellsOf e)) (P.cellsOf e)).bind (DataW.trod enc P w 0 spare held fuel e)) = some xs) :
    ∃ es : List (List T), es.length = len ∧ (∀ x ∈ es, TyT P k e x) ∧ (es = [] ∨ ∃ b o, a = ⟨b, o, none⟩ ∧ b < w.heap.size ∧ DenR w (· < w.heap.size) b (P.cellsOf e) o (es.map (mkT P e))) := by
  obtain ⟨h1, h2⟩ := mapM_some h
  have each : ∀ i, i < len → ∃ (ts : List T) (cs : List Value), TyT P k e ts ∧ DenL w (· < w.heap.size) ts cs ∧ cs.length = P.cellsOf e ∧ w.cells? 0 (a.add (i * P.cellsOf e)) (P.cellsOf e) = some cs := by
    intro i hi
    obtain ⟨y, _, hy⟩ := h2 i i (by rw [List.getElem?_range hi])
    cases hc : w.cells? 0 (a.add (i * P.cellsOf e)) (P.cellsOf e) with
    | none => rw [hc] at hy; simp at hy
    | some cs =>
      rw [hc] at hy
      obtain ⟨ts, q1, q2, q3⟩ := IH cs y (by simpa using hy)
      exact ⟨ts, cs, q1, q2, q3, rfl⟩
  have spot : 0 < len → a.spot = none ∧ a.block < w.heap.size := by
    intro hl
    obtain ⟨ts, cs, _, _, hlen, hc⟩ := each 0 hl
    have hcs := (cells_some hc).2 0 hs
    simp only [Nat.zero_mul, Addr.add, if_true] at hcs
    have hv : ∃ v, cs[0]? = some v := ⟨cs[0]'(by omega), List.getElem?_eq_getElem (by omega)⟩
    obtain ⟨v, hv⟩ := hv
    rw [hv] at hcs
    unfold World.cell? at hcs
    split at hcs
    · rename_i hb
      split at hcs
      · cases hcs
      · rename_i hsp
        refine ⟨by simpa using hsp, ?_⟩
        rcases Nat.lt_or_ge a.block w.heap.size with hb' | hb'
        · exact hb'
        · rw [Array.getElem?_eq_none hb'] at hb; cases hb
    · cases hcs
  obtain ⟨es, hl, hes⟩ : ∃ es : List (List T), es.length = len ∧ ∀ i, i < len → ∃ ts cs, es[i]? = some ts ∧ TyT P k e ts ∧ DenL w (· < w.heap.size) ts cs ∧ cs.length = P.cellsOf e ∧ w.cells? 0 (a.add (i * P.cellsOf e)) (P.cellsOf e) = some cs := by
    refine ⟨(List.range len).map fun i => if hi : i < len then (each i hi).choose else [], by simp, fun i hi => ?_⟩
    obtain ⟨cs, q⟩ := (each i hi).choose_spec
    exact ⟨_, cs, by simp [hi], q⟩
  refine ⟨es, hl, fun x hx => ?_, ?_⟩
  · obtain ⟨i, hi⟩ := List.mem_iff_getElem?.1 hx
    have hil : i < len := by rw [← hl]; exact (List.getElem?_eq_some_iff.1 hi).1
    obtain ⟨ts, cs, q0, q1, _⟩ := hes i hil
    rw [hi] at q0
    cases q0
    exact q1
  · rcases Nat.eq_zero_or_pos len with h0 | h0
    · left; exact List.length_eq_zero_iff.1 (by omega)
    · right
      obtain ⟨s1, s2⟩ := spot h0
      refine ⟨a.block, a.off, by cases a; simp at s1; simp [s1], s2, DenR.mk _ _ fun i x hx => ?_⟩
      rw [List.getElem?_map] at hx
      cases hi : es[i]? with
      | none => rw [hi] at hx; simp at hx
      | some ts' =>
        rw [hi] at hx
        simp at hx
        subst hx
        have hil : i < len := by rw [← hl]; exact (List.getElem?_eq_some_iff.1 hi).1
        obtain ⟨ts, cs, q0, _, q2, q3, q4⟩ := hes i hil
        rw [hi] at q0
        cases q0
        refine ⟨cs, q3, fun j hj => ?_, mkT_den (fun h0 => by rw [q3]; exact hw h0) q2⟩
        rw [← cell_add s1]
        exact (cells_some q4).2 j hj
set_option maxHeartbeats 2000000 in
theorem trod_den {H : Type} {enc : TypeId × Value → H} {spare : Nat → Bool} {held : Bool} : ∀ (k fuel : Nat) (t : TypeId) (cs : List Value) (x : DataW H × List MemPlace),
    tyOk P k t = true → DataW.trod enc P w 0 spare held fuel t cs = some x → ∃ ts, TyT P k t ts ∧ DenL w (· < w.heap.size) ts cs ∧ cs.length = P.cellsOf t
  | 0, _, _, _, _, h, _ => by simp [tyOk] at h
  | k + 1, 0, _, _, _, _, h => by simp [DataW.trod] at h
  | k + 1, fuel + 1, t, cs, x, hk, h => by
    have IH := trod_den (H := H) (enc := enc) (spare := spare) (held := held) k fuel
    unfold tyOk at hk
    unfold TyT
    split at hk
    · rename_i hu
      simp only [Bool.and_eq_true, decide_eq_true_eq] at hk
      rw [DataW.trod.eq_def] at h
      simp only [hu] at h
      split at h <;> (try (rename_i e _; cases e; done)) <;> (try (cases h; done)) <;> (try (rename_i e; cases e; done))
      rename_i b _
      refine ⟨[.bool b], ⟨b, rfl⟩, ?_, by simp [hk.2]⟩
      simp [DenL, DenC, T.isCell]
    · rename_i kd hu
      simp only [Bool.and_eq_true, decide_eq_true_eq] at hk
      rw [DataW.trod.eq_def] at h
      simp only [hu] at h
      split at h <;> (try (rename_i e _; cases e; done)) <;> (try (cases h; done)) <;> (try (rename_i e; cases e; done))
      rename_i k0 k' n e
      cases e
      split at h
      · rename_i hc
        obtain ⟨rfl, hwf⟩ := hc
        refine ⟨[.int _ n], ⟨n, rfl, hwf⟩, ?_, by simp [hk.2]⟩
        simp [DenL, DenC, T.isCell]
      · cases h
    · rename_i e hu
      simp only [Bool.and_eq_true, decide_eq_true_eq] at hk
      rw [DataW.trod.eq_def] at h
      simp only [hu] at h
      split at h <;> (try (rename_i e _; cases e; done)) <;> (try (cases h; done)) <;> (try (rename_i e; cases e; done))
      · refine ⟨[.lst (P.cellsOf e) []], ⟨[], by simp, by simp [maxLen], by simp⟩, ?_, by simp [hk.1.1.2]⟩
        show ∃ v vs', _ ∧ _
        exact ⟨_, [], rfl, rfl, ⟨none, 0, rfl, Nat.le_refl _, .inl rfl⟩, rfl⟩
      · rename_i e' a len cap e1
        cases e1
        split at h
        · rename_i hc
          cases hm : (List.range len).mapM (fun i => (w.cells? 0 (a.add (i * P.cellsOf e)) (P.cellsOf e)).bind (DataW.trod enc P w 0 spare held fuel e)) with
          | none => rw [hm] at h; cases h
          | some xs =>
            obtain ⟨es, q1, q2, q3⟩ := trod_els (k := k) (fun cs x => IH e cs x hk.2) hk.1.2 tyOk_size hm
            refine ⟨[.lst (P.cellsOf e) (es.map (mkT P e))], ⟨es, rfl, by omega, q2⟩, ?_, by simp [hk.1.1.2]⟩
            show ∃ v vs', _ ∧ _
            refine ⟨_, [], rfl, rfl, ⟨some a, cap, by rw [List.length_map, q1], by rw [List.length_map, q1]; exact hc.2.1, ?_⟩, rfl⟩
            rcases q3 with rfl | ⟨b, o, rfl, hb, hr⟩
            · exact .inl rfl
            · exact .inr ⟨b, o, rfl, hb, hr⟩
        · cases h
    · rename_i fs hu
      simp only [Bool.and_eq_true, decide_eq_true_eq, List.all_eq_true] at hk
      rw [DataW.trod.eq_def] at h
      simp only [hu] at h
      split at h <;> (try (rename_i e _; cases e; done)) <;> (try (cases h; done)) <;> (try (rename_i e; cases e; done))
      · rename_i hlen
        cases hm : fs.toList.mapM fun f => DataW.trod enc P w 0 spare held fuel f.type ((cs.drop f.offset).take (P.cellsOf f.type)) with
        | none => rw [hm] at h; cases h
        | some xs =>
          obtain ⟨h1, h2⟩ := mapM_some hm
          obtain ⟨ps, q1, q2, q3, _⟩ := trod_parts (w := w) (Q := TyT P k) (ok := (· < w.heap.size)) (cs := cs) fs.toList 0 hk.1.2 (fun f hf => by
            obtain ⟨i, hi⟩ := List.mem_iff_getElem?.1 hf
            obtain ⟨y, _, hy⟩ := h2 i f hi
            obtain ⟨ts, t1, t2, _⟩ := IH f.type _ y (hk.2 f hf) hy
            exact ⟨ts, t1, t2⟩)
          refine ⟨ps.flatten, ⟨ps, rfl, by simpa using q1, fun i f p hf hp => q2 i f p (by simpa using hf) hp⟩, ?_, hlen⟩
          simpa [← hlen] using q3
    · rename_i n e hu
      simp only [Bool.and_eq_true, decide_eq_true_eq] at hk
      rw [DataW.trod.eq_def] at h
      simp only [hu] at h
      split at h <;> (try (rename_i e _; cases e; done)) <;> (try (cases h; done)) <;> (try (rename_i e; cases e; done))
      · rename_i hlen
        cases hm : (List.range n).mapM fun i => DataW.trod enc P w 0 spare held fuel e ((cs.drop (i * P.cellsOf e)).take (P.cellsOf e)) with
        | none => rw [hm] at h; cases h
        | some xs =>
          obtain ⟨h1, h2⟩ := mapM_some hm
          obtain ⟨ps, q1, q2, q3⟩ := trod_arr (w := w) (Q := TyT P k e) (ok := (· < w.heap.size)) (cs := cs) (s := P.cellsOf e) n 0 (fun i hi => by
            obtain ⟨y, _, hy⟩ := h2 i i (by rw [List.getElem?_range hi])
            obtain ⟨ts, t1, t2, _⟩ := IH e _ y hk.2 hy
            exact ⟨ts, t1, by simpa using t2⟩)
          refine ⟨ps.flatten, ⟨ps, rfl, q1, q2⟩, ?_, hlen⟩
          rw [← hk.1.2, ← hlen] at q3
          simpa using q3
    · cases hk
end
end Go.Proofs.Ytkhgnkfdpabflaa.Vm
/- A law's row, out of the machine's answer. -/
namespace Go.Proofs.Ytkhgnkfdpabflaa.Vm
open Go Go.RowKit
def argV (P : Program) (t : TypeId) (x : List T) : V := ofT (mkT P t x)
def ArgsT (P : Program) (k : Nat) : List TypeId → List (List T) → Prop
  | [], [] => True
  | t :: ts, x :: xs => TyT P k t x ∧ ArgsT P k ts xs
  | _, _ => False
def argVs (P : Program) : List TypeId → List (List T) → List V
  | t :: ts, x :: xs => argV P t x :: argVs P ts xs
  | _, _ => []
def argOk (P : Program) (k : Nat) (t : TypeId) : Bool := tyOk P k t && (P.readableRec t && decide (t < P.types.size))
section
variable {P : Program} {W : World}
theorem val_den {k : Nat} {t : TypeId} {ok : Nat → Prop} {ts : List T} {v : Value} {base : Nat} {r : Reach} (ht : tyOk P k t = true) (hval : Value.okWide P W r base t v) (h : DenL W ok ts v.cells.toList) (hl : v.cells.toList.length = P.cellsOf t) :
    Den W ok (mkT P t ts) v := by
  cases k with
  | zero => simp [tyOk] at ht
  | succ k =>
    unfold tyOk at ht
    have one : wOf P t = some 0 → (∀ cs, v ≠ .agg cs) → Den W ok (mkT P t ts) v := by
      intro h0 hna
      have hv : v.cells.toList = [v] := by cases v <;> first | rfl | exact absurd rfl (hna _)
      rw [hv] at h
      have h2 := mkT_den (P := P) (t := t) (fun _ => rfl) h
      have hc : (mkT P t ts).isCell = true := by
        match ts, h with
        | [t'], h =>
          obtain ⟨_, _, _, hc, _⟩ := h
          unfold mkT
          rw [h0]
          exact hc
        | [], h => exact absurd h (by simp [DenL])
        | _ :: _ :: _, h =>
          obtain ⟨_, _, he, _, _, h2⟩ := h
          simp only [List.cons.injEq] at he
          obtain ⟨_, rfl⟩ := he
          obtain ⟨_, _, he, _⟩ := h2
          cases he
      cases hm : mkT P t ts with
      | agg cs => rw [hm] at hc; cases hc
      | _ => rw [hm] at h2; exact h2
    have many : ∀ n, wOf P t = some (n + 1) → (∃ cs, v = .agg cs) → Den W ok (mkT P t ts) v := by
      intro n h0 ⟨cs, hv⟩
      subst hv
      have hv : (Value.agg cs).cells.toList = cs.toList := rfl
      rw [hv] at h
      unfold mkT
      rw [h0]
      exact ⟨cs.toList, by simp, h⟩
    split at ht
    · rename_i hu
      simp only [Bool.and_eq_true, decide_eq_true_eq] at ht
      refine one ht.1 fun cs hv => ?_
      subst hv
      unfold Value.okWide at hval
      simp only [hu] at hval
      obtain ⟨b, hb⟩ := Go.WideShapes.okWide_bool hu (by unfold Value.okWide; simp only [hu]; exact hval)
      cases hb
    · rename_i kd hu
      simp only [Bool.and_eq_true, decide_eq_true_eq] at ht
      refine one ht.1 fun cs hv => ?_
      subst hv
      obtain ⟨b, hb⟩ := Go.WideShapes.okWide_int hu hval
      cases hb
    · rename_i e hu
      simp only [Bool.and_eq_true, decide_eq_true_eq] at ht
      refine one ht.1.1.1 fun cs hv => ?_
      subst hv
      obtain ⟨a, b, c, hb⟩ := Go.WideShapes.okWide_slice hu hval
      cases hb
    · rename_i fs hu
      simp only [Bool.and_eq_true, decide_eq_true_eq] at ht
      obtain ⟨cs, hv, _⟩ := Go.WideShapes.okWide_struct hu hval
      exact many _ ht.1.1 ⟨cs, hv⟩
    · rename_i n e hu
      simp only [Bool.and_eq_true, decide_eq_true_eq] at ht
      unfold Value.okWide at hval
      simp only [hu] at hval
      obtain ⟨cs, hv, _⟩ := hval
      exact many _ ht.1.1 ⟨cs, hv⟩
    · cases ht
theorem trodAll_args {H : Type} {enc : TypeId × Value → H} {spare : Nat → Bool} {held : Bool} {k : Nat} {base : Nat} {r : Reach} {g : Gh} {O : Obs} {D : Nat} (hg : g.ok = (· < W.heap.size)) : ∀ (ts : List TypeId) (vs : List Value) (ds : List (DataW H)) (ps : List MemPlace),
    (∀ t ∈ ts, tyOk P k t = true) → (∀ (j : Nat) t v, ts[j]? = some t → vs[j]? = some v → Value.okWide P W r base t v) → DataW.TrodAll enc P W 0 spare held ts vs ds ps →
    ∃ xs, ArgsT P k ts xs ∧ VRs g W O D (argVs P ts xs) vs ∧ xs.length = ts.length
  | [], vs, ds, ps, _, _, h => by
    obtain ⟨rfl, _, _⟩ := Go.ChangeShapes.trodAll_nil h
    exact ⟨[], trivial, rfl, rfl⟩
  | t :: ts, vs, ds, ps, hok, hval, h => by
    match vs, ds, h with
    | v :: vs, d :: ds, ⟨p, q, ⟨fuel, h1⟩, h2, _⟩ =>
      obtain ⟨x, q1, q2, q3⟩ := trod_den k fuel t _ _ (hok t (by simp)) h1
      obtain ⟨xs, r1, r2, r3⟩ := trodAll_args (g := g) (O := O) (D := D) hg ts vs ds q (fun t h => hok t (by simp [h])) (fun j t v ht hv => hval (j + 1) t v (by simpa using ht) (by simpa using hv)) h2
      refine ⟨x :: xs, ⟨q1, r1⟩, ⟨v, vs, rfl, ofT_vr ?_, r2⟩, by simp [r3]⟩
      have := val_den (ok := g.ok) (hok t (by simp)) (hval 0 t v rfl rfl) (by rw [hg]; exact q2) q3
      exact this
theorem trodAll_back {H : Type} {enc : TypeId × Value → H} {W' : World} (hl : laidOutB P = true) (hb : Below W.heap.size W W') : ∀ (ts : List TypeId) (vs : List Value) (ds : List (DataW H)) (ps : List MemPlace),
    (∀ t ∈ ts, P.readableRec t = true ∧ t < P.types.size) → DataW.TrodAll enc P W 0 (fun _ => true) true ts vs ds ps → DataW.TrodAll enc P W' 0 (fun b => decide (b < W.heap.size)) true ts vs ds ps
  | [], vs, ds, ps, _, h => by
    obtain ⟨rfl, rfl, rfl⟩ := Go.ChangeShapes.trodAll_nil h
    exact rfl
  | t :: ts, vs, ds, ps, hok, h => by
    match vs, ds, h with
    | v :: vs, d :: ds, ⟨p, q, h1, h2, he⟩ =>
      have hlt : ∀ x ∈ p, x.block < W.heap.size := by obtain ⟨m, hm⟩ := h1; exact DataW.trod_lt m _ _ _ hm
      exact ⟨p, q, Below.trod hl (hok t (by simp)).1 (hok t (by simp)).2 h1 hb hlt, trodAll_back hl hb ts vs ds q (fun t h => hok t (by simp [h])) h2, he⟩
theorem trodAll_length {H : Type} {enc : TypeId × Value → H} {base : Nat} {spare : Nat → Bool} {held : Bool} : ∀ (ts : List TypeId) (vs : List Value) (ds : List (DataW H)) (ps : List MemPlace),
    DataW.TrodAll enc P W base spare held ts vs ds ps → ds.length = ts.length ∧ vs.length = ts.length
  | [], vs, ds, ps, h => by
    obtain ⟨rfl, rfl, rfl⟩ := Go.ChangeShapes.trodAll_nil h
    exact ⟨rfl, rfl⟩
  | t :: ts, vs, ds, ps, h => by
    match vs, ds, h with
    | v :: vs, d :: ds, ⟨p, q, h1, h2, he⟩ => have := trodAll_length ts vs ds q h2; simp [this.1, this.2]
theorem argVs_length : ∀ (ts : List TypeId) (xs : List (List T)), xs.length = ts.length → (argVs P ts xs).length = ts.length
  | [], xs, _ => by cases xs <;> rfl
  | t :: ts, [], h => by simp at h
  | t :: ts, x :: xs, h => by simp only [argVs, List.length_cons]; rw [argVs_length ts xs (by simpa using h)]
def Law (P : Program) (E : Env) (k f : Nat) (ts : List TypeId) : Prop := ∀ xs, ArgsT P k ts xs → ∃ p σ, Ev E (.fn f (argVs P ts xs) []) (.fn (.d p (.bool true)) σ)
theorem law_calls {E : Env} {H : Type} {enc : TypeId × Value → H} {k f : Nat} {ts : List TypeId} {args : Array Value} {base : Nat} {r : Reach} {ds : List (DataW H)} {ps : List MemPlace}
    (hE : EnvOk P E) (hX : ExtOk E) (hF : FnsOk P E) (hm : P.follows .mixedOrders = true) (law : Law P E k f ts) (hok : ∀ t ∈ ts, tyOk P k t = true)
    (hval : ∀ (j : Nat) t v, ts[j]? = some t → args[j]? = some v → Value.okWide P W r base t v) (h : DataW.TrodAll enc P W 0 (fun _ => true) true ts args.toList ds ps) :
    Calls P f args W fun e W' => e = .returned (.bool true) ∧ Below W.heap.size W W' := by
  let g : Gh := { own := fun _ => none, loc := fun _ _ => (0, 0, 0), ok := (· < W.heap.size), base := W.heap.size }
  obtain ⟨xs, hxs, hv, hl⟩ := trodAll_args (g := g) (O := fun _ _ => none) (D := 1) rfl ts args.toList ds ps hok (fun j t v ht hv => hval j t v ht (by simpa using hv)) h
  obtain ⟨p, σ, hev⟩ := law xs hxs
  have sem : FnSem P f (argVs P ts xs) [] (.d p (.bool true)) σ := ev_sound hE hX hF hm hev
  have hlen : (argVs P ts xs).length = args.size := by rw [argVs_length ts xs hl, ← (trodAll_length ts _ ds ps h).2, Array.length_toList]
  have hO : (⟨argVs P ts xs, [], []⟩ : St).O = fun _ _ => none := by
    funext a n
    simp only [St.O, List.length_nil]
    split
    · have ha0 : a = 0 := by omega
      subst ha0; rfl
    · rfl
  have R : Rel g ⟨argVs P ts xs, [], []⟩ args [] W := by
    refine ⟨fun i => ?_, fun a n o ha ho => ?_, fun r hr => (by cases hr), fun b a n hb => (by cases hb), fun b hb => hb, Nat.le_refl _⟩
    · have := VRs.at _ _ i hv
      rw [hO]
      simpa [St.get] using this
    · rw [hO] at ho; cases ho
  refine (sem g [] W args hlen R).mono fun e W' ⟨x, he, g', tmps', _, hx, A, _⟩ => ?_
  have : x = .bool true := VR.bool hx
  subst this
  exact ⟨he, A.os, A.tape, A.output, A.size, fun i hi => A.heap i hi rfl⟩
end
theorem law_row {C : Checked} {E : Env} {H : Type} {enc : TypeId × Value → H} {os : Os} {k f : Nat} {fn : Func} {s : ChangeSpec} {conds : List PathCond} {fresh handsOn : Bool} {rt : TypeId} (zero : Array Value)
    (hE : EnvOk C.prog E) (hX : ExtOk E) (hF : FnsOk C.prog E) (hm : C.prog.follows .mixedOrders = true)
    (own : ownKnob C.prog.godebug = none) (started : os.Started) (noInit : C.prog.inits.idxOf? f = none) (hfn : C.prog.funcs[f]? = some fn)
    (w1 : (World.plainHolding C.prog os ⟨#[], zero, []⟩).variablesB C.prog = true)
    (w2 : ((World.plainHolding C.prog os ⟨#[], zero, []⟩).heap.toList.drop C.prog.globals.size).take ((begin C.prog (fun _ _ => 0) default).world.heap.size - C.prog.globals.size) =
      (begin C.prog (fun _ _ => 0) default).world.heap.toList.drop C.prog.globals.size)
    (w3 : Input.okWideB C.prog (World.plainHolding C.prog os ⟨#[], zero, []⟩) f ⟨#[], zero, []⟩ = true)
    (w4 : s.preB enc C.prog fn conds false (World.plainHolding C.prog os ⟨#[], zero, []⟩).memory zero 8 = true)
    (w5 : s.sizedB enc C.prog fn false (World.plainHolding C.prog os ⟨#[], zero, []⟩).memory zero 8 = true)
    (hargs : fn.params.toList.all (argOk C.prog k) = true) (hl : laidOutB C.prog = true) (hres : fn.resultTypes = #[rt]) (hrt : C.prog.underlying rt = some .bool)
    (hs : s.vars = []) (hspec : ∀ ds : List (DataW H), ds.length = fn.params.size → s.fn H ds = { results := [.lit (.bool true)], args := ds })
    (law : Law C.prog E k f fn.params.toList) :
    ReturnsInHanded {} C os f .any (s.pre6 enc C.prog fn conds false) (s.post enc C.prog fn false fresh handsOn false) := by
  have hok : ∀ t ∈ fn.params.toList, tyOk C.prog k t = true ∧ C.prog.readableRec t = true ∧ t < C.prog.types.size := by
    intro t ht
    have := List.all_eq_true.1 hargs t ht
    simp only [argOk, Bool.and_eq_true, decide_eq_true_eq] at this
    exact this
  refine returnsInHanded_of_change_sized own started noInit hfn (ChangeSpec.witness6 (enc := enc) (C := C) false ⟨#[], zero, []⟩ 8 w1 w2 w3 w4 w5) ?_
  intro W base args ds gs before hval hW _ _ _
  have hW' := hW
  obtain ⟨p, q, hA, hV, rfl, _, _⟩ := hW
  rw [hs] at hV
  obtain ⟨rfl, rfl⟩ := Go.ChangeShapes.trodVars_none hV
  have hlen : ds.length = fn.params.size := by rw [(trodAll_length _ _ _ _ hA).1, Array.length_toList]
  refine (law_calls hE hX hF hm law (fun t ht => (hok t ht).1) (fun j t v ht hv => hval j t v (by simpa using ht) hv) hA).mono fun e W' ⟨he, bel⟩ => ?_
  subst he
  refine ⟨_, rfl, ds, [], _, [], p, [], hW', ?_, ?_, ?_, bel.frame _, fun h => by cases h⟩
  · rw [List.append_nil, hspec ds hlen, hres]
    exact Go.ChangeShapes.trodAll_mk1 (Go.RowKit.shut_bool hrt true)
  · rw [List.append_nil, hspec ds hlen]
    exact trodAll_back hl bel _ _ _ _ (fun t ht => (hok t ht).2) hA
  · rw [List.append_nil, hspec ds hlen, hs]
    exact rfl
end Go.Proofs.Ytkhgnkfdpabflaa.Vm
/- Functions of Go's library that ask what the machine does not know: tools, and slices.Clone. -/
namespace Go.Proofs.Ytkhgnkfdpabflaa.Vm
open Go
section
variable {P : Program} {E : Env} {g : Gh} {σ : St} {tmps : Array Value} {rts : Roots} {w : World}
theorem ops_wp2 (hE : EnvOk P E) {nt : Nat} {ops : Array Oper} {Q : Exit → Act → World → Prop} {ds : List Deferred} {is : List G} {σ' : St} {rest : List Nat} (h1 : Ops1 P E σ is σ') : ∀ {js : List Nat} {g : Gh} {tmps : Array Value} {w : World}, OkL P nt ops is js →
    Rel g σ tmps rts w → tmps.size = nt → (∀ a' w', Next g w rts nt σ.up.length σ' ds a' w' → wpOps P ops Q rest a' w') → wpOps P ops Q (js ++ rest) ⟨tmps, ds⟩ w := by
  induction h1 with
  | nil =>
    intro js g tmps w hL h hnt hQ
    cases hL
    exact hQ _ _ ⟨g, tmps, rfl, hnt, h, Adv.refl g w, rfl⟩
  | @cons σ σ₁ σ' i is h1 hr ih =>
    intro js g tmps w hL h hnt hQ
    cases hL with
    | @cons _ _ j js o hj ho hL =>
      simp only [List.cons_append]
      unfold wpOps
      simp only [hj]
      refine OpWp.plain (op_wp (K := wpOps P ops Q (js ++ rest)) hE ho h hnt h1 (fun a' w' hn => ?_))
      obtain ⟨g1, tmps1, rfl, hs1, R1, A1, hup1⟩ := hn
      refine ih hL R1 hs1 (fun a2 w2 hn2 => hQ _ _ ?_)
      exact hn2.trans A1 hup1
theorem value_wp {ops : Array Oper} {Q : Exit → Act → World → Prop} {ds : List Deferred} {rest : List Nat} {j : Nat} {o : Oper} {x : Value} {w' : World} (hj : ops[j]? = some o) (hg : o.guard = none)
    (hr : (execOp (evalT tmps) o).run P w = .ok (.value x) w') (h : wpOps P ops Q rest ⟨putT tmps o.dst x, ds⟩ w') : wpOps P ops Q (j :: rest) ⟨tmps, ds⟩ w := by
  unfold wpOps
  simp only [hj]
  have hw : Region.wanted o (yielded ops tmps) = true := by simp [Region.wanted, hg]
  rw [hw]
  simp only [if_true]
  refine .inl ?_
  unfold Oper.wp
  rw [Act.eval_T, hr, Oper.upon_value, putT_put]
  exact h
theorem wc_wp (hE : EnvOk P E) (hX : ExtOk E) (hF : FnsOk P E) (hm : P.follows .mixedOrders = true) {c : C} {K : Ex → St → Prop} (h : WC E c σ K) {nt : Nat} {mc : Code} (hnr : c.noRf = true) (hok : okCode P E nt c mc = true)
    (R : Rel g σ tmps rts w) (hnt : tmps.size = nt) {Q : Exit → Act → World → Prop} (hQ : ∀ e σ' a' w', K e σ' → Next g w rts nt σ.up.length σ' [] a' w' → Q (exitOf e) a' w') : mc.wp P Q ⟨tmps, []⟩ w := by
  obtain ⟨e, σ', h, k⟩ := h
  have m : Mot P E (.code c σ) (.code e σ') := ev_sound hE hX hF hm h
  refine wpIn_Wd.1 (CodeGoal.wp (m none nt mc (.inl rfl) hok g tmps rts w [] 0 R hnt (Nat.zero_le _) Q fun a' w' hn => ?_))
  obtain ⟨g', tmps', ds', rfl, hs, R', A, hu, _, hd⟩ := hn
  obtain rfl := hd hnr
  exact hQ e σ' _ w' k ⟨g', tmps', rfl, hs, R', A, hu⟩
theorem fn_wp {f : Nat} {fn : Func} {c : Code} {as : List V} {up : List Lv} {args : Array Value} {rs : List Rv} {K : V → St → Prop} (hfn : P.funcs[f]? = some fn) (hbody : fn.body = some c) (hlen : as.length = args.size)
    (R : Rel g ⟨as, [], up⟩ args rts w) (hres : okRv P rs fn.results.toList = true)
    (hwp : ∀ tmps nt, fn.ntmps ≤ nt → tmps.size = nt → Rel g ⟨as, [], up⟩ tmps rts w → ∀ Q : Exit → Act → World → Prop,
      (∀ e σ a' w', (e = .normal ∨ e = .ret) → (∃ v, resVal σ rs = some v ∧ K v σ) → Next g w rts nt up.length σ [] a' w' → Q (exitOf e) a' w') → c.wp P Q ⟨tmps, []⟩ w) :
    Calls P f args w fun e w' => ∃ r, e = .returned r ∧ ∃ v σ, K v σ ∧ Left g rts w up v σ r w' := by
  refine calls_of_wp hfn hbody (hwp (args ++ Array.replicate (fn.ntmps - args.size) undef) _ (by simp; omega) rfl ?_ _ fun e σ a' w' he hk hn => ?_)
  · refine ⟨fun i => ?_, R.ob, R.rt, R.own, R.okb, R.base⟩
    have := R.sl i
    by_cases hi : i < args.size
    · have e1 : (args ++ Array.replicate (fn.ntmps - args.size) undef).getD i undef = args.getD i undef := by
        simp [Array.getD_eq_getD_getElem?, Array.getElem?_append, hi]
      rw [e1]; exact this
    · have : (⟨as, [], up⟩ : St).get i = .u := gt_far _ _ _ (by simp; omega)
      rw [this]; trivial
  · obtain ⟨v, hv, hk⟩ := hk
    obtain ⟨g', tmps', rfl, hs, R', Ad, hup⟩ := hn
    obtain ⟨r, hr, hvr⟩ := results_sound R' hres hv
    have post : ([] : List Deferred) = [] ∧ ∃ x, (results fn tmps').run P w' = .ok x w' ∧ ∃ r, Ending.returned x = .returned r ∧ ∃ v σ, K v σ ∧ Left g rts w up v σ r w' :=
      ⟨rfl, r, hr, r, rfl, v, σ, hk, g', tmps', R', hvr, Ad, hup⟩
    rcases he with rfl | rfl
    · exact post
    · exact post
def noEnv : Env := ⟨fun _ => none, fun _ => none⟩
theorem noEnv_ok : EnvOk P noEnv := ⟨fun _ _ h => (by cases h), fun _ _ h => (by cases h)⟩
theorem noEnv_ext : ExtOk noEnv := ⟨fun _ _ h => (by cases h), fun _ _ h => (by cases h)⟩
theorem noEnv_fns : FnsOk P noEnv := ⟨fun _ _ h => (by cases h)⟩
theorem leave_self (σ : St) {σc : St} (h : σc.up = σ.ob :: σ.up) : leave false σ σc = some σ := by
  unfold leave
  simp only [Bool.false_eq_true, if_false, h]
theorem Left.row {w' : World} {σc : St} {r : Value} {k nm s : Nat} {es : List T} {gr : Bool} (hrt : ∀ q ∈ rts, q.1 ≤ σ.up.length) (h : Left g (slotRoots σ tmps ++ rts) w (σ.ob :: σ.up) (.row 0 k 0 es.length s) σc r w')
    (hup : σc.up = σ.ob :: σ.up) (hobj : σc.obj 0 k = some (.rw s es gr)) (hno : σ.obj 0 nm = none) :
    ∃ g', Rel g' (σ.setObj 0 nm (some (.rw s es false))) tmps rts w' ∧ VR g' w' (σ.setObj 0 nm (some (.rw s es false))).O (σ.up.length + 1) (.row 0 nm 0 es.length s) r ∧ Adv g w g' w' := by
  obtain ⟨g1, tmps', R, hv, Ad, hlen⟩ := h
  have hl : σc.up.length = σ.up.length + 1 := by rw [hup]; rfl
  obtain ⟨R3, K3, hl3⟩ := Rel.leave R (leave_self σ hup) hl hrt
  have hO : σc.O (σ.up.length + 1) k = some (.rw s es gr) := by
    have := St.O_obj σc 0 k (Nat.zero_le _)
    rw [hl] at this
    rw [show σ.up.length + 1 - 0 = σ.up.length + 1 by omega] at this
    rw [this]; exact hobj
  obtain ⟨_, A, c, hr, hrow⟩ := hv
  rw [hl, show σ.up.length + 1 + 1 - 1 - 0 = σ.up.length + 1 by omega] at hrow
  unfold RowV at hrow
  rw [hO] at hrow
  simp only at hrow
  obtain ⟨_, hfit, hcap, hrow⟩ := hrow
  let own2 : Nat → Option Nat := fun b => match g1.own b with | some (a, n) => if a = σ.up.length + 1 ∧ n = k then some nm else none | none => none
  let loc2 : Nat → Nat × Nat × Nat := fun _ => g1.loc (σ.up.length + 1) k
  have own2_some : ∀ b m, own2 b = some m → g1.own b = some (σ.up.length + 1, k) ∧ m = nm := fun b m hb => by
    simp only [own2] at hb
    split at hb
    · rename_i a n hh
      split at hb
      · rename_i hc; cases hb; obtain ⟨rfl, rfl⟩ := hc; exact ⟨hh, rfl⟩
      · cases hb
    · cases hb
  have own2_of : ∀ b, g1.own b = some (σ.up.length + 1, k) → own2 b = some nm := fun b hb => by simp only [own2, hb, and_self, if_true]
  have hset : σ.setObj 0 nm (some (.rw s es false)) = { σ with ob := st none σ.ob nm (some (.rw s es false)) } := rfl
  have hgt : ∀ n, gt none (st none σ.ob nm (some (.rw s es false))) n = if nm = n then some (.rw s es false) else σ.obj 0 n := fun n => gt_st _ _ _ _
  have hold : ∀ n, σ.obj 0 n ≠ none → gt none (st none σ.ob nm (some (.rw s es false))) n = σ.obj 0 n := fun n hn => by
    rw [hgt, if_neg (fun e => hn (by rw [← e]; exact hno))]
  have hown : ∀ b m, own2 b = some m → (g1.low (σ.up.length + 1)).own b = none ∧ ¬ (g1.low (σ.up.length + 1)).ok b ∧ (g1.low (σ.up.length + 1)).base ≤ b ∧ b < w'.heap.size := fun b m hb => by
    obtain ⟨h1, _⟩ := own2_some b m hb
    obtain ⟨q1, q2, q3, _⟩ := R.own b _ _ h1
    exact ⟨by simp only [Gh.low, h1]; rw [if_neg (by omega)], q2, q3, q1⟩
  have hlocn : ((g1.low (σ.up.length + 1)).gain σ own2 loc2).loc σ.up.length nm = g1.loc (σ.up.length + 1) k := by
    simp only [Gh.gain, hno, and_self, if_true, loc2]
  have hownn : ∀ b, g1.own b = some (σ.up.length + 1, k) → ((g1.low (σ.up.length + 1)).gain σ own2 loc2).own b = some (σ.up.length, nm) := fun b hb => by simp only [Gh.gain, own2_of b hb]
  refine ⟨(g1.low (σ.up.length + 1)).gain σ own2 loc2, ?_, ?_, ?_⟩
  · rw [hset]
    refine Rel.gain R3 hold hown fun m o hm hmo => ?_
    rw [hgt] at hmo
    split at hmo
    · rename_i hnm
      subst hnm
      cases hmo
      rcases R.ob (σ.up.length + 1) k _ (by omega) hO with hh | ⟨q1, q2, cs, el, q3, q4, q5⟩
      · exact .inl (by rw [hlocn]; exact hh)
      · exact .inr ⟨by rw [hlocn]; exact hownn _ q1, by rw [hlocn]; exact q2, cs, el, by rw [hlocn]; exact q3, by rw [hlocn]; exact q4, by rw [hlocn]; exact q5⟩
    · rw [hm] at hmo; cases hmo
  · refine ⟨Nat.succ_pos _, A, c, hr, ?_⟩
    rw [show σ.up.length + 1 - 1 - 0 = σ.up.length by omega]
    unfold RowV
    rw [hset, St.O_top, hgt, if_pos rfl]
    refine ⟨rfl, hfit, hcap, hrow.imp id fun ⟨b, o, hA, hb, hd, hx⟩ => ⟨b, o, hA, hownn b hb, hd, .inl ?_⟩⟩
    rw [hlocn]
    rcases hx with hx | ⟨_, hx, _⟩
    · exact hx
    · omega
  · have Al := Ad.low (D := σ.up.length + 1)
    refine ⟨Al.base, Al.ok, Al.okNew, fun b hb => ?_, Al.heap, Al.size, Al.os, Al.tape, Al.output⟩
    simp only [Gh.gain] at hb
    cases h2 : own2 b with
    | none => rw [h2] at hb; exact Al.ownNew b hb
    | some m => exact Ad.ownNew b (by rw [(own2_some b m h2).1]; simp)
theorem Left.nilRow {w' : World} {σc : St} {r : Value} {nm s s' : Nat} (hrt : ∀ q ∈ rts, q.1 ≤ σ.up.length) (h : Left g (slotRoots σ tmps ++ rts) w (σ.ob :: σ.up) (.nil s') σc r w')
    (hup : σc.up = σ.ob :: σ.up) (hno : σ.obj 0 nm = none) :
    ∃ g', Rel g' (σ.setObj 0 nm (some (.rw s [] false))) tmps rts w' ∧ VR g' w' (σ.setObj 0 nm (some (.rw s [] false))).O (σ.up.length + 1) (.row 0 nm 0 0 s) r ∧ Adv g w g' w' := by
  obtain ⟨g1, tmps', R, hv, Ad, hlen⟩ := h
  have hl : σc.up.length = σ.up.length + 1 := by rw [hup]; rfl
  obtain ⟨R3, K3, hl3⟩ := Rel.leave R (leave_self σ hup) hl hrt
  obtain ⟨A, hr⟩ := hv
  have hset : σ.setObj 0 nm (some (.rw s [] false)) = { σ with ob := st none σ.ob nm (some (.rw s [] false)) } := rfl
  have hgt : ∀ n, gt none (st none σ.ob nm (some (.rw s [] false))) n = if nm = n then some (.rw s [] false) else σ.obj 0 n := fun n => gt_st _ _ _ _
  have Al := Ad.low (D := σ.up.length + 1)
  refine ⟨(g1.low (σ.up.length + 1)).gain σ (fun _ => none) (fun _ => (0, 0, 0)), ?_, ?_, ⟨Al.base, Al.ok, Al.okNew, Al.ownNew, Al.heap, Al.size, Al.os, Al.tape, Al.output⟩⟩
  · rw [hset]
    refine Rel.gain R3 (fun n hn => by rw [hgt, if_neg (fun e => hn (by rw [← e]; exact hno))]) (fun b m hb => by cases hb) fun m o hm hmo => ?_
    rw [hgt] at hmo
    split at hmo
    · rename_i hnm
      subst hnm
      cases hmo
      exact .inl ⟨rfl, by simp only [Gh.gain, hno, and_self, if_true]⟩
    · rw [hm] at hmo; cases hmo
  · refine ⟨Nat.succ_pos _, A, 0, hr, ?_⟩
    rw [show σ.up.length + 1 - 1 - 0 = σ.up.length by omega]
    unfold RowV
    rw [hset, St.O_top, hgt, if_pos rfl]
    exact ⟨rfl, by simp, Nat.le_refl _, .inl rfl⟩
theorem els_shift {s : Nat} {v : V} {as : List V} : (⟨as, [], σ.ob :: σ.up⟩ : St).els s (v.shift 1) = σ.els s v := by
  cases v with
  | row l n lo len s' =>
    simp only [V.shift, St.els]
    have : (⟨as, [], σ.ob :: σ.up⟩ : St).rowOf (l + 1) n lo len = σ.rowOf l n lo len := by
      unfold St.rowOf
      have : (⟨as, [], σ.ob :: σ.up⟩ : St).obj (l + 1) n = σ.obj l n := by cases l <;> rfl
      rw [this]
    rw [this]
  | d p t => cases t <;> rfl
  | dx p t => cases t <;> rfl
  | _ => rfl
theorem els_up {s n0 : Nat} {o : Option Ob} {v : V} : (σ.setObj 0 n0 o).els s (v.shift 1) = σ.els s (v.shift 1) := by
  cases v with
  | row l n lo len s' =>
    simp only [V.shift, St.els]
    have : (σ.setObj 0 n0 o).rowOf (l + 1) n lo len = σ.rowOf (l + 1) n lo len := by
      unfold St.rowOf
      rw [St.obj_setObj, if_neg (fun h => by cases h.1)]
    rw [this]
  | d p t => cases t <;> rfl
  | dx p t => cases t <;> rfl
  | _ => rfl
def cloneX (s : Nat) : Ext := fun σ as rm => match as with
  | [a] => match σ.els s a with
    | some es => if es.length ≤ big then match rm with
        | none => some (.d true (.lst s es), σ)
        | some nm => (σ.new nm (.rw s es false)).map fun σ => (.row 0 nm 0 es.length s, σ)
      else none
    | none => none
  | _ => none
theorem cloneX_set {s : Nat} (σ : St) (d : Nat) (v : V) (as : List V) (rm : Option Nat) : cloneX s (σ.set d v) as rm = (cloneX s σ as rm).map fun p => (p.1, p.2.set d v) := by
  unfold cloneX
  split
  · rw [els_set]
    cases σ.els s _ with
    | none => rfl
    | some es =>
      simp only
      split
      · cases rm with
        | none => rfl
        | some nm => simp only [new_set]; cases σ.new nm _ <;> rfl
      · rfl
  · rfl
theorem cloneX_get {s : Nat} {σ : St} {as : List V} {rm : Option Nat} {v : V} {σ' : St} {t : Nat} (h : cloneX s σ as rm = some (v, σ')) : σ'.get t = σ.get t := by
  unfold cloneX at h
  split at h
  · split at h
    · split at h
      · cases rm with
        | none => cases h; rfl
        | some nm =>
          obtain ⟨ρ, h1, h2⟩ := map_some h
          cases h2
          obtain ⟨_, rfl⟩ := new_some h1
          exact St.get_setObj _ _ _ _ _
      · cases h
    · cases h
  · cases h
def cl0 (s : Nat) : C := .rg 0 false [] [⟨.mv 2 (.c (.nil s)), none⟩] []
def cl2 (s : Nat) : C := .seq (.rg 2 false [] [⟨.mv 2 (.c (.nil s)), none⟩] []) .ret
def cl3 (s : Nat) (z : Z) : C := .seq (.rg 3 false [] [⟨.bsl 5 0 s 0 z [], none⟩, ⟨.mv 6 (.t 0), none⟩, ⟨.app 7 1 s (.t 5) (.t 6), none⟩, ⟨.mv 2 (.t 7), none⟩] []) .ret
def cloneOk (P : Program) (f s : Nat) (z : Z) : Bool := enters P f && (match P.funcs[f]? with
  | some fn => decide (5 ≤ fn.ntmps) && okRv P [.s 2] fn.results.toList && z.t?.isSome && (match fn.body with
    | some (.seq r0 (.seq (.seq (.region _ opsA false) (.cond p r2 .skip)) r3)) =>
      okCode P noEnv fn.ntmps (cl0 s) r0 && okCode P noEnv fn.ntmps (cl2 s) r2 && okCode P noEnv fn.ntmps (cl3 s z) r3 && okX (.t 4) p && (match opsA.toList with
        | [o1, o2] => okG P fn.ntmps opsA ⟨.mv 3 (.t 0), none⟩ o1 && o2.guard.isNone && decide (o2.dst = some 4) && (match o2.op with
          | .binOp .eql t (.tmp 3) (.const (.slice none 0 0)) _ => (match P.underlying t with | some (.slice _) => true | _ => false)
          | _ => false)
        | _ => false)
    | _ => false)
  | none => false)
theorem run_nilcmp {ev : Operand → Value} {o : Oper} {t t' : TypeId} {e : TypeId} {A : Option Addr} {n c : Nat} (ho : o.op = .binOp .eql t (.tmp 3) (.const (.slice none 0 0)) t') (hu : P.underlying t = some (.slice e))
    (h1 : ev (.tmp 3) = .slice A n c) (h2 : ev (.const (.slice none 0 0)) = .slice none 0 0) : (execOp ev o).run P w = .ok (.value (.bool A.isNone)) w := by
  have key : (Op.equal t (.slice A n c) (.slice none 0 0)).run P w = .ok A.isNone w := by
    show (Op.equalIn (9999 + 1) t _ _).run P w = _
    rw [Op.equalIn]
    simp only [Sem.run_bind, run_underlying hu, Result.andThen_ok]
    cases A <;> rfl
  unfold execOp
  simp only [ho, h1, h2]
  show (do let v ← (do eqGuard .eql t (.tmp 3) (.const (.slice none 0 0)) (.slice A n c) (.slice none 0 0); (do pure (.bool (← Op.equal t (.slice A n c) (.slice none 0 0)))) : Sem Value); pure (.value v) : Sem Go.Next).run P w = _
  have hg : (eqGuard .eql t (.tmp 3) (.const (.slice none 0 0)) (.slice A n c) (.slice none 0 0)).run P w = .ok () w := by rfl
  simp only [Sem.run_bind, hg, Result.andThen_ok, key, Sem.run_pure]
theorem cloneOk.facts {f s : Nat} {z : Z} (h : cloneOk P f s z = true) : enters P f = true ∧ ∃ fn r0 r2 r3 id opsA p o1 o2 t t' zt e, P.funcs[f]? = some fn ∧ fn.body = some (.seq r0 (.seq (.seq (.region id opsA false) (.cond p r2 .skip)) r3)) ∧ 5 ≤ fn.ntmps ∧
    okRv P [.s 2] fn.results.toList = true ∧ z.t? = some zt ∧ okCode P noEnv fn.ntmps (cl0 s) r0 = true ∧ okCode P noEnv fn.ntmps (cl2 s) r2 = true ∧ okCode P noEnv fn.ntmps (cl3 s z) r3 = true ∧ okX (.t 4) p = true ∧
    opsA.toList = [o1, o2] ∧ okG P fn.ntmps opsA ⟨.mv 3 (.t 0), none⟩ o1 = true ∧ o2.guard = none ∧ o2.dst = some 4 ∧ o2.op = .binOp .eql t (.tmp 3) (.const (.slice none 0 0)) t' ∧ P.underlying t = some (.slice e) := by
  unfold cloneOk at h
  simp only [Bool.and_eq_true] at h
  obtain ⟨h1, h2⟩ := h
  refine ⟨h1, ?_⟩
  split at h2
  · rename_i fn hfn
    simp only [Bool.and_eq_true, decide_eq_true_eq] at h2
    obtain ⟨⟨⟨h3, h4⟩, h5⟩, h2⟩ := h2
    obtain ⟨zt, hz⟩ := Option.isSome_iff_exists.1 h5
    split at h2
    · rename_i r0 id opsA p r2 r3 hb
      simp only [Bool.and_eq_true] at h2
      obtain ⟨⟨⟨⟨q1, q2⟩, q3⟩, q4⟩, h2⟩ := h2
      split at h2
      · rename_i o1 o2 ho
        simp only [Bool.and_eq_true, decide_eq_true_eq, Option.isNone_iff_eq_none] at h2
        obtain ⟨⟨⟨h6, h7⟩, h8⟩, h2⟩ := h2
        split at h2
        · rename_i t t' hop
          split at h2
          · rename_i e hu
            exact ⟨fn, r0, r2, r3, id, opsA, p, o1, o2, t, t', zt, e, hfn, hb, h3, h4, hz, q1, q2, q3, q4, ho, h6, h7, h8, hop, hu⟩
          · cases h2
        · cases h2
      · cases h2
    · cases h2
  · cases h2
theorem clone_ext {f s : Nat} {z : Z} (hok : cloneOk P f s z = true) (hm : P.follows .mixedOrders = true) : ExtSem P f (cloneX s) := by
  obtain ⟨hen, fn, r0, r2, r3, id, opsA, p, o1, o2, t, t', zt, e, hfn, hbody, hnt5, hres, hzt, q0, q2, q3, qp, hops, hg1, hgd2, hd2, hop2, hu⟩ := cloneOk.facts hok
  intro σ as rm v σ' g tmps rts w args hX R hv
  unfold cloneX at hX
  split at hX
  · rename_i a
    split at hX
    · rename_i es hes
      split at hX
      · rename_i hbig
        have hlen : (V.shifts 1 [a]).length = args.size := by rw [V.shifts_length, VRs.length _ _ hv, Array.length_toList]
        have hes0 : (⟨V.shifts 1 [a], [], σ.ob :: σ.up⟩ : St).els s (a.shift 1) = some es := by rw [els_shift, hes]
        have sem := fn_wp (K := fun v σc => σc.up = σ.ob :: σ.up ∧ ((v = .nil s ∧ es = []) ∨ (v = .row 0 0 0 es.length s ∧ ∃ gr, σc.obj 0 0 = some (.rw s es gr)))) hfn hbody hlen (R.enter hv) hres ?_
        · refine CallSem.mono (CallSem.of f hen sem) fun r w' ⟨v', σc, ⟨hup, hk⟩, hL⟩ => ?_
          have hrt : ∀ q ∈ rts, q.1 ≤ σ.up.length := fun q hq => (R.rt q hq).1
          cases rm with
          | none =>
            cases hX
            rcases hk with ⟨rfl, rfl⟩ | ⟨rfl, gr, hob⟩
            · obtain ⟨g', R', hv', Ad, hul⟩ := Left.back (v' := .d true (.lst s [])) (σ₁ := σ) hrt hL (by unfold Vm.back; rw [leave_self σ hup]; rfl)
              exact ⟨g', R', hv', Ad, rfl⟩
            · obtain ⟨g', R', hv', Ad, hul⟩ := Left.back (v' := .d true (.lst s es)) (σ₁ := σ) hrt hL (by
                unfold Vm.back; rw [leave_self σ hup]
                simp only [dat, dat2, dat1, hob]
                rw [if_pos (by omega)]
                simp [slice])
              exact ⟨g', R', hv', Ad, rfl⟩
          | some nm =>
            obtain ⟨ρ, hn, he⟩ := map_some hX
            cases he
            obtain ⟨hno, rfl⟩ := new_some hn
            have hul : (σ.setObj 0 nm (some (.rw s es false))).up.length = σ.up.length := rfl
            rcases hk with ⟨rfl, rfl⟩ | ⟨rfl, gr, hob⟩
            · obtain ⟨g', R', hv', Ad⟩ := Left.nilRow hrt hL hup hno
              exact ⟨g', R', hv', Ad, rfl⟩
            · obtain ⟨g', R', hv', Ad⟩ := Left.row hrt hL hup hob hno
              exact ⟨g', R', hv', Ad, rfl⟩
        · intro tmps0 nt hnt0 hnt R0 Q hQ
          refine wp_seq (wc_wp noEnv_ok noEnv_ext noEnv_fns hm (K := fun e σ1 => e = .normal ∧ σ1 = (⟨V.shifts 1 [a], [], σ.ob :: σ.up⟩ : St).set 2 (.nil s)) ⟨.normal, _, .rg rfl (.step rfl rfl .nil) (fun _ h => by cases h), rfl, rfl⟩ rfl (okCode_mono hnt0 _ _ q0) R0 hnt ?_)
          rintro _ _ a' w1 ⟨rfl, rfl⟩ ⟨g1, tmps1, rfl, hs1, R1, A1, hup1⟩
          refine wp_seq (wp_seq (wp_region ?_))
          have hsz : opsA.size = 2 := by rw [← Array.length_toList, hops]; rfl
          have ho1 : opsA[0]? = some o1 := by rw [← Array.getElem?_toList, hops]; rfl
          have ho2 : opsA[1]? = some o2 := by rw [← Array.getElem?_toList, hops]; rfl
          rw [hsz]
          refine ops_wp2 (js := [0]) (rest := [1]) noEnv_ok (nt := nt) (.cons (.step rfl rfl) .nil) (.cons ho1 (okG_mono hnt0 hg1) .nil) R1 hs1 ?_
          rintro a2 w2 ⟨g2, tmps2, rfl, hs2, R2, A2, hup2⟩
          have hval := R2.sl 3
          rw [St.get_set, if_pos rfl] at hval
          have hval' := VR.els (s := s) (ys := es) (σ := ((⟨V.shifts 1 [a], [], σ.ob :: σ.up⟩ : St).set 2 (.nil s)).set 3 (a.shift 1)) (by rw [els_set, els_set]; exact hes0) hval
          obtain ⟨A, c, hx, hA⟩ := hval'
          have hev : evalT tmps2 (.tmp 3) = .slice A es.length c := by
            rw [← hx]; rfl
          refine value_wp ho2 hgd2 (run_nilcmp hop2 hu hev rfl) ?_
          have R3 := R2.set (d := 4) (v := dBool A.isNone) (x := .bool A.isNone) (by omega) (by simp [VR, Den, DenC])
          have hs3 : (tmps2.setIfInBounds 4 (Value.bool A.isNone)).size = nt := by simp [hs2]
          rw [hd2]
          show (Code.cond p r2 .skip).wp P _ ⟨tmps2.setIfInBounds 4 (Value.bool A.isNone), []⟩ w2
          have hcond := R3.val qp
          refine wp_cond (t := A.isNone) (by rw [Act.eval_T]; exact VR.bool hcond) ?_
          have Ad2 := A1.trans A2
          have hup' : ∀ σ3 : St, σ3 = ((((⟨V.shifts 1 [a], [], σ.ob :: σ.up⟩ : St).set 2 (.nil s)).set 3 (a.shift 1)).set 4 (dBool A.isNone)) → σ3.up = σ.ob :: σ.up := fun _ h => by rw [h]; rfl
          generalize hσ3 : ((((⟨V.shifts 1 [a], [], σ.ob :: σ.up⟩ : St).set 2 (.nil s)).set 3 (a.shift 1)).set 4 (dBool A.isNone)) = σ3 at hup'
          have hup3 := hup' σ3 rfl
          have R3' : Rel g2 σ3 (tmps2.setIfInBounds 4 (Value.bool A.isNone)) (slotRoots σ tmps ++ rts) w2 := by rw [← hσ3]; exact R3
          have hob3 : σ3.obj 0 0 = none := by rw [← hσ3]; rfl
          have hels3 : σ3.els s (a.shift 1) = some es := by rw [← hσ3, els_set, els_set, els_set]; exact hes0
          have hget3 : σ3.get 0 = a.shift 1 := by rw [← hσ3]; rfl
          cases hA0 : A.isNone with
          | true =>
            have hes' : es = [] := by
              rcases hA with h | ⟨b, o, rfl, _⟩
              · exact h
              · cases hA0
            rw [hA0] at R3' hs3
            refine wc_wp noEnv_ok noEnv_ext noEnv_fns hm (K := fun e σ4 => e = .ret ∧ σ4 = σ3.set 2 (.nil s)) ⟨.ret, _, .seq (.rg rfl (.step rfl rfl .nil) (fun _ h => by cases h)) .ret, rfl, rfl⟩ rfl (okCode_mono hnt0 _ _ q2) R3' hs3 ?_
            rintro _ _ a4 w4 ⟨rfl, rfl⟩ hn
            obtain ⟨g4, tmps4, rfl, hs4, R4, A4, hup4⟩ := hn
            refine hQ .ret (σ3.set 2 (.nil s)) _ _ (.inr rfl) ⟨.nil s, by simp [resVal, resVals, St.get_set], by rw [St.up_set]; exact hup3, .inl ⟨rfl, hes'⟩⟩ ?_
            exact ⟨g4, tmps4, rfl, hs4, R4, Ad2.trans A4, by rw [St.up_set, hup3]⟩
          | false =>
            rw [hA0] at R3' hs3
            refine wp_skip ?_
            have h1 : step σ3 (.bsl 5 0 s 0 z []) = some ((σ3.setObj 0 0 (some (.rw s [] false))).set 5 (.row 0 0 0 0 s)) := by
              simp [step, St.toTs, hzt, flatFill, fillT, St.frz, St.new, hob3]
            have hels4 : ((σ3.setObj 0 0 (some (.rw s [] false))).set 5 (.row 0 0 0 0 s)).els s (a.shift 1) = some es := by
              rw [els_set, els_up, hels3]
            have h3 : step ((((σ3.setObj 0 0 (some (.rw s [] false))).set 5 (.row 0 0 0 0 s))).set 6 (a.shift 1)) (.app 7 1 s (.t 5) (.t 6)) =
                some (((((((σ3.setObj 0 0 (some (.rw s [] false))).set 5 (.row 0 0 0 0 s))).set 6 (a.shift 1))).setObj 0 0 (some (.rw s es true))).set 7 (.row 0 0 0 es.length s)) := by
              simp only [step, St.app, St.val, St.get_set, if_true, els_set]
              rw [els_set] at hels4
              rw [hels4]
              simp [St.obj_set, St.obj_setObj, hbig]
            refine wc_wp noEnv_ok noEnv_ext noEnv_fns hm (K := fun e σ4 => e = .ret ∧ σ4.get 2 = .row 0 0 0 es.length s ∧ σ4.obj 0 0 = some (.rw s es true) ∧ σ4.up = σ.ob :: σ.up)
              ⟨.ret, _, .seq (.rg rfl (.step rfl h1 (.step rfl (by simp only [step, St.val, St.get_set]; rfl) (.step rfl (by rw [St.get_setObj, hget3]; exact h3) (.step rfl rfl .nil)))) (fun _ h => by cases h)) .ret, rfl, ?_, ?_, ?_⟩ rfl (okCode_mono hnt0 _ _ q3) R3' hs3 ?_
            · simp [St.get_set, St.val]
            · simp [St.obj_set, St.obj_setObj]
            · exact hup3
            · rintro _ σ4 a4 w4 ⟨rfl, k1, k2, k3⟩ hn
              obtain ⟨g4, tmps4, rfl, hs4, R4, A4, hup4⟩ := hn
              refine hQ .ret σ4 _ _ (.inr rfl) ⟨.row 0 0 0 es.length s, by simp [resVal, resVals, k1], k3, .inr ⟨rfl, true, k2⟩⟩ ?_
              exact ⟨g4, tmps4, rfl, hs4, R4, Ad2.trans A4, by rw [k3]⟩
      · cases hX
    · cases hX
  · cases hX
end
end Go.Proofs.Ytkhgnkfdpabflaa.Vm
/- slices.Insert of one element into a row: the row's memory goes over to a new row, or there is a new block. -/
namespace Go.Proofs.Ytkhgnkfdpabflaa.Vm
open Go
section
variable {P : Program} {g : Gh} {σ : St} {tmps : Array Value} {rts : Roots} {w w' : World}
def Gh.free (g : Gh) (a n : Nat) : Gh := { g with own := fun b => if g.own b = some (a, n) then none else g.own b }
theorem Rel.gone (h : Rel g σ tmps rts w) {n s : Nat} {es : List T} {gr : Bool} (hO : σ.obj 0 n = some (.rw s es gr)) :
    Rel (g.free σ.up.length n) (σ.setObj 0 n (some .gone)) tmps rts w ∧ Keep (σ.up.length + 1) (fun _ _ => False) g w σ.O (g.free σ.up.length n) w (σ.setObj 0 n (some .gone)).O := by
  have hO' : σ.O σ.up.length n = some (.rw s es gr) := by have := St.O_obj σ 0 n (Nat.zero_le _); simpa using this.trans hO
  have hset : ∀ a m, (σ.setObj 0 n (some .gone)).O a m = if a = σ.up.length ∧ m = n then some .gone else σ.O a m := fun a m => by
    have := St.O_setObj σ 0 n (some .gone) (Nat.zero_le _) a m
    simpa using this
  have hown : ∀ b a m, ¬ (a = σ.up.length ∧ m = n) → g.own b = some (a, m) → (g.free σ.up.length n).own b = some (a, m) := fun b a m hx hb => by
    simp only [Gh.free]
    rw [if_neg (fun e => by rw [hb] at e; cases e; exact hx ⟨rfl, rfl⟩)]
    exact hb
  have K : Keep (σ.up.length + 1) (fun _ _ => False) g w σ.O (g.free σ.up.length n) w (σ.setObj 0 n (some .gone)).O := by
    refine ⟨rfl, fun _ h => h, fun _ _ => rfl, fun a m lo len s' A c _ _ hv => ?_, fun a m i off v _ _ hv => ?_, fun a m off v _ _ hv => ?_⟩
    · by_cases hx : a = σ.up.length ∧ m = n
      · obtain ⟨rfl, rfl⟩ := hx
        simp only [RowV, hO'] at hv
        simp only [RowV, hset, and_self, if_true]
        exact hv.2.2.1
      · unfold RowV at hv ⊢
        rw [hset, if_neg hx]
        split at hv
        · obtain ⟨h1, h2, h3, h4⟩ := hv
          exact ⟨h1, h2, h3, h4.imp id fun ⟨b, o, hA, ho, hd⟩ => ⟨b, o, hA, hown b a m hx ho, hd⟩⟩
        · exact hv
        · exact hv
        · exact hv
    · by_cases hx : a = σ.up.length ∧ m = n
      · obtain ⟨rfl, rfl⟩ := hx
        simp only [RelV, hO'] at hv
        simp only [RelV, hset, and_self, if_true]
        obtain ⟨b, o, _, _, hv, _⟩ := hv
        exact ⟨b, o, hv⟩
      · unfold RelV at hv ⊢
        rw [hset, if_neg hx]
        split at hv
        · obtain ⟨b, o, e, vs, hv, ho, hd⟩ := hv
          exact ⟨b, o, e, vs, hv, hown b a m hx ho, hd⟩
        · exact hv
        · exact hv
        · exact hv
    · by_cases hx : a = σ.up.length ∧ m = n
      · obtain ⟨rfl, rfl⟩ := hx; obtain ⟨⟨cs, hc⟩, _⟩ := hv; rw [hO'] at hc; cases hc
      · exact ⟨by rw [hset, if_neg hx]; exact hv.1, hv.2⟩
  refine ⟨Rel.over (a₀ := σ.up.length) (n₀ := n) h (by rfl) (fun i => St.get_setObj _ _ _ _ _) K (fun a m hx => by rw [hset, if_neg hx]) (fun _ _ _ => rfl)
    (fun b a m hx hb => ⟨hown b a m hx hb, rfl⟩) (fun o ho => ?_) (fun b a m hb => ?_) h.okb h.base, K⟩
  · rw [hset, if_pos ⟨rfl, rfl⟩] at ho
    cases ho
    trivial
  · simp only [Gh.free] at hb
    split at hb
    · cases hb
    · exact h.own b a m hb
theorem Rel.wild (h : Rel g σ tmps rts w) {b : Nat} (ho : g.own b = none) (hk : ¬ g.ok b) (hb : g.base ≤ b) (hsz : w'.heap.size = w.heap.size) (hother : ∀ d, d ≠ b → w'.heap[d]? = w.heap[d]?) :
    Rel g σ tmps rts w' ∧ Keep (σ.up.length + 1) (fun _ _ => False) g w σ.O g w' σ.O := by
  have hs : ∀ d, g.ok d ∨ d < g.base ∨ g.own d ≠ none → w'.heap[d]? = w.heap[d]? := fun d hd => hother d (by
    rintro rfl
    rcases hd with hd | hd | hd
    · exact hk hd
    · omega
    · exact hd ho)
  have G : Grow (fun _ _ => False) g w σ.O g w' σ.O := ⟨rfl, fun _ h => h, hs, fun _ _ _ _ h => h, fun _ _ _ => rfl, fun _ _ _ => rfl⟩
  have K : ∀ D, Keep D (fun _ _ => False) g w σ.O g w' σ.O := fun _ => G.keep
  refine ⟨⟨fun i => VR.keep' (K _) (Nat.le_refl _) (h.sl i), fun a m o ha hoo => ?_, fun r hr => ⟨(h.rt r hr).1, VR.keep' (K _) (Nat.le_refl _) (h.rt r hr).2⟩, fun d a m hd => by rw [hsz]; exact h.own d a m hd,
    fun d hd => by rw [hsz]; exact h.okb d hd, by rw [hsz]; exact h.base⟩, K _⟩
  have hold := h.ob a m o ha hoo
  cases o with
  | box cs =>
    obtain ⟨h1, vs, el, h2, h3, h4⟩ := hold
    exact ⟨h1, vs, el, by rw [hs _ (.inr (.inr (by rw [h1]; simp)))]; exact h2, VRs.keep' (K _) (Nat.le_refl _) h3, h4⟩
  | rw s es gr =>
    rcases hold with hold | ⟨h1, h2, cs, el, h3, h4, h5⟩
    · exact .inl hold
    · have e := hs _ (.inr (.inr (by rw [h1]; simp)))
      exact .inr ⟨h1, h2, cs, el, by rw [e]; exact h3, h4, DenR.mono (fun d hd => hs d (.inl hd)) (fun _ h => h) _ _ e _ _ h5⟩
  | fz s es => trivial
  | gone => trivial
theorem Rel.seize (h : Rel g σ tmps rts w) {b off cap nm s : Nat} {es : List T} {gr : Bool} {cells : Array Value} {el : TypeId} (hno : σ.obj 0 nm = none) (ho : g.own b = none) (hk : ¬ g.ok b) (hb : g.base ≤ b)
    (hh : w.heap[b]? = some (.cells cells el (0, 0))) (hroom : off + cap * s ≤ cells.size) (hcap : es.length ≤ cap) (hd : DenR w g.ok b s off es) :
    ∃ g', Rel g' (σ.setObj 0 nm (some (.rw s es gr))) tmps rts w ∧ VR g' w (σ.setObj 0 nm (some (.rw s es gr))).O (σ.up.length + 1) (.row 0 nm 0 es.length s) (.slice (some ⟨b, off, none⟩) es.length cap) ∧
      g'.base = g.base ∧ g'.ok = g.ok ∧ ∀ d, g'.own d ≠ none → d = b ∨ g.own d ≠ none := by
  have hlt : b < w.heap.size := by
    have := (Array.getElem?_eq_some_iff.1 hh).1
    exact this
  let own2 : Nat → Option Nat := fun d => if d = b then some nm else none
  let loc2 : Nat → Nat × Nat × Nat := fun _ => (b, off, cap)
  have hset : σ.setObj 0 nm (some (.rw s es gr)) = { σ with ob := st none σ.ob nm (some (.rw s es gr)) } := rfl
  have hgt : ∀ n, gt none (st none σ.ob nm (some (.rw s es gr))) n = if nm = n then some (.rw s es gr) else σ.obj 0 n := fun n => gt_st _ _ _ _
  have hold : ∀ n, σ.obj 0 n ≠ none → gt none (st none σ.ob nm (some (.rw s es gr))) n = σ.obj 0 n := fun n hn => by
    rw [hgt, if_neg (fun e => hn (by rw [← e]; exact hno))]
  have hloc : (g.gain σ own2 loc2).loc σ.up.length nm = (b, off, cap) := by simp only [Gh.gain, hno, and_self, if_true, loc2]
  have hown : (g.gain σ own2 loc2).own b = some (σ.up.length, nm) := by simp only [Gh.gain, own2, if_true]
  have R := Rel.gain h (own2 := own2) (loc2 := loc2) hold (fun d m hm => by
      simp only [own2] at hm
      split at hm
      · rename_i e; subst e; exact ⟨ho, hk, hb, hlt⟩
      · cases hm) (fun m o hm hmo => by
      rw [hgt] at hmo
      split at hmo
      · rename_i e; subst e; cases hmo
        exact .inr ⟨by rw [hloc]; exact hown, by rw [hloc]; exact hcap, cells, el, by rw [hloc]; exact hh, by rw [hloc]; exact hroom, by rw [hloc]; exact hd⟩
      · rw [hm] at hmo; cases hmo)
  refine ⟨g.gain σ own2 loc2, by rw [hset]; exact R, ?_, rfl, rfl, fun d hd' => ?_⟩
  · refine VR.whole (gr := gr) (Nat.succ_pos _) ?_ ?_ ?_ ?_ ?_ hcap hd
    · rw [hset, show σ.up.length + 1 - 1 - 0 = σ.up.length by omega, St.O_top, hgt, if_pos rfl]
    · rw [show σ.up.length + 1 - 1 - 0 = σ.up.length by omega]; exact hown
    · rw [show σ.up.length + 1 - 1 - 0 = σ.up.length by omega, hloc]
    · rw [show σ.up.length + 1 - 1 - 0 = σ.up.length by omega, hloc]
    · rw [show σ.up.length + 1 - 1 - 0 = σ.up.length by omega, hloc]; exact Nat.le_refl _
  · simp only [Gh.gain, own2] at hd'
    by_cases e : d = b
    · exact .inl e
    · rw [if_neg e] at hd'; exact .inr hd'
theorem Rel.pushRow (h : Rel g σ tmps rts w) {nm s cap : Nat} {es : List T} {gr : Bool} {cells : Array Value} {el : TypeId} {vs : List Value} (hno : σ.obj 0 nm = none) (hpush : w'.heap = w.heap.push (.cells cells el (0, 0)))
    (hroom : cap * s ≤ cells.size) (hcap : es.length ≤ cap) (hv : DenF w g.ok s es vs) (hc : ∀ j, j < vs.length → cells[j]? = vs[j]?) :
    Rel (g.new w.heap.size σ.up.length nm cap) (σ.setObj 0 nm (some (.rw s es gr))) tmps rts w' ∧
      VR (g.new w.heap.size σ.up.length nm cap) w' (σ.setObj 0 nm (some (.rw s es gr))).O (σ.up.length + 1) (.row 0 nm 0 es.length s) (.slice (some ⟨w.heap.size, 0, none⟩) es.length cap) := by
  have hs : ∀ d, g.ok d → w'.heap[d]? = w.heap[d]? := fun d hd => push_old hpush (h.okb d hd)
  have hcell' : ∀ j, w'.cell? ⟨w.heap.size, j, none⟩ = cells[j]? := fun j => by simp [World.cell?, push_new hpush]
  have hden' : DenR w' g.ok w.heap.size s 0 es := DenF.row hs _ _ 0 hv (fun j hj => by rw [Nat.zero_add, hcell']; exact hc j hj)
  have e1 : σ.up.length + 1 - 1 - 0 = σ.up.length := by omega
  have hloc : (g.new w.heap.size σ.up.length nm cap).loc σ.up.length nm = (w.heap.size, 0, cap) := by simp [Gh.new]
  have hO3 : (σ.setObj 0 nm (some (.rw s es gr))).O σ.up.length nm = some (.rw s es gr) := by
    have := St.O_setObj σ 0 nm (some (.rw s es gr)) (Nat.zero_le _) σ.up.length nm
    simpa using this
  have hown3 : (g.new w.heap.size σ.up.length nm cap).own w.heap.size = some (σ.up.length, nm) := by simp [Gh.new]
  have R3 := Rel.new (cap := cap) (o := .rw s es gr) h hno hpush (fun g' O' hg' _ _ => by
    subst hg'
    exact .inr ⟨by rw [hloc]; exact hown3, by rw [hloc]; exact hcap, cells, el, by rw [hloc]; exact push_new hpush, by rw [hloc]; show 0 + cap * s ≤ _; omega, by rw [hloc]; exact hden'⟩)
  exact ⟨R3.1, VR.whole (D := σ.up.length + 1) (l := 0) (n := nm) (c := cap) (gr := gr) (g' := g.new w.heap.size σ.up.length nm cap) (Nat.succ_pos _) (by rw [e1]; exact hO3) (by rw [e1]; exact hown3) (by rw [e1, hloc]) (by rw [e1, hloc]) (by rw [e1, hloc]; exact Nat.le_refl _) hcap hden'⟩
def InsSem (P : Program) (f s : Nat) : Prop := ∀ (w : World) (A : Option Addr) (n c i vb vo vc : Nat) (cs vs : List Value) (vcs : Array Value) (vel : TypeId),
  i ≤ n → n ≤ c → n < big → vs.length = s → cs.length = n * s → (∀ v ∈ cs, v.oneCell' = true) → (∀ v ∈ vs, v.oneCell' = true) →
  w.heap[vb]? = some (.cells vcs vel (0, 0)) → vo + s ≤ vcs.size → (∀ j, j < s → w.cell? ⟨vb, vo + j, none⟩ = vs[j]?) →
  ((c = 0 ∧ cs = []) ∨ ∃ b off cells el, A = some ⟨b, off, none⟩ ∧ vb ≠ b ∧ w.heap[b]? = some (.cells cells el (0, 0)) ∧ off + c * s ≤ cells.size ∧ ∀ j, j < cs.length → w.cell? ⟨b, off + j, none⟩ = cs[j]?) →
  CallSem P f #[.slice A n c, .int .i64 i, .slice (some ⟨vb, vo, none⟩) 1 vc] w fun r w' => w'.os = w.os ∧ w'.tape = w.tape ∧ w'.output = w.output ∧
    ((∃ b off cells el cells', A = some ⟨b, off, none⟩ ∧ n + 1 ≤ c ∧ r = .slice A (n + 1) c ∧ w.heap[b]? = some (.cells cells el (0, 0)) ∧ w'.heap.size = w.heap.size ∧ (∀ d, d ≠ b → w'.heap[d]? = w.heap[d]?) ∧
        w'.heap[b]? = some (.cells cells' el (0, 0)) ∧ cells'.size = cells.size ∧ ∀ j, j < (n + 1) * s → w'.cell? ⟨b, off + j, none⟩ = (cs.take (i * s) ++ vs ++ cs.drop (i * s))[j]?) ∨
     (∃ cells el cap, r = .slice (some ⟨w.heap.size, 0, none⟩) (n + 1) cap ∧ n + 1 ≤ cap ∧ w'.heap = w.heap.push (.cells cells el (0, 0)) ∧ cap * s ≤ cells.size ∧
        ∀ j, j < (n + 1) * s → cells[j]? = (cs.take (i * s) ++ vs ++ cs.drop (i * s))[j]?))
def insA {α : Type} (l : List α) (i : Int) (x : α) : List α := l.take i.toNat ++ x :: l.drop i.toNat
theorem insA_length {α : Type} (l : List α) (i : Int) (x : α) : (insA l i x).length = l.length + 1 := by simp [insA]; omega
theorem map_insA {α β : Type} (f : α → β) (l : List α) (i : Int) (x : α) : (insA l i x).map f = insA (l.map f) i (f x) := by simp [insA]
def insertX (s : Nat) : Ext := fun σ as rm => match as, rm with
  | [.row 0 n 0 len s1, .d _ (.int .i64 i), .row 0 m 0 1 s2], some nm => match σ.obj 0 n, σ.obj 0 m with
    | some (.rw _ es false), some (.rw _ [t] _) =>
      if s1 = s ∧ s2 = s ∧ len = es.length ∧ (0 ≤ i ∧ i ≤ (len : Int)) ∧ len < big ∧ n ≠ m ∧ n ≠ nm then ((σ.setObj 0 n (some .gone)).new nm (.rw s (insA es i t) true)).map fun σ => (.row 0 nm 0 (len + 1) s, σ) else none
    | _, _ => none
  | _, _ => none
theorem insertX_set {s : Nat} (σ : St) (d : Nat) (v : V) (as : List V) (rm : Option Nat) : insertX s (σ.set d v) as rm = (insertX s σ as rm).map fun p => (p.1, p.2.set d v) := by
  unfold insertX
  split
  · simp only [St.obj_set]
    split
    · split
      · rw [show (σ.set d v).setObj 0 _ (some .gone) = (σ.setObj 0 _ (some .gone)).set d v from rfl, new_set]
        cases (σ.setObj 0 _ (some .gone)).new _ _ <;> rfl
      · rfl
    · rfl
  · rfl
theorem insertX_get {s : Nat} {σ : St} {as : List V} {rm : Option Nat} {v : V} {σ' : St} {t : Nat} (h : insertX s σ as rm = some (v, σ')) : σ'.get t = σ.get t := by
  unfold insertX at h
  split at h
  · split at h
    · split at h
      · obtain ⟨ρ, h1, h2⟩ := map_some h
        cases h2
        obtain ⟨_, rfl⟩ := new_some h1
        rw [St.get_setObj, St.get_setObj]
      · cases h
    · cases h
  · cases h
theorem Array.of_toList3 {α : Type} {a : Array α} {x y z : α} (h : a.toList = [x, y, z]) : a = #[x, y, z] := by apply Array.ext'; simpa using h
theorem insert_ext {f s : Nat} (hI : InsSem P f s) : ExtSem P f (insertX s) := by
  intro σ as rm v σ' g tmps rts w args hX R hv
  unfold insertX at hX
  split at hX
  · rename_i n len s1 p i m s2 nm
    split at hX
    · rename_i s3 es s4 t gr hn hm
      split at hX
      · rename_i hc
        obtain ⟨q1, q2, q3, ⟨hi0, hi⟩, hbig, hnm, hnn⟩ := hc
        obtain ⟨k, rfl⟩ : ∃ k : Nat, i = (k : Int) := ⟨i.toNat, by omega⟩
        have hik : insA es (k : Int) t = es.take k ++ t :: es.drop k := by simp [insA]
        rw [hik] at hX
        have q1 := q1.symm; have q2 := q2.symm
        subst q1 q2 q3
        obtain ⟨ρ, h1, h2⟩ := map_some hX
        cases h2
        obtain ⟨hno, rfl⟩ := new_some h1
        obtain ⟨x, l1, ha, hx, y, l2, rfl, hy, z, l3, rfl, hz, rfl⟩ := hv
        have hargs : args = #[x, y, z] := Array.of_toList3 ha
        subst hargs
        have e1 : σ.up.length + 1 - 1 - 0 = σ.up.length := by omega
        have hOn : σ.O σ.up.length n = some (.rw s3 es false) := by have := St.O_obj σ 0 n (Nat.zero_le _); simpa using this.trans hn
        have hOm : σ.O σ.up.length m = some (.rw s4 [t] gr) := by have := St.O_obj σ 0 m (Nat.zero_le _); simpa using this.trans hm
        obtain ⟨_, A, c, rfl, hr⟩ := hx
        rw [e1] at hr
        simp only [RowV, hOn] at hr
        obtain ⟨q4, _, hlc, hr⟩ := hr
        have q4 := q4.symm
        subst q4
        have hy' : y = .int .i64 (k : Int) := by cases p <;> simpa [VR, Den, DenT, DenC] using hy
        subst hy'
        obtain ⟨_, B, vc, rfl, hz⟩ := hz
        rw [e1] at hz
        simp only [RowV, hOm] at hz
        obtain ⟨q5, _, hvc, hz⟩ := hz
        have q5 := q5.symm
        subst q5
        obtain ⟨vb, vo, rfl, hown2, hd2, hpos2⟩ := hz.resolve_left (by omega)
        have hpos2 := hpos2.resolve_right (fun h => by have := h.2.1; simp at this)
        obtain ⟨hh2, vs, vcs, vel, hv1, hv2, hv3, hv4⟩ : ∃ (_ : True) (vs : List Value) (vcs : Array Value) (vel : TypeId), w.heap[vb]? = some (.cells vcs vel (0, 0)) ∧ vo + s ≤ vcs.size ∧ DenF w g.ok s [t] vs ∧ ∀ j, j < vs.length → w.cell? ⟨vb, vo + j, none⟩ = vs[j]? := by
          obtain ⟨vs, hf, hc⟩ := DenF.ofRow _ _ hd2
          rcases R.ob _ m _ (Nat.lt_succ_self _) hOm with hh | ⟨_, _, vcs, vel, q1, q2, _⟩
          · cases hh.1
          · rw [← hpos2.1] at q1
            refine ⟨trivial, vs, vcs, vel, q1, ?_, by simpa [slice] using hf, hc⟩
            have : (1 : Nat) * s ≤ (g.loc σ.up.length m).2.2 * s := Nat.mul_le_mul_right _ (by omega)
            have h0 := hpos2.2.1
            rw [Nat.zero_mul] at h0
            omega
        have hvl : vs.length = s := by have := DenF.length _ _ hv3; simpa using this
        have hnb : ∀ b, g.own b = some (σ.up.length, n) → vb ≠ b := fun b hb e => by subst e; rw [hown2] at hb; cases hb; exact hnm rfl
        have hins : ∀ cs, DenF w g.ok s es cs → DenF w g.ok s (es.take k ++ t :: es.drop k) (cs.take (k * s) ++ vs ++ cs.drop (k * s)) := fun cs hcs => by
          have := DenF.append _ _ _ _ (DenF.append _ _ _ _ (DenF.take k _ _ hcs) hv3) (DenF.drop k _ _ hcs)
          simpa [List.append_assoc] using this
        have hil : (es.take k ++ t :: es.drop k).length = es.length + 1 := by simp; omega
        obtain ⟨cs, hcs, hA⟩ : ∃ cs, DenF w g.ok s es cs ∧ ((c = 0 ∧ cs = []) ∨ ∃ b off cells el, A = some ⟨b, off, none⟩ ∧ vb ≠ b ∧ w.heap[b]? = some (.cells cells el (0, 0)) ∧ off + c * s ≤ cells.size ∧ (∀ j, j < cs.length → w.cell? ⟨b, off + j, none⟩ = cs[j]?)) := by
          rcases hr with h0 | ⟨b, off, rfl, hown, hden, hpos⟩
          · have : es = [] := List.eq_nil_of_length_eq_zero (by omega)
            subst this
            exact ⟨[], rfl, .inl ⟨h0, rfl⟩⟩
          · have hpos := hpos.resolve_right (fun h => by cases h.1)
            rw [show slice 0 es.length es = es by simp [slice]] at hden
            obtain ⟨cs, hf, hcc⟩ := DenF.ofRow _ _ hden
            refine ⟨cs, hf, ?_⟩
            rcases R.ob _ n _ (Nat.lt_succ_self _) hOn with hh | ⟨_, _, cells, el, q1, q2, _⟩
            · obtain ⟨rfl, hz0⟩ := hh
              simp only [DenF] at hf; subst hf
              exact .inl ⟨by omega, rfl⟩
            · rw [← hpos.1] at q1
              refine .inr ⟨b, off, cells, el, rfl, hnb b hown, q1, ?_, hcc⟩
              have h0 := hpos.2.1
              have : c * s ≤ (g.loc σ.up.length n).2.2 * s := Nat.mul_le_mul_right _ (by omega)
              rw [Nat.zero_mul] at h0
              omega
        have hcall := hI w A es.length c k vb vo vc cs vs vcs vel (by omega) hlc hbig hvl (DenF.length _ _ hcs) (DenF.one _ _ hcs) (DenF.one _ _ hv3) hv1 hv2 (fun j hj => hv4 j (by omega)) hA
        refine CallSem.mono hcall fun r w' ⟨ho, ht, hp, hh⟩ => ?_
        obtain ⟨R1, K1⟩ := Rel.gone R hn
        have hno1 : (σ.setObj 0 n (some .gone)).obj 0 nm = none := hno
        rcases hh with ⟨b, off, cells, el, cells', rfl, hroom, rfl, hbl, hsz, hoth, hbl', hszc, hcell⟩ | ⟨cells, el, cap, rfl, hcap, hpush, hroom, hcell⟩
        · obtain h0 | ⟨b', off', hbo, hown, hden, hpos⟩ := hr
          · omega
          · cases hbo
            have hpos := hpos.resolve_right (fun h => by cases h.1)
            obtain ⟨_, hnok, hbase, _⟩ := R.own b _ _ hown
            have hfree : (g.free σ.up.length n).own b = none := by simp only [Gh.free]; rw [if_pos hown]
            obtain ⟨R2, K2⟩ := R1.wild hfree hnok hbase hsz hoth
            have hs : ∀ d, g.ok d → w'.heap[d]? = w.heap[d]? := fun d hd => hoth d (by rintro rfl; exact hnok hd)
            have hlen : (cs.take (k * s) ++ vs ++ cs.drop (k * s)).length = (es.length + 1) * s := by
              rw [← hil]; exact DenF.length _ _ (hins cs hcs)
            have hden' : DenR w' g.ok b s off (es.take k ++ t :: es.drop k) := DenF.row hs _ _ off (hins cs hcs) (fun j hj => hcell j (by omega))
            have hroomc : off + c * s ≤ cells'.size := by
              rcases hA with hA | ⟨b1, o1, cells1, el1, hb1, _, q1, q2, _⟩
              · omega
              · cases hb1
                rw [hbl] at q1; cases q1
                omega
            obtain ⟨g3, R3, V3, hg1, hg2, hg3⟩ := R2.seize (gr := true) (cap := c) hno1 hfree hnok hbase hbl' hroomc (by omega) hden'
            rw [hil] at V3
            refine ⟨g3, R3, V3, ⟨hg1, fun d hd => by rw [hg2]; exact hd, fun d hd => by rw [hg2] at hd; exact .inl hd, fun d hd => ?_, fun d hd hd2 => hoth d (by rintro rfl; rw [hown] at hd2; cases hd2), by omega, ho, ht, hp⟩, rfl⟩
            rcases hg3 d hd with rfl | hd
            · exact .inl (by rw [hown]; simp)
            · refine .inl fun e => hd ?_
              simp only [Gh.free]
              rw [e]; rfl
        · have hlen : (cs.take (k * s) ++ vs ++ cs.drop (k * s)).length = (es.length + 1) * s := by
            rw [← hil]; exact DenF.length _ _ (hins cs hcs)
          obtain ⟨R3, V3⟩ := R1.pushRow (gr := true) hno1 hpush hroom (by omega) (hins cs hcs) (fun j hj => hcell j (by omega))
          rw [hil] at V3
          have A1 := Adv.new (σ := σ.setObj 0 n (some .gone)) (g := g.free σ.up.length n) (n := nm) (cap := cap) hpush ho ht hp
          refine ⟨_, R3, V3, ⟨rfl, fun _ h => h, fun _ h => .inl h, fun d hd => ?_, fun d hd _ => push_old hpush hd, A1.size, ho, ht, hp⟩, rfl⟩
          rcases A1.ownNew d hd with hd | hd
          · refine .inl fun e => hd ?_
            simp only [Gh.free]
            rw [e]; rfl
          · exact .inr hd
      · cases hX
    · cases hX
  · cases hX
end
end Go.Proofs.Ytkhgnkfdpabflaa.Vm
