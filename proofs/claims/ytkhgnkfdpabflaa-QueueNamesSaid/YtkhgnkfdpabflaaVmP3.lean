/- A machine for the seat's programs and its soundness, part 3. -/
import Derived.Test.YtkhgnkfdpabflaaVmP2
import Derived.Orders
/- All of a callee's objects become the caller's. -/
namespace Go.Proofs.Ytkhgnkfdpabflaa.Vm
open Go
section
variable {g : Gh} {σ : St} {tmps : Array Value} {rts : Roots} {w : World}
theorem St.O_ob {ob' : Lv} {a n : Nat} (h : a ≠ σ.up.length) : ({ σ with ob := ob' } : St).O a n = σ.O a n := by
  simp only [St.O]
  split
  · rename_i ha
    cases hk : σ.up.length - a with
    | zero => omega
    | succ k => rfl
  · rfl
theorem St.O_top (ob' : Lv) (n : Nat) : ({ σ with ob := ob' } : St).O σ.up.length n = gt none ob' n := by simp [St.O, St.obj]
theorem St.O_top' (n : Nat) : σ.O σ.up.length n = σ.obj 0 n := by simp [St.O]
theorem gt_padTo : ∀ (b : Nat) (os m : Lv) (n : Nat), gt none (padTo b os ++ m) n = if n < b then gt none os n else gt none m (n - b)
  | 0, os, m, n => by simp [padTo]
  | b + 1, [], m, 0 => by simp [padTo, gt]
  | b + 1, [], m, n + 1 => by simp [padTo, gt, gt_padTo b [] m n]
  | b + 1, o :: os, m, 0 => by simp [padTo, gt]
  | b + 1, o :: os, m, n + 1 => by simp [padTo, gt, gt_padTo b os m n]
theorem gt_free : ∀ (b : Nat) (os : Lv) (n : Nat), (os.drop b).all Option.isNone = true → b ≤ n → gt none os n = none
  | b, [], n, _, _ => rfl
  | 0, o :: os, n, h, _ => by
    simp only [List.drop_zero] at h
    rw [gt_get]
    cases hx : (o :: os)[n]? with
    | none => rfl
    | some x =>
      have := List.all_eq_true.1 h x (List.mem_of_getElem? hx)
      cases x with
      | none => rfl
      | some y => cases this
  | b + 1, o :: os, 0, _, hn => by omega
  | b + 1, o :: os, n + 1, h, hn => gt_free b os n (by simpa using h) (by omega)
theorem gt_map_ob (f : Ob → Ob) (os : Lv) (n : Nat) : gt none (os.map (Option.map f)) n = (gt none os n).map f := gt_map (d := none) (e := none) (Option.map f) rfl _ _
def Gh.mrg (g : Gh) (D b : Nat) : Gh := { g with
  own := fun x => match g.own x with | some (a, n) => if a = D + 1 then some (D, b + n) else some (a, n) | none => none
  loc := fun a n => if a = D ∧ b ≤ n then g.loc (D + 1) (n - b) else g.loc a n }
section
variable {D b : Nat} {O O' : Obs}
theorem Gh.mrg_low {x a n : Nat} (h : g.own x = some (a, n)) (ha : a ≤ D) : (g.mrg D b).own x = some (a, n) := by
  simp only [Gh.mrg, h]; rw [if_neg (by omega)]
theorem Gh.mrg_top {x n : Nat} (h : g.own x = some (D + 1, n)) : (g.mrg D b).own x = some (D, b + n) := by
  simp only [Gh.mrg, h, if_true]
theorem Gh.mrg_loc (n : Nat) : (g.mrg D b).loc D (b + n) = g.loc (D + 1) n := by
  show (if D = D ∧ b ≤ b + n then g.loc (D + 1) (b + n - b) else g.loc D (b + n)) = _
  rw [if_pos ⟨rfl, Nat.le_add_right _ _⟩]
  congr 1; omega
structure Merged (D b : Nat) (O O' : Obs) : Prop where
  free : ∀ n, b ≤ n → O D n = none
  low : ∀ a n, a ≤ D → ¬ (a = D ∧ b ≤ n) → O' a n = O a n
  top : ∀ n, O' D (b + n) = (O (D + 1) n).map (Ob.mrg b)
theorem Merged.keep (M : Merged D b O O') : Keep (D + 1) (fun _ _ => False) g w O (g.mrg D b) w O' := by
  have hO : ∀ a n, a < D + 1 → O a n ≠ none → O' a n = O a n ∧ (g.mrg D b).loc a n = g.loc a n := fun a n ha hn => by
    have hc : ¬ (a = D ∧ b ≤ n) := fun ⟨e, h⟩ => hn (by rw [e]; exact M.free n h)
    exact ⟨M.low a n (by omega) hc, by simp only [Gh.mrg]; rw [if_neg hc]⟩
  refine ⟨rfl, fun _ h => h, fun _ _ => rfl, fun a n lo len s A c ha _ h => ?_, fun a n i off v ha _ h => ?_, fun a n off v ha _ h => ?_⟩
  · have hn : O a n ≠ none := fun e => by unfold RowV at h; rw [e] at h; exact h
    unfold RowV at h ⊢
    rw [(hO a n ha hn).1, (hO a n ha hn).2]
    split at h
    · obtain ⟨h1, h2, h3, h4⟩ := h
      exact ⟨h1, h2, h3, h4.imp id fun ⟨x, o, hA, hob, hd, hx⟩ => ⟨x, o, hA, Gh.mrg_low hob (by omega), hd, hx⟩⟩
    · exact h
    · exact h
    · exact h
  · have hn : O a n ≠ none := fun e => by unfold RelV at h; rw [e] at h; exact h
    unfold RelV at h ⊢
    rw [(hO a n ha hn).1, (hO a n ha hn).2]
    split at h
    · obtain ⟨x, o, e, vs, hv, hob, h2⟩ := h
      exact ⟨x, o, e, vs, hv, Gh.mrg_low hob (by omega), h2⟩
    · exact h
    · exact h
    · exact h
  · obtain ⟨⟨cs, h1⟩, h2⟩ := h
    have hn : O a n ≠ none := by rw [h1]; simp
    exact ⟨⟨cs, by rw [(hO a n ha hn).1]; exact h1⟩, by rw [(hO a n ha hn).2]; exact h2⟩
mutual
theorem VR.mrg (M : Merged D b O O') : ∀ (v : V) (x : Value), VR g w O (D + 2) v x → VR (g.mrg D b) w O' (D + 1) (v.mrg b) x
  | .row 0 n lo len s, x, h => by
    obtain ⟨_, A, c, hx, h⟩ := h
    refine ⟨Nat.succ_pos _, A, c, hx, ?_⟩
    have e1 : D + 2 - 1 - 0 = D + 1 := by omega
    have e2 : D + 1 - 1 - 0 = D := by omega
    rw [e1] at h
    rw [e2]
    unfold RowV at h ⊢
    rw [M.top n, Gh.mrg_loc]
    split at h
    · rename_i s' es gr ho
      rw [ho]
      obtain ⟨h1, h2, h3, h4⟩ := h
      exact ⟨h1, h2, h3, h4.imp id fun ⟨x, o, hA, hob, hd, hx⟩ => ⟨x, o, hA, Gh.mrg_top hob, hd, hx⟩⟩
    · rename_i s' es ho
      rw [ho]; exact h
    · rename_i ho
      rw [ho]; exact h
    · exact h.elim
  | .row (l + 1) n lo len s, x, h => by
    obtain ⟨hl, A, c, hx, h⟩ := h
    refine ⟨by omega, A, c, hx, ?_⟩
    have e : D + 2 - 1 - (l + 1) = D + 1 - 1 - l := by omega
    rw [e] at h
    exact (M.keep (g := g) (w := w)).row _ _ _ _ _ _ _ (by omega) (fun h => h) h
  | .ptr 0 n off, x, h => by
    obtain ⟨_, ⟨cs, h1⟩, h2⟩ := h
    have e1 : D + 2 - 1 - 0 = D + 1 := by omega
    have e2 : D + 1 - 1 - 0 = D := by omega
    rw [e1] at h1 h2
    refine ⟨Nat.succ_pos _, ?_⟩
    rw [e2]
    exact ⟨⟨_, by rw [M.top n, h1]; rfl⟩, by rw [Gh.mrg_loc]; exact h2⟩
  | .ptr (l + 1) n off, x, h => by
    obtain ⟨hl, h⟩ := h
    refine ⟨by omega, ?_⟩
    have e : D + 2 - 1 - (l + 1) = D + 1 - 1 - l := by omega
    rw [e] at h
    exact (M.keep (g := g) (w := w)).ptr _ _ _ _ (by omega) (fun h => h) h
  | .rel 0 n i off, x, h => by
    obtain ⟨_, h⟩ := h
    refine ⟨Nat.succ_pos _, ?_⟩
    have e1 : D + 2 - 1 - 0 = D + 1 := by omega
    have e2 : D + 1 - 1 - 0 = D := by omega
    rw [e1] at h
    rw [e2]
    unfold RelV at h ⊢
    rw [M.top n, Gh.mrg_loc]
    split at h
    · rename_i s' es gr ho
      rw [ho]
      obtain ⟨x, o, e, vs, hv, hob, h2⟩ := h
      exact ⟨x, o, e, vs, hv, Gh.mrg_top hob, h2⟩
    · rename_i s' es ho
      rw [ho]; exact h
    · rename_i ho
      rw [ho]; exact h
    · exact h.elim
  | .rel (l + 1) n i off, x, h => by
    obtain ⟨hl, h⟩ := h
    refine ⟨by omega, ?_⟩
    have e : D + 2 - 1 - (l + 1) = D + 1 - 1 - l := by omega
    rw [e] at h
    exact (M.keep (g := g) (w := w)).rel _ _ _ _ _ (by omega) (fun h => h) h
  | .ag cs, x, h => by
    obtain ⟨vs, hv, h, h1⟩ := h
    exact ⟨vs, hv, VRs.mrg M cs vs h, h1⟩
  | .tp cs, x, h => by
    obtain ⟨vs, hv, h⟩ := h
    exact ⟨vs, hv, VRs.mrg M cs vs h⟩
  | .cl f cs, x, h => by
    obtain ⟨vs, hv, h⟩ := h
    exact ⟨vs, hv, VRs.mrg M cs vs h⟩
  | .d true t, x, h => h
  | .d false t, x, h => VR.keep (M.keep (g := g) (w := w)) (D + 1) (Nat.le_refl _) (.d false t) x trivial h
  | .dx true t, x, h => h
  | .dx false t, x, h => VR.keep (M.keep (g := g) (w := w)) (D + 1) (Nat.le_refl _) (.dx false t) x trivial h
  | .nil _, x, h => h
  | .pd t, x, h => VR.keep (M.keep (g := g) (w := w)) (D + 1) (Nat.le_refl _) (.pd t) x trivial h
  | .u, x, h => trivial
theorem VRs.mrg (M : Merged D b O O') : ∀ (vs : List V) (xs : List Value), VRs g w O (D + 2) vs xs → VRs (g.mrg D b) w O' (D + 1) (V.mrgs b vs) xs
  | [], xs, h => h
  | v :: vs, _, h => by
    obtain ⟨x, xs, rfl, h1, h2⟩ := h
    exact ⟨x, xs, rfl, VR.mrg M v x h1, VRs.mrg M vs xs h2⟩
end
end
theorem Left.merge {w' : World} {v v' : V} {σc σl σ₁ : St} {r : Value} {b : Nat} (hrt : ∀ q ∈ rts, q.1 ≤ σ.up.length) (h : Left g (slotRoots σ tmps ++ rts) w (σ.ob :: σ.up) v σc r w') (hl : Vm.leave false σ σc = some σl) (hb : Vm.merge σl σc v b = some (v', σ₁)) :
    ∃ g', Rel g' σ₁ tmps rts w' ∧ VR g' w' σ₁.O (σ₁.up.length + 1) v' r ∧ Adv g w g' w' ∧ σ₁.up.length = σ.up.length := by
  obtain ⟨g1, tmps', R, hv, Ad, hup⟩ := h
  simp only [List.length_cons] at hup
  obtain ⟨hl3, hsl, hO⟩ := leave_O hl rfl hup
  unfold Vm.merge at hb
  split at hb
  · rename_i hfree
    cases hb
    have hup1 : ({ σl with ob := padTo b σl.ob ++ σc.ob.map (Option.map (Ob.mrg b)) } : St).up.length = σ.up.length := hl3
    have htop : ∀ n, ({ σl with ob := padTo b σl.ob ++ σc.ob.map (Option.map (Ob.mrg b)) } : St).O σ.up.length n = if n < b then σl.O σ.up.length n else (gt none σc.ob (n - b)).map (Ob.mrg b) := fun n => by
      have h1 := St.O_top (σ := σl) (padTo b σl.ob ++ σc.ob.map (Option.map (Ob.mrg b))) n
      rw [hl3] at h1
      rw [h1, gt_padTo, gt_map_ob]
      have h2 := St.O_top' (σ := σl) n
      rw [hl3] at h2
      rw [h2]
      rfl
    have hfr : ∀ n, b ≤ n → σl.O σ.up.length n = none := fun n hn => by
      have h2 := St.O_top' (σ := σl) n
      rw [hl3] at h2
      rw [h2]
      exact gt_free b σl.ob n hfree hn
    have M : Merged σ.up.length b σc.O ({ σl with ob := padTo b σl.ob ++ σc.ob.map (Option.map (Ob.mrg b)) } : St).O := by
      refine ⟨fun n hn => ?_, fun a n ha hc => ?_, fun n => ?_⟩
      · rw [← hO σ.up.length n (by omega)]; exact hfr n hn
      · by_cases hae : a = σ.up.length
        · subst hae
          rw [htop, if_pos (by omega), hO _ _ (by omega)]
        · rw [St.O_ob (by rw [hl3]; exact hae), hO _ _ (by omega)]
      · rw [htop, if_neg (by omega)]
        have h2 := St.O_top' (σ := σc) n
        rw [hup] at h2
        rw [h2]
        congr 1
        show gt none σc.ob (b + n - b) = gt none σc.ob n
        congr 1; omega
    have K := M.keep (g := g1) (w := w')
    refine ⟨g1.mrg σ.up.length b, ⟨fun i => ?_, fun a n o ha ho => ?_, fun q hq => ?_, fun x a n hx => ?_, R.okb, R.base⟩, ?_, ?_, hl3⟩
    · rw [hup1]
      have hg : ({ σl with ob := padTo b σl.ob ++ σc.ob.map (Option.map (Ob.mrg b)) } : St).get i = σ.get i := by simp [St.get, hsl]
      rw [hg]
      by_cases hi : i < σ.sl.length
      · have := (R.rt (σ.up.length + 1, σ.get i, tmps.getD i undef) (List.mem_append_left _ (List.mem_map.2 ⟨i, List.mem_range.2 hi, rfl⟩))).2
        exact VR.keep' K (Nat.le_refl _) this
      · have : σ.get i = .u := gt_far _ _ _ (by omega)
        rw [this]; trivial
    · rw [hup1] at ha
      by_cases hc : a = σ.up.length ∧ b ≤ n
      · obtain ⟨rfl, hn⟩ := hc
        obtain ⟨m, rfl⟩ : ∃ m, n = b + m := ⟨n - b, by omega⟩
        rw [M.top] at ho
        cases ho0 : σc.O (σ.up.length + 1) m with
        | none => rw [ho0] at ho; cases ho
        | some o0 =>
          rw [ho0] at ho
          cases ho
          have hold := R.ob (σ.up.length + 1) m o0 (by omega) ho0
          cases o0 with
          | box cs =>
            obtain ⟨h1, vs, el, h2, h3, h4⟩ := hold
            exact ⟨by rw [Gh.mrg_loc]; exact Gh.mrg_top h1, vs, el, by rw [Gh.mrg_loc]; exact h2, VRs.mrg M _ _ h3, h4⟩
          | rw s es gr =>
            rcases hold with hold | ⟨h1, h2, cs, el, h3, h4, h5⟩
            · exact .inl (by rw [Gh.mrg_loc]; exact hold)
            · exact .inr ⟨by rw [Gh.mrg_loc]; exact Gh.mrg_top h1, by rw [Gh.mrg_loc]; exact h2, cs, el, by rw [Gh.mrg_loc]; exact h3, by rw [Gh.mrg_loc]; exact h4, by rw [Gh.mrg_loc]; exact h5⟩
          | fz s es => trivial
          | gone => trivial
      · rw [M.low a n (by omega) hc] at ho
        exact ObR.keep' K ha (by simp only [Gh.mrg]; rw [if_neg hc]) (fun x hx => Gh.mrg_low hx (by omega)) rfl (R.ob a n o (by omega) ho)
    · rw [hup1]
      have hq1 := hrt q hq
      exact ⟨hq1, VR.keep' K (by omega) (R.rt q (List.mem_append_right _ hq)).2⟩
    · rw [hup1]
      simp only [Gh.mrg] at hx
      cases hx0 : g1.own x with
      | none => rw [hx0] at hx; cases hx
      | some y =>
        obtain ⟨a', n'⟩ := y
        have hR := R.own x a' n' hx0
        rw [hx0] at hx
        simp only at hx
        refine ⟨hR.1, hR.2.1, hR.2.2.1, ?_⟩
        split at hx
        · cases hx; omega
        · cases hx; omega
    · have hv' := VR.mrg (g := g1) (w := w') M v r (by have := hv; rw [hup] at this; exact this)
      have e : ({ σl with ob := padTo b σl.ob ++ σc.ob.map (Option.map (Ob.mrg b)) } : St).up.length + 1 = σ.up.length + 1 := by rw [hup1]
      rw [e]
      exact hv'
    · refine ⟨Ad.base, Ad.ok, Ad.okNew, fun x hx => ?_, Ad.heap, Ad.size, Ad.os, Ad.tape, Ad.output⟩
      refine Ad.ownNew x fun he => hx ?_
      simp only [Gh.mrg, he]
  · cases hb
end
end Go.Proofs.Ytkhgnkfdpabflaa.Vm
/- Rows that a callee made become the caller's. -/
namespace Go.Proofs.Ytkhgnkfdpabflaa.Vm
open Go
section
variable {g g' : Gh} {σ : St} {tmps : Array Value} {rts : Roots} {w : World} {O O' : Obs} {pure : Bool} {base Dc D : Nat}
def Gh.gain (g : Gh) (σ : St) (own2 : Nat → Option Nat) (loc2 : Nat → Nat × Nat × Nat) : Gh :=
  { g with own := fun b => match own2 b with | some m => some (σ.up.length, m) | none => g.own b, loc := fun a n => if a = σ.up.length ∧ σ.obj 0 n = none then loc2 n else g.loc a n }
theorem Keep.gain {ob' : Lv} {own2 : Nat → Option Nat} {loc2 : Nat → Nat × Nat × Nat} (hold : ∀ n, σ.obj 0 n ≠ none → gt none ob' n = σ.obj 0 n)
    (hown : ∀ b m, own2 b = some m → g.own b = none) {D : Nat} : Keep D (fun _ _ => False) g w σ.O (g.gain σ own2 loc2) w ({ σ with ob := ob' } : St).O := by
  have hO : ∀ a n, σ.O a n ≠ none → ({ σ with ob := ob' } : St).O a n = σ.O a n ∧ (g.gain σ own2 loc2).loc a n = g.loc a n := fun a n hn => by
    by_cases ha : a = σ.up.length
    · subst ha
      rw [St.O_top'] at hn
      refine ⟨by rw [St.O_top, St.O_top', hold n hn], ?_⟩
      simp [Gh.gain, hn]
    · exact ⟨St.O_ob ha, by simp [Gh.gain, ha]⟩
  have ho : ∀ b x, g.own b = some x → (g.gain σ own2 loc2).own b = some x := fun b x hb => by
    simp only [Gh.gain]
    cases h : own2 b with
    | none => exact hb
    | some m => rw [hown b m h] at hb; cases hb
  refine ⟨rfl, fun _ h => h, fun _ _ => rfl, fun a n lo len s A c _ _ h => ?_, fun a n i off v _ _ h => ?_, fun a n off v _ _ h => ?_⟩
  · have hn : σ.O a n ≠ none := fun e => by unfold RowV at h; rw [e] at h; exact h
    unfold RowV at h ⊢
    rw [(hO a n hn).1, (hO a n hn).2]
    split at h
    · obtain ⟨h1, h2, h3, h4⟩ := h
      exact ⟨h1, h2, h3, h4.imp id fun ⟨b, o, hA, hob, hd, hx⟩ => ⟨b, o, hA, ho _ _ hob, hd, hx⟩⟩
    · exact h
    · exact h
    · exact h
  · have hn : σ.O a n ≠ none := fun e => by unfold RelV at h; rw [e] at h; exact h
    unfold RelV at h ⊢
    rw [(hO a n hn).1, (hO a n hn).2]
    split at h
    · obtain ⟨b, o, e, vs, hv, hob, h2⟩ := h
      exact ⟨b, o, e, vs, hv, ho _ _ hob, h2⟩
    · exact h
    · exact h
    · exact h
  · obtain ⟨⟨cs, h1⟩, h2⟩ := h
    have hn : σ.O a n ≠ none := by rw [h1]; simp
    exact ⟨⟨cs, by rw [(hO a n hn).1]; exact h1⟩, by rw [(hO a n hn).2]; exact h2⟩
theorem Rel.gain (R : Rel g σ tmps rts w) {ob' : Lv} {own2 : Nat → Option Nat} {loc2 : Nat → Nat × Nat × Nat} (hold : ∀ n, σ.obj 0 n ≠ none → gt none ob' n = σ.obj 0 n)
    (hown : ∀ b m, own2 b = some m → g.own b = none ∧ ¬ g.ok b ∧ g.base ≤ b ∧ b < w.heap.size)
    (hnew : ∀ m o, σ.obj 0 m = none → gt none ob' m = some o → ObR (g.gain σ own2 loc2) w ({ σ with ob := ob' } : St).O σ.up.length m o) :
    Rel (g.gain σ own2 loc2) { σ with ob := ob' } tmps rts w := by
  have K : ∀ D, Keep D (fun _ _ => False) g w σ.O (g.gain σ own2 loc2) w ({ σ with ob := ob' } : St).O := fun D => Keep.gain hold (fun b m h => (hown b m h).1)
  have ho : ∀ b x, g.own b = some x → (g.gain σ own2 loc2).own b = some x := fun b x hb => by
    simp only [Gh.gain]
    cases h : own2 b with
    | none => exact hb
    | some m => rw [(hown b m h).1] at hb; cases hb
  refine ⟨fun i => VR.keep' (K _) (Nat.le_refl _) (R.sl i), fun a n o ha hoo => ?_, fun r hr => ⟨(R.rt r hr).1, VR.keep' (K _) (Nat.le_refl _) (R.rt r hr).2⟩, fun b a n hb => ?_, R.okb, R.base⟩
  · by_cases hc : a = σ.up.length ∧ σ.obj 0 n = none
    · obtain ⟨rfl, hn⟩ := hc
      rw [St.O_top] at hoo
      exact hnew n o hn hoo
    · have hOe : ({ σ with ob := ob' } : St).O a n = σ.O a n := by
        by_cases ha' : a = σ.up.length
        · subst ha'
          have hn : σ.obj 0 n ≠ none := fun e => hc ⟨rfl, e⟩
          rw [St.O_top, St.O_top', hold n hn]
        · exact St.O_ob ha'
      rw [hOe] at hoo
      exact ObR.keep' (K (a + 1)) (Nat.lt_succ_self _) (by simp only [Gh.gain]; rw [if_neg hc]) (fun b hb => ho b _ hb) rfl (R.ob a n o ha hoo)
  · simp only [Gh.gain] at hb
    cases h : own2 b with
    | none => rw [h] at hb; exact R.own b a n hb
    | some m =>
      rw [h] at hb
      obtain ⟨_, h2, h3, h4⟩ := hown b m h
      cases hb
      exact ⟨h4, h2, h3, Nat.lt_succ_self _⟩
theorem take_row {g1 : Gh} {σc : St} {tc : Array Value} {rc : Roots} {x : Value} {n nm s s' : Nat} {es : List T} {gr : Bool} (Rc : Rel g1 σc tc rc w) (RL : Rel g σ tmps rts w) (hok : ∀ b, g1.ok b → g.ok b)
    (hn : ∀ b, g1.own b = some (σc.up.length, n) → ¬ g.ok b ∧ g.own b = none ∧ g.base ≤ b) (hobj : σc.obj 0 n = some (.rw s' es gr)) (hno : σ.obj 0 nm = none) (hx : VR g1 w σc.O (σc.up.length + 1) (.row 0 n 0 es.length s) x) :
    ∃ g', Rel g' { σ with ob := st none σ.ob nm (some (.rw s es false)) } tmps rts w ∧ VR g' w ({ σ with ob := st none σ.ob nm (some (.rw s es false)) } : St).O (σ.up.length + 1) (.row 0 nm 0 es.length s) x ∧ g'.base = g.base ∧ g'.ok = g.ok ∧
      (∀ b, g'.own b ≠ none → g.own b ≠ none ∨ g1.own b = some (σc.up.length, n)) ∧ ∀ D, Keep D (fun _ _ => False) g w σ.O g' w ({ σ with ob := st none σ.ob nm (some (.rw s es false)) } : St).O := by
  obtain ⟨_, A, c, hr, hrow⟩ := hx
  have hO : σc.O σc.up.length n = some (.rw s' es gr) := by rw [St.O_top']; exact hobj
  rw [show σc.up.length + 1 - 1 - 0 = σc.up.length by omega] at hrow
  unfold RowV at hrow
  rw [hO] at hrow
  simp only at hrow
  obtain ⟨hss, hfit, hcap, hrow⟩ := hrow
  have hss := hss.symm
  subst hss
  let own2 : Nat → Option Nat := fun b => if g1.own b = some (σc.up.length, n) then some nm else none
  let loc2 : Nat → Nat × Nat × Nat := fun _ => g1.loc σc.up.length n
  have own2_some : ∀ b m, own2 b = some m → g1.own b = some (σc.up.length, n) ∧ m = nm := fun b m hb => by
    simp only [own2] at hb
    split at hb
    · rename_i h; cases hb; exact ⟨h, rfl⟩
    · cases hb
  have own2_of : ∀ b, g1.own b = some (σc.up.length, n) → own2 b = some nm := fun b hb => by simp only [own2]; rw [if_pos hb]
  have hgt : ∀ m, gt none (st none σ.ob nm (some (.rw s es false))) m = if nm = m then some (.rw s es false) else σ.obj 0 m := fun m => gt_st _ _ _ _
  have hold : ∀ m, σ.obj 0 m ≠ none → gt none (st none σ.ob nm (some (.rw s es false))) m = σ.obj 0 m := fun m hm => by rw [hgt, if_neg (fun e => hm (by rw [← e]; exact hno))]
  have hown : ∀ b m, own2 b = some m → g.own b = none ∧ ¬ g.ok b ∧ g.base ≤ b ∧ b < w.heap.size := fun b m hb => by
    obtain ⟨h1, _⟩ := own2_some b m hb
    obtain ⟨q1, q2, q3⟩ := hn b h1
    exact ⟨q2, q1, q3, (Rc.own b _ _ h1).1⟩
  have hlocn : (g.gain σ own2 loc2).loc σ.up.length nm = g1.loc σc.up.length n := by simp only [Gh.gain, hno, and_self, if_true, loc2]
  have hownn : ∀ b, g1.own b = some (σc.up.length, n) → (g.gain σ own2 loc2).own b = some (σ.up.length, nm) := fun b hb => by simp only [Gh.gain, own2_of b hb]
  refine ⟨g.gain σ own2 loc2, Rel.gain RL hold hown fun m o hm hmo => ?_, ⟨Nat.succ_pos _, A, c, hr, ?_⟩, rfl, rfl, fun b hb => ?_, fun D => Keep.gain hold (fun b m h => (hown b m h).1)⟩
  · rw [hgt] at hmo
    split at hmo
    · rename_i hnm
      subst hnm
      cases hmo
      rcases Rc.ob σc.up.length n _ (Nat.lt_succ_self _) hO with hh | ⟨q1, q2, cs, el, q3, q4, q5⟩
      · exact .inl (by rw [hlocn]; exact hh)
      · refine .inr ⟨by rw [hlocn]; exact hownn _ q1, by rw [hlocn]; exact q2, cs, el, by rw [hlocn]; exact q3, by rw [hlocn]; exact q4, ?_⟩
        rw [hlocn]
        exact DenR.mono (fun _ _ => rfl) hok _ _ rfl _ _ q5
    · rw [hm] at hmo; cases hmo
  · rw [show σ.up.length + 1 - 1 - 0 = σ.up.length by omega]
    unfold RowV
    rw [St.O_top, hgt, if_pos rfl]
    refine ⟨rfl, hfit, hcap, hrow.imp id fun ⟨b, o, hA, hb, hd, hx⟩ => ⟨b, o, hA, hownn b hb, DenR.mono (fun _ _ => rfl) hok _ _ rfl _ _ hd, .inl ?_⟩⟩
    rw [hlocn]
    rcases hx with hx | ⟨_, hx, _⟩
    · exact hx
    · omega
  · simp only [Gh.gain] at hb
    cases h : own2 b with
    | none => rw [h] at hb; exact .inl hb
    | some m => exact .inr (own2_some b m h).1
theorem take_nil {x : Value} {nm s s' : Nat} (RL : Rel g σ tmps rts w) (hno : σ.obj 0 nm = none) (hx : VR g' w O D (.nil s') x) :
    ∃ g', Rel g' { σ with ob := st none σ.ob nm (some (.rw s [] false)) } tmps rts w ∧ VR g' w ({ σ with ob := st none σ.ob nm (some (.rw s [] false)) } : St).O (σ.up.length + 1) (.row 0 nm 0 0 s) x ∧ g'.base = g.base ∧ g'.ok = g.ok ∧
      (∀ b, g'.own b ≠ none → g.own b ≠ none) ∧ ∀ D, Keep D (fun _ _ => False) g w σ.O g' w ({ σ with ob := st none σ.ob nm (some (.rw s [] false)) } : St).O := by
  obtain ⟨A, hr⟩ := hx
  have hgt : ∀ m, gt none (st none σ.ob nm (some (.rw s [] false))) m = if nm = m then some (.rw s [] false) else σ.obj 0 m := fun m => gt_st _ _ _ _
  have hold : ∀ m, σ.obj 0 m ≠ none → gt none (st none σ.ob nm (some (.rw s [] false))) m = σ.obj 0 m := fun m hm => by rw [hgt, if_neg (fun e => hm (by rw [← e]; exact hno))]
  refine ⟨g.gain σ (fun _ => none) (fun _ => (0, 0, 0)), Rel.gain RL hold (fun b m hb => by cases hb) fun m o hm hmo => ?_, ⟨Nat.succ_pos _, A, 0, hr, ?_⟩, rfl, rfl, fun b hb => hb, fun D => Keep.gain hold (fun b m h => by cases h)⟩
  · rw [hgt] at hmo
    split at hmo
    · rename_i hnm
      subst hnm
      cases hmo
      exact .inl ⟨rfl, by simp only [Gh.gain, hno, and_self, if_true]⟩
    · rw [hm] at hmo; cases hmo
  · rw [show σ.up.length + 1 - 1 - 0 = σ.up.length by omega]
    unfold RowV
    rw [St.O_top, hgt, if_pos rfl]
    exact ⟨rfl, by simp, Nat.le_refl _, .inl rfl⟩
structure Tk (pure : Bool) (g1 gL : Gh) (σc σl : St) (tl : Array Value) (rl : Roots) (w : World) (a : Lv × Nat × List Nat) (g : Gh) : Prop where
  rel : Rel g { σl with ob := a.1 } tl rl w
  base : g.base = gL.base
  ok : g.ok = gL.ok
  own : ∀ b, g.own b ≠ none → gL.own b ≠ none ∨ g1.own b ≠ none
  free : ∀ b n, n ∉ a.2.2 → g1.own b = some (σc.up.length, n) → g.own b = none
  out : pure = false → σc.up.length = σl.up.length + 1 ∧ Keep (σl.up.length + 1) (fun _ _ => False) g1 w σc.O g w ({ σl with ob := a.1 } : St).O
theorem take1_sound {g1 gL : Gh} {σc σl : St} {tc tl : Array Value} {rc rl : Roots} (Rc : Rel g1 σc tc rc w) (hok : ∀ b, g1.ok b → gL.ok b) (hnok : ∀ b n, g1.own b = some (σc.up.length, n) → ¬ gL.ok b ∧ gL.base ≤ b) :
    ∀ (v v' : V) (x : Value) (a a' : Lv × Nat × List Nat) (g : Gh), take1 pure σc v a = some (v', a') → Tk pure g1 gL σc σl tl rl w a g → VR g1 w σc.O (σc.up.length + 1) v x →
      ∃ g', Tk pure g1 gL σc σl tl rl w a' g' ∧ VR g' w ({ σl with ob := a'.1 } : St).O (σl.up.length + 1) v' x ∧ ∀ D, Keep D (fun _ _ => False) g w ({ σl with ob := a.1 } : St).O g' w ({ σl with ob := a'.1 } : St).O := by
  intro v v' x a a' g e K h
  have hok' : ∀ b, g1.ok b → g.ok b := fun b hb => by rw [K.ok]; exact hok b hb
  have plain : ∀ v, take0 pure σc v a = some (v', a') → VR g1 w σc.O (σc.up.length + 1) v x → ∃ g', Tk pure g1 gL σc σl tl rl w a' g' ∧ VR g' w ({ σl with ob := a'.1 } : St).O (σl.up.length + 1) v' x ∧ ∀ D, Keep D (fun _ _ => False) g w ({ σl with ob := a.1 } : St).O g' w ({ σl with ob := a'.1 } : St).O := fun v e h => by
    unfold take0 at e
    split at e
    · rename_i hd
      cases e
      exact ⟨g, K, dat1_sound v _ [] x hd ⟨hok', (fun n hn => by cases hn), fun hp => ⟨by rw [(K.out hp).1], (K.out hp).2⟩⟩ h, fun D => Keep.same rfl⟩
    · cases e
  unfold take1 at e
  split at e
  · rename_i s
    split at e
    · rename_i hno
      cases e
      obtain ⟨g', R', hv, b1, b2, b3, b4⟩ := take_nil (σ := { σl with ob := a.1 }) (nm := a.2.1) (s := s) K.rel (Option.isNone_iff_eq_none.1 hno) h
      refine ⟨g', ⟨R', b1.trans K.base, b2.trans K.ok, fun b hb => K.own b (b3 b hb), fun b n hn hb => ?_, fun hp => ?_⟩, hv, b4⟩
      · cases ho : g'.own b with
        | none => rfl
        | some y => exact absurd (K.free b n hn hb) (b3 b (by rw [ho]; simp))
      · obtain ⟨q1, q2⟩ := K.out hp
        exact ⟨q1, q2.trans (b4 _)⟩
    · cases e
  · rename_i n lo len s
    split at e
    · rename_i s' es gr hobj
      split at e
      · rename_i hc
        obtain ⟨rfl, rfl, hnu, hno⟩ := hc
        cases e
        obtain ⟨g', R', hv, b1, b2, b3, b4⟩ := take_row (σ := { σl with ob := a.1 }) (nm := a.2.1) (s := s) Rc K.rel hok' (fun b hb => ⟨by rw [K.ok]; exact (hnok b n hb).1, K.free b n hnu hb, by rw [K.base]; exact (hnok b n hb).2⟩) hobj (Option.isNone_iff_eq_none.1 hno) h
        refine ⟨g', ⟨R', b1.trans K.base, b2.trans K.ok, fun b hb => ?_, fun b m hm hb => ?_, fun hp => ?_⟩, hv, b4⟩
        · rcases b3 b hb with h | h
          · exact K.own b h
          · exact .inr (by rw [h]; simp)
        · have hm1 : m ∉ a.2.2 := fun hx => hm (List.mem_cons_of_mem _ hx)
          have hm2 : m ≠ n := fun hx => hm (by subst hx; exact List.mem_cons_self ..)
          cases ho : g'.own b with
          | none => rfl
          | some y =>
            rcases b3 b (by rw [ho]; simp) with h | h
            · exact absurd (K.free b m hm1 hb) h
            · rw [hb] at h; cases h; exact absurd rfl hm2
        · obtain ⟨q1, q2⟩ := K.out hp
          exact ⟨q1, q2.trans (b4 _)⟩
      · cases e
    · exact plain _ e h
  · exact plain _ e h
theorem takes1_sound {g1 gL : Gh} {σc σl : St} {tc tl : Array Value} {rc rl : Roots} (Rc : Rel g1 σc tc rc w) (hok : ∀ b, g1.ok b → gL.ok b) (hnok : ∀ b n, g1.own b = some (σc.up.length, n) → ¬ gL.ok b ∧ gL.base ≤ b) :
    ∀ (vs vs' : List V) (xs : List Value) (a a' : Lv × Nat × List Nat) (g : Gh), takes1 pure σc vs a = some (vs', a') → Tk pure g1 gL σc σl tl rl w a g → VRs g1 w σc.O (σc.up.length + 1) vs xs →
      ∃ g', Tk pure g1 gL σc σl tl rl w a' g' ∧ VRs g' w ({ σl with ob := a'.1 } : St).O (σl.up.length + 1) vs' xs ∧ ∀ D, Keep D (fun _ _ => False) g w ({ σl with ob := a.1 } : St).O g' w ({ σl with ob := a'.1 } : St).O
  | [], vs', xs, a, a', g, e, K, h => by
    simp only [takes1, Option.some.injEq, Prod.mk.injEq] at e
    obtain ⟨rfl, rfl⟩ := e
    exact ⟨g, K, h, fun D => Keep.same rfl⟩
  | v :: vs, vs', xs, a, a', g, e, K, h => by
    simp only [takes1] at e
    split at e
    · rename_i v1 a1 h1
      obtain ⟨r, h2, h3⟩ := map_some e
      simp only [Prod.mk.injEq] at h3
      obtain ⟨rfl, rfl⟩ := h3
      obtain ⟨x, xs', rfl, hx, hxs⟩ := h
      obtain ⟨g2, K2, q1, q2⟩ := take1_sound Rc hok hnok v v1 x a a1 g h1 K hx
      obtain ⟨g3, K3, q3, q4⟩ := takes1_sound Rc hok hnok vs r.1 xs' a1 r.2 g2 h2 K2 hxs
      exact ⟨g3, K3, ⟨x, xs', rfl, VR.keep' (q4 _) (Nat.le_refl _) q1, q3⟩, fun D => (q2 D).trans (q4 D)⟩
    · cases e
theorem take2_sound {g1 gL : Gh} {σc σl : St} {tc tl : Array Value} {rc rl : Roots} (Rc : Rel g1 σc tc rc w) (hok : ∀ b, g1.ok b → gL.ok b) (hnok : ∀ b n, g1.own b = some (σc.up.length, n) → ¬ gL.ok b ∧ gL.base ≤ b)
    (v v' : V) (x : Value) (a a' : Lv × Nat × List Nat) (g : Gh) (e : take2 pure σc v a = some (v', a')) (K : Tk pure g1 gL σc σl tl rl w a g) (h : VR g1 w σc.O (σc.up.length + 1) v x) :
      ∃ g', Tk pure g1 gL σc σl tl rl w a' g' ∧ VR g' w ({ σl with ob := a'.1 } : St).O (σl.up.length + 1) v' x ∧ ∀ D, Keep D (fun _ _ => False) g w ({ σl with ob := a.1 } : St).O g' w ({ σl with ob := a'.1 } : St).O := by
  unfold take2 at e
  split at e
  · rename_i cs
    obtain ⟨r, h2, h3⟩ := map_some e
    simp only [Prod.mk.injEq] at h3
    obtain ⟨rfl, rfl⟩ := h3
    obtain ⟨xs, hv, hxs, hz⟩ := h
    obtain ⟨g3, K3, q3, q4⟩ := takes1_sound Rc hok hnok cs r.1 xs a r.2 g h2 K hxs
    exact ⟨g3, K3, ⟨xs, hv, q3, hz⟩, q4⟩
  · exact take1_sound Rc hok hnok v v' x a a' g e K h
theorem takes2_sound {g1 gL : Gh} {σc σl : St} {tc tl : Array Value} {rc rl : Roots} (Rc : Rel g1 σc tc rc w) (hok : ∀ b, g1.ok b → gL.ok b) (hnok : ∀ b n, g1.own b = some (σc.up.length, n) → ¬ gL.ok b ∧ gL.base ≤ b) :
    ∀ (vs vs' : List V) (xs : List Value) (a a' : Lv × Nat × List Nat) (g : Gh), takes2 pure σc vs a = some (vs', a') → Tk pure g1 gL σc σl tl rl w a g → VRs g1 w σc.O (σc.up.length + 1) vs xs →
      ∃ g', Tk pure g1 gL σc σl tl rl w a' g' ∧ VRs g' w ({ σl with ob := a'.1 } : St).O (σl.up.length + 1) vs' xs ∧ ∀ D, Keep D (fun _ _ => False) g w ({ σl with ob := a.1 } : St).O g' w ({ σl with ob := a'.1 } : St).O
  | [], vs', xs, a, a', g, e, K, h => by
    simp only [takes2, Option.some.injEq, Prod.mk.injEq] at e
    obtain ⟨rfl, rfl⟩ := e
    exact ⟨g, K, h, fun D => Keep.same rfl⟩
  | v :: vs, vs', xs, a, a', g, e, K, h => by
    simp only [takes2] at e
    split at e
    · rename_i v1 a1 h1
      obtain ⟨r, h2, h3⟩ := map_some e
      simp only [Prod.mk.injEq] at h3
      obtain ⟨rfl, rfl⟩ := h3
      obtain ⟨x, xs', rfl, hx, hxs⟩ := h
      obtain ⟨g2, K2, q1, q2⟩ := take2_sound Rc hok hnok v v1 x a a1 g h1 K hx
      obtain ⟨g3, K3, q3, q4⟩ := takes2_sound Rc hok hnok vs r.1 xs' a1 r.2 g2 h2 K2 hxs
      exact ⟨g3, K3, ⟨x, xs', rfl, VR.keep' (q4 _) (Nat.le_refl _) q1, q3⟩, fun D => (q2 D).trans (q4 D)⟩
    · cases e
theorem take_sound {g1 gL : Gh} {σc σl : St} {tc tl : Array Value} {rc rl : Roots} (Rc : Rel g1 σc tc rc w) (hok : ∀ b, g1.ok b → gL.ok b) (hnok : ∀ b n, g1.own b = some (σc.up.length, n) → ¬ gL.ok b ∧ gL.base ≤ b)
    (v v' : V) (x : Value) (a a' : Lv × Nat × List Nat) (g : Gh) (e : take pure σc v a = some (v', a')) (K : Tk pure g1 gL σc σl tl rl w a g) (h : VR g1 w σc.O (σc.up.length + 1) v x) :
      ∃ g', Tk pure g1 gL σc σl tl rl w a' g' ∧ VR g' w ({ σl with ob := a'.1 } : St).O (σl.up.length + 1) v' x := by
  unfold take at e
  split at e
  · rename_i cs
    obtain ⟨r, h2, h3⟩ := map_some e
    simp only [Prod.mk.injEq] at h3
    obtain ⟨rfl, rfl⟩ := h3
    obtain ⟨xs, hv, hxs⟩ := h
    obtain ⟨g3, K3, q3, q4⟩ := takes2_sound Rc hok hnok cs r.1 xs a r.2 g h2 K hxs
    exact ⟨g3, K3, xs, hv, q3⟩
  · obtain ⟨g3, K3, q3, q4⟩ := take2_sound Rc hok hnok v v' x a a' g e K h
    exact ⟨g3, K3, q3⟩
theorem Left.backTake {w' : World} {v v' : V} {σc σ₁ : St} {r : Value} {base : Nat} (hrt : ∀ q ∈ rts, q.1 ≤ σ.up.length) (h : Left g (slotRoots σ tmps ++ rts) w (σ.ob :: σ.up) v σc r w') (hb : Vm.back false σ σc v (some base) = some (v', σ₁)) :
    ∃ g', Rel g' σ₁ tmps rts w' ∧ VR g' w' σ₁.O (σ₁.up.length + 1) v' r ∧ Adv g w g' w' ∧ σ₁.up.length = σ.up.length := by
  obtain ⟨g1, tmps', R, hv, Ad, hup⟩ := h
  simp only [List.length_cons] at hup
  unfold Vm.back at hb
  split at hb
  · rename_i heq; cases heq
  · rename_i σl base' hl heq
    cases heq
    split at hb
    · exact Left.merge hrt ⟨g1, tmps', R, hv, Ad, by simp only [List.length_cons]; exact hup⟩ hl hb
    obtain ⟨r2, h2, h3⟩ := map_some hb
    simp only [Prod.mk.injEq] at h3
    obtain ⟨rfl, rfl⟩ := h3
    obtain ⟨R3, K3, hl3⟩ := Rel.leave R hl (by exact hup) hrt
    obtain ⟨g', K', hv'⟩ := take_sound (σl := σl) (gL := g1.low (σ.up.length + 1)) R (fun b hb => hb) (fun b n hb => ⟨(R.own b _ n hb).2.1, (R.own b _ n hb).2.2.1⟩) v r2.1 r (σl.ob, base, []) r2.2 (g1.low (σ.up.length + 1)) h2
      ⟨R3, rfl, rfl, fun b hb => .inl hb, fun b n _ hb => by simp only [Gh.low, hb]; rw [if_neg (by omega)], fun _ => ⟨by rw [hl3]; exact hup, by rw [hl3]; exact K3⟩⟩ hv
    have Al := Ad.low (D := σ.up.length + 1)
    refine ⟨g', K'.rel, hv', ⟨K'.base.trans Al.base, fun b hb => by rw [K'.ok]; exact Al.ok b hb, fun b hb => by rw [K'.ok] at hb; exact Al.okNew b hb, fun b hb => ?_, Al.heap, Al.size, Al.os, Al.tape, Al.output⟩, hl3⟩
    rcases K'.own b hb with h | h
    · exact Al.ownNew b h
    · exact Ad.ownNew b h
  · cases hb
theorem Left.pbackTake {w' : World} {v v' : V} {σc σ₁ : St} {r : Value} {base : Nat} (R : Rel g σ tmps rts w) (h : Left (g.call w) [] w [] v σc r w') (hb : Vm.back true σ σc v (some base) = some (v', σ₁)) :
    ∃ g', Rel g' σ₁ tmps rts w' ∧ VR g' w' σ₁.O (σ₁.up.length + 1) v' r ∧ Adv g w g' w' ∧ σ₁.up.length = σ.up.length := by
  obtain ⟨g1, tmps', R1, hv, Ad, hup⟩ := h
  unfold Vm.back at hb
  simp only [Vm.leave, if_true, Bool.not_true, Bool.false_and, Bool.false_eq_true, if_false] at hb
  obtain ⟨r2, h2, h3⟩ := map_some hb
  simp only [Prod.mk.injEq] at h3
  obtain ⟨rfl, rfl⟩ := h3
  have hheap : ∀ b, b < w.heap.size → w'.heap[b]? = w.heap[b]? := fun b hb => Ad.heap b hb rfl
  have hN : ∀ b, g1.ok b → w.heap.size ≤ b ∧ b < w'.heap.size ∨ g.ok b := fun b hb => by
    rcases Ad.okNew b hb with h | h | h
    · exact .inr h
    · exact .inl ⟨h, R1.okb b hb⟩
    · exact absurd rfl h
  have hnew : ∀ b, g1.own b ≠ none → w.heap.size ≤ b := fun b hb => by
    rcases Ad.ownNew b hb with h | h
    · exact absurd rfl h
    · exact h
  obtain ⟨R3, K3⟩ := R.more (N := g1.ok) hheap Ad.size hN
  obtain ⟨g', K', hv'⟩ := take_sound (σl := σ) (pure := true) (gL := g.more g1.ok) R1 (fun b hb => .inr hb) (fun b n hb => by
    have hge := hnew b (by rw [hb]; simp)
    refine ⟨fun hok => ?_, Nat.le_trans R.base hge⟩
    rcases hok with hok | hok
    · have := R.okb b hok; omega
    · exact (R1.own b _ n hb).2.1 hok) v r2.1 r (σ.ob, base, []) r2.2 (g.more g1.ok) h2
    ⟨R3, rfl, rfl, fun b hb => .inl hb, fun b n _ hb => by
      have hge := hnew b (by rw [hb]; simp)
      cases ho : g.own b with
      | none => exact ho
      | some x => have := (R.own b x.1 x.2 ho).1; omega, fun hp => by cases hp⟩ hv
  refine ⟨g', K'.rel, hv', ⟨K'.base, fun b hb => by rw [K'.ok]; exact .inl hb, fun b hb => ?_, fun b hb => ?_, fun b hb _ => hheap b hb, Ad.size, Ad.os, Ad.tape, Ad.output⟩, rfl⟩
  · rw [K'.ok] at hb
    rcases hb with hb | hb
    · exact .inl hb
    · rcases hN b hb with h | h
      · exact .inr (.inl h.1)
      · exact .inl h
  · rcases K'.own b hb with h | h
    · exact .inl h
    · exact .inr (hnew b h)
end
end Go.Proofs.Ytkhgnkfdpabflaa.Vm
/- Every operation of a region; lists of them. -/
namespace Go.Proofs.Ytkhgnkfdpabflaa.Vm
open Go
structure EnvOk (P : Program) (E : Env) : Prop where
  fn : ∀ f F, E.fn f = some F → enters P f = true
  ext : ∀ f X, E.ext f = some X → ExtSem P f X
section
variable {P : Program} {E : Env} {g : Gh} {σ : St} {tmps : Array Value} {rts : Roots} {w : World}
theorem okI_call {nt d f : Nat} {as : List X} {rm : Option Nat} {o : Oper} (h : okI P nt (.call d f as rm) o = true) : False := by
  unfold okI at h
  simp only [Bool.and_eq_true] at h
  cases h.2
theorem okI_callv {nt d : Nat} {x : X} {as : List X} {rm : Option Nat} {o : Oper} (h : okI P nt (.callv d x as rm) o = true) : False := by
  unfold okI at h
  simp only [Bool.and_eq_true] at h
  cases h.2
theorem call_wp {nt d : Nat} {o : Oper} {ops : Array Oper} {Q : Exit → Act → World → Prop} {K : Act → World → Prop} {ds : List Deferred} {σ₁ : St} {v' : V} {f n : Nat} {args : Array Value} {g0 : Gh}
    (hgd : Region.wanted o (yielded ops tmps) = true) (hnt : tmps.size = nt) (hd : o.dst = some d) (hlt : d < nt) (he : (execOp (evalT tmps) o).run P w = (callFunc f args).run P w) (hup0 : n = σ.up.length)
    (h : CallSem P f args w fun r w' => ∃ g', Rel g' σ₁ tmps rts w' ∧ VR g' w' σ₁.O (σ₁.up.length + 1) v' r ∧ Adv g0 w g' w' ∧ σ₁.up.length = n)
    (hA : Adv g w g0 w) (hK : ∀ a' w', Next g w rts nt σ.up.length (σ₁.set d v') ds a' w' → K a' w') : OpWp P ops Q o K ⟨tmps, ds⟩ w := by
  subst hup0
  refine CallSem.wp h hgd (by rw [Act.eval_T]; exact he) (fun r w' ⟨g', R, hv, Ad, hup⟩ => ?_)
  refine hK _ _ ⟨g', _, putT_put _ _ _ _, by rw [putT_size, hnt], ?_, hA.trans Ad, by rw [St.up_set, hup]⟩
  rw [hd]
  exact R.set (by rw [hnt]; exact hlt) hv
theorem op_wp {nt : Nat} {i : G} {o : Oper} {ops : Array Oper} {Q : Exit → Act → World → Prop} {K : Act → World → Prop} {ds : List Deferred} {σ' : St} (hE : EnvOk P E) (hok : okG P nt ops i o = true) (h : Rel g σ tmps rts w) (hnt : tmps.size = nt)
    (h1 : Op1 P E σ i σ') (hK : ∀ a' w', Next g w rts nt σ.up.length σ' ds a' w' → K a' w') : OpWp P ops Q o K ⟨tmps, ds⟩ w := by
  cases h1 with
  | step hg hs => exact step_wp hok h hnt hg hs hK
  | skip hg => exact skip_wp hok h hnt hg hK
  | @call d f as rm gd _ F v σc v' σ₁ hg hf hm hF hb =>
    simp only [okG, Bool.and_eq_true, Bool.or_eq_true] at hok
    obtain ⟨hok1, hok2⟩ := hok
    have hwt := wanted_of hok1 h hg
    rcases hok2 with hok2 | hok2
    · exact (okI_call hok2).elim
    · unfold okCall at hok2
      split at hok2
      · rename_i d' f' as' rm' hh ps ts hi hop
        cases hi
        simp only [Bool.and_eq_true, decide_eq_true_eq] at hok2
        obtain ⟨⟨⟨hd, hlt⟩, rfl⟩, hxs⟩ := hok2
        have hen := hE.fn f F hf
        have hv := h.vals hxs
        have hv' : VRs g w σ.O (σ.up.length + 1) (σ.vals as) (ps.map (evalT tmps)).toList := by rw [Array.toList_map]; exact hv
        refine call_wp hwt hnt hd hlt (run_func hop) rfl (CallSem.mono (CallSem.of f hen (hF g _ w _ ?_ (h.enter hv'))) fun r w' hl => ?_) (Adv.refl g w) hK
        · rw [V.shifts_length, VRs.length _ _ hv', Array.length_toList]
        · cases rm with
          | none => exact Left.back (fun r hr => (h.rt r hr).1) hl hb
          | some base => exact Left.backTake (fun r hr => (h.rt r hr).1) hl hb
      · rename_i hi _; cases hi
      · rename_i hi; cases hi
      · cases hok2
  | @callv d x f caps as rm gd _ F v σc v' σ₁ hg hx hf hm hF hb =>
    simp only [okG, Bool.and_eq_true, Bool.or_eq_true] at hok
    obtain ⟨hok1, hok2⟩ := hok
    have hwt := wanted_of hok1 h hg
    rcases hok2 with hok2 | hok2
    · exact (okI_callv hok2).elim
    · unfold okCall at hok2
      split at hok2
      · rename_i hi _; cases hi
      · rename_i d' x' as' rm' p ps ts hi hop
        cases hi
        simp only [Bool.and_eq_true, decide_eq_true_eq] at hok2
        obtain ⟨⟨⟨hd, hlt⟩, hxp⟩, hxs⟩ := hok2
        have hxv := h.val hxp
        rw [hx] at hxv
        obtain ⟨cs, hpv, hcs⟩ := hxv
        have hv := h.vals hxs
        have hv' : VRs g w σ.O (σ.up.length + 1) (clA f (σ.vals as) caps) (clA f (ps.map (evalT tmps)).toList cs).toArray.toList := by
          rw [Array.toList_map]
          unfold clA
          split
          · exact VRs.append _ _ _ _ hcs hv
          · exact VRs.append _ _ _ _ hv hcs
        refine call_wp hwt hnt hd hlt (run_valueB hop hpv (fnV_some hf).1) rfl (CallSem.mono (CallSem.of (clF f) (hE.fn (clF f) F (fnV_some hf).2) (hF g _ w _ ?_ (h.enter hv'))) fun r w' hl => ?_) (Adv.refl g w) hK
        · rw [V.shifts_length, VRs.length _ _ hv', Array.length_toList]
        · cases rm with
          | none => exact Left.back (fun r hr => (h.rt r hr).1) hl hb
          | some base => exact Left.backTake (fun r hr => (h.rt r hr).1) hl hb
      · rename_i hi; cases hi
      · cases hok2
  | @pcall d f as rm gd _ F ms ws ns v σc v' σ₁ hg hf hm hh hF hb =>
    simp only [okG, Bool.and_eq_true, Bool.or_eq_true] at hok
    obtain ⟨hok1, hok2⟩ := hok
    have hwt := wanted_of hok1 h hg
    rcases hok2 with hok2 | hok2
    · exact (okI_call hok2).elim
    · unfold okCall at hok2
      split at hok2
      · rename_i d' f' as' rm' hhh ps ts hi hop
        cases hi
        simp only [Bool.and_eq_true, decide_eq_true_eq] at hok2
        obtain ⟨⟨⟨hd, hlt⟩, rfl⟩, hxs⟩ := hok2
        have hen := hE.fn f F hf
        have hv := h.vals hxs
        have hv' : VRs g w σ.O (σ.up.length + 1) (σ.vals as) (ps.map (evalT tmps)).toList := by rw [Array.toList_map]; exact hv
        obtain ⟨g1, R1, A1, R2, hlen⟩ := h.pure hh hv'
        refine call_wp (n := (σ.frz ns).up.length) hwt hnt hd hlt (run_func hop) (by rw [St.up_frz]) (CallSem.mono (CallSem.of f hen (hF (g1.call w) [] w _ hlen R2)) fun r w' hl => ?_) A1 hK
        cases rm with
        | none => exact Left.pback R1 hl hb
        | some base => exact Left.pbackTake R1 hl hb
      · rename_i hi _; cases hi
      · rename_i hi; cases hi
      · cases hok2
  | @ext d f as rm gd _ X v' σ₁ hg hf hX hr =>
    simp only [okG, Bool.and_eq_true, Bool.or_eq_true] at hok
    obtain ⟨hok1, hok2⟩ := hok
    have hwt := wanted_of hok1 h hg
    rcases hok2 with hok2 | hok2
    · exact (okI_call hok2).elim
    · unfold okCall at hok2
      split at hok2
      · rename_i d' f' as' rm' hh ps ts hi hop
        cases hi
        simp only [Bool.and_eq_true, decide_eq_true_eq] at hok2
        obtain ⟨⟨⟨hd, hlt⟩, rfl⟩, hxs⟩ := hok2
        have hv := h.vals hxs
        have hv' : VRs g w σ.O (σ.up.length + 1) (σ.vals as) (ps.map (evalT tmps)).toList := by rw [Array.toList_map]; exact hv
        exact call_wp hwt hnt hd hlt (run_func hop) rfl (hE.ext f X hX σ (σ.vals as) rm v' σ₁ g tmps rts w _ hr h hv') (Adv.refl g w) hK
      · rename_i hi _; cases hi
      · rename_i hi; cases hi
      · cases hok2
inductive OkL (P : Program) (nt : Nat) (ops : Array Oper) : List G → List Nat → Prop
  | nil : OkL P nt ops [] []
  | cons {i is j js o} (hj : ops[j]? = some o) (ho : okG P nt ops i o = true) (h : OkL P nt ops is js) : OkL P nt ops (i :: is) (j :: js)
theorem Next.trans {nt n : Nat} {σ₁ σ₂ : St} {ds : List Deferred} {a' : Act} {w1 w2 : World} {g1 : Gh} (A : Adv g w g1 w1) (hn : σ₁.up.length = n) (h : Next g1 w1 rts nt σ₁.up.length σ₂ ds a' w2) : Next g w rts nt n σ₂ ds a' w2 := by
  obtain ⟨g2, tmps2, ha, hs, R, A2, hup⟩ := h
  exact ⟨g2, tmps2, ha, hs, R, A.trans A2, by rw [hup, hn]⟩
end
end Go.Proofs.Ytkhgnkfdpabflaa.Vm
/- Operations that may change places: slots. -/
namespace Go.Proofs.Ytkhgnkfdpabflaa.Vm
open Go
def X.slots : X → List Nat
  | .t n => [n]
  | .c _ => []
def Xo.slots : Option X → List Nat
  | some x => x.slots
  | none => []
def Xs.slots : List X → List Nat
  | [] => []
  | x :: xs => x.slots ++ Xs.slots xs
def I.reads : I → List Nat
  | .mv _ x | .un _ _ x | .cvt _ _ x | .box _ _ x _ | .load _ x _ | .fad _ x _ _ | .fval _ x _ _ | .len _ x | .xt _ x _ | .chk _ x | .clr _ x _ | .stx _ _ x => x.slots
  | .nilr _ _ _ | .alloc _ _ _ | .bad => []
  | .pick _ c a b => c.slots ++ (a.slots ++ b.slots)
  | .bin _ _ x y | .beq _ _ x y | .eqs _ _ _ x y | .store x y _ | .ix _ x y _ | .ixb _ x y _ _ | .ixa _ x y _ _ | .mks _ _ _ x y _ | .app _ _ _ x y | .cpy _ _ x y => x.slots ++ y.slots
  | .bld _ _ ps => Xs.slots (ps.map (·.2.2))
  | .bsl _ _ _ _ _ ps => Xs.slots (ps.map (·.2))
  | .slc _ _ x a b c => x.slots ++ (Xo.slots a ++ (Xo.slots b ++ Xo.slots c))
  | .mx _ x xs | .mn _ x xs | .callv _ x xs _ => x.slots ++ Xs.slots xs
  | .fn _ _ xs | .call _ _ xs _ => Xs.slots xs
def G.reads (i : G) : List Nat := (match i.g with | some (t, _) => [t] | none => []) ++ i.i.reads
section
variable {σ τ : St}
theorem St.get_set_ne {d t : Nat} {v : V} (h : t ≠ d) : (σ.set d v).get t = σ.get t := by rw [St.get_set, if_neg (fun e => h e.symm)]
theorem val_set {d : Nat} {v : V} {x : X} (h : d ∉ x.slots) : (σ.set d v).val x = σ.val x := by
  cases x with
  | t n => exact St.get_set_ne (fun e => h (by simp [X.slots, e]))
  | c _ => rfl
theorem valo_set {d : Nat} {v : V} {x : Option X} (h : d ∉ Xo.slots x) : x.map (σ.set d v).val = x.map σ.val := by
  cases x with
  | none => rfl
  | some x => simp only [Option.map_some]; rw [val_set h]
theorem vals_set {d : Nat} {v : V} : ∀ {xs : List X}, d ∉ Xs.slots xs → (σ.set d v).vals xs = σ.vals xs
  | [], _ => rfl
  | x :: xs, h => by
    simp only [Xs.slots, List.mem_append, not_or] at h
    have := vals_set (v := v) (xs := xs) h.2
    simp only [St.vals, List.map_cons] at this ⊢
    rw [val_set h.1, this]
theorem st_comm {α : Type} (e : α) : ∀ (l : List α) (i j : Nat) (a b : α), i ≠ j → st e (st e l i a) j b = st e (st e l j b) i a
  | [], 0, 0, _, _, h => absurd rfl h
  | [], 0, j + 1, a, b, _ => rfl
  | [], i + 1, 0, a, b, _ => rfl
  | [], i + 1, j + 1, a, b, h => by simp only [st]; rw [st_comm e [] i j a b (by omega)]
  | x :: l, 0, 0, _, _, h => absurd rfl h
  | x :: l, 0, j + 1, a, b, _ => rfl
  | x :: l, i + 1, 0, a, b, _ => rfl
  | x :: l, i + 1, j + 1, a, b, h => by simp only [st]; rw [st_comm e l i j a b (by omega)]
theorem set_comm {d e : Nat} {v x : V} (h : d ≠ e) : (σ.set d v).set e x = (σ.set e x).set d v := by
  simp only [St.set]; rw [st_comm .u σ.sl d e v x h]
theorem setObj_set {d l n : Nat} {v : V} {o : Option Ob} : (σ.set d v).setObj l n o = (σ.setObj l n o).set d v := by cases l <;> rfl
theorem new_set {d n : Nat} {v : V} {o : Ob} : (σ.set d v).new n o = (σ.new n o).map (·.set d v) := by
  unfold St.new
  rw [St.obj_set]
  cases σ.obj 0 n with
  | none => simp [setObj_set]
  | some o => rfl
theorem rowOf_set {d l n lo len : Nat} {v : V} : (σ.set d v).rowOf l n lo len = σ.rowOf l n lo len := by unfold St.rowOf; rw [St.obj_set]
theorem els_set {d s : Nat} {v x : V} : (σ.set d v).els s x = σ.els s x := by
  unfold St.els
  simp only [rowOf_set]
mutual
theorem toT_set {d : Nat} {v : V} : ∀ x : V, (σ.set d v).toT x = σ.toT x
  | .ag cs => by simp only [St.toT, toTs_set cs]
  | .row l n lo len s => by simp only [St.toT, St.obj_set]
  | .d true _ | .d false _ | .dx true _ | .dx false _ | .nil _ | .ptr .. | .rel .. | .pd _ | .tp _ | .cl .. | .u => by simp only [St.toT]
theorem toTs_set {d : Nat} {v : V} : ∀ xs : List V, (σ.set d v).toTs xs = σ.toTs xs
  | [] => by simp only [St.toTs]
  | x :: xs => by simp only [St.toTs, toT_set x, toTs_set xs]
end
theorem frz1_set {d n : Nat} {v : V} : (σ.set d v).frz1 n = (σ.frz1 n).set d v := by
  unfold St.frz1
  rw [St.obj_set]
  split <;> first | exact setObj_set | rfl
theorem frz_set {d : Nat} {v : V} : ∀ (ns : List Nat) {σ : St}, (σ.set d v).frz ns = (σ.frz ns).set d v
  | [], _ => rfl
  | n :: ns, σ => by
    show ((σ.set d v).frz1 n).frz ns = ((σ.frz1 n).frz ns).set d v
    rw [frz1_set]
    exact frz_set ns
theorem load_set {d k : Nat} {v x : V} : (σ.set d v).load x k = σ.load x k := by
  unfold St.load
  simp only [St.obj_set]
theorem ix_set {d s : Nat} {v x i : V} : (σ.set d v).ix x i s = σ.ix x i s := by
  unfold St.ix
  simp only [St.obj_set]
theorem store_set {d k : Nat} {v x y : V} : (σ.set d v).store x y k = (σ.store x y k).map (·.set d v) := by
  unfold St.store
  split
  · simp only [St.obj_set]
    split
    · split
      · simp [setObj_set]
      · rfl
    · rfl
  · simp only [toT_set]
    split
    · simp only [frz_set, St.obj_set]
      split
      · split
        · simp [setObj_set]
        · rfl
      · rfl
    · rfl
  · rfl
theorem zcells_set {d : Nat} {v : V} : ∀ (zs : List Z) {σ : St}, zcells (σ.set d v) zs = (zcells σ zs).map fun p => (p.1, p.2.set d v)
  | [], _ => rfl
  | z :: zs, σ => by
    simp only [zcells]
    rw [zcells_set zs]
    cases zcells σ zs with
    | none => rfl
    | some p =>
      obtain ⟨vs, τ⟩ := p
      simp only [Option.map_some]
      cases z with
      | k t => rfl
      | n s => rfl
      | u => rfl
      | r nm s =>
        simp only [new_set]
        cases τ.new nm (.rw s [] false) <;> rfl
theorem map_set {d e : Nat} {v : V} {o : Option V} (h : d ≠ e) : o.map ((σ.set d v).set e) = (o.map (σ.set e)).map (·.set d v) := by
  cases o with
  | none => rfl
  | some x => simp [set_comm h]
theorem new_map {d e n : Nat} {v x : V} {o : Ob} (h : d ≠ e) : ((σ.set d v).new n o).map (fun σ => σ.set e x) = ((σ.new n o).map (fun σ => σ.set e x)).map (·.set d v) := by
  rw [new_set]
  cases σ.new n o with
  | none => rfl
  | some τ => simp [set_comm h]
theorem step_set {d : Nat} {v : V} {i : I} (hr : d ∉ i.reads) (hd : i.dst ≠ some d) : step (σ.set d v) i = (step σ i).map (·.set d v) := by
  have ne : ∀ e, i.dst = some e → d ≠ e := fun e he h => hd (by rw [he, h])
  cases i with
  | mv e x =>
    simp only [I.reads] at hr
    simp only [step, val_set hr, Option.map_some, set_comm (ne e rfl)]
  | nilr e nm s => simp only [step]; exact new_map (ne e rfl)
  | pick e c a b =>
    simp only [I.reads, List.mem_append, not_or] at hr
    simp only [step, val_set hr.1, val_set hr.2.1, val_set hr.2.2]
    split
    · simp [set_comm (ne e rfl)]
    · rfl
  | bin e op x y =>
    simp only [I.reads, List.mem_append, not_or] at hr
    simp only [step, val_set hr.1, val_set hr.2]
    exact map_set (ne e rfl)
  | beq e n x y =>
    simp only [I.reads, List.mem_append, not_or] at hr
    simp only [step, val_set hr.1, val_set hr.2]
    exact map_set (ne e rfl)
  | eqs e n ks x y =>
    simp only [I.reads, List.mem_append, not_or] at hr
    simp only [step, val_set hr.1, val_set hr.2]
    split
    · cases eqs _ _ _ with
      | none => rfl
      | some b => simp [set_comm (ne e rfl)]
    · rfl
  | un e op x =>
    simp only [I.reads] at hr
    simp only [step, val_set hr]
    exact map_set (ne e rfl)
  | cvt e k x =>
    simp only [I.reads] at hr
    simp only [step, val_set hr]
    split
    · simp [set_comm (ne e rfl)]
    · rfl
  | alloc e nm z =>
    simp only [step, zcells_set]
    cases zcells σ z with
    | none => rfl
    | some p => obtain ⟨cs, τ⟩ := p; simp only [Option.map_some]; exact new_map (ne e rfl)
  | box e nm x k =>
    simp only [I.reads] at hr
    simp only [step, val_set hr]
    split
    · exact new_map (ne e rfl)
    · rfl
  | load e x k =>
    simp only [I.reads] at hr
    simp only [step, val_set hr, load_set]
    exact map_set (ne e rfl)
  | store x y k =>
    simp only [I.reads, List.mem_append, not_or] at hr
    simp only [step, val_set hr.1, val_set hr.2]
    exact store_set
  | fad e x off k =>
    simp only [I.reads] at hr
    simp only [step, val_set hr]
    exact map_set (ne e rfl)
  | fval e x off k =>
    simp only [I.reads] at hr
    simp only [step, val_set hr]
    split
    · exact map_set (ne e rfl)
    · rfl
  | ix e x j s =>
    simp only [I.reads, List.mem_append, not_or] at hr
    simp only [step, val_set hr.1, val_set hr.2, ix_set]
    exact map_set (ne e rfl)
  | ixb e x j n s =>
    simp only [I.reads, List.mem_append, not_or] at hr
    simp only [step, val_set hr.1, val_set hr.2]
    split
    · cases natOf _ _ with
      | none => rfl
      | some b => simp [set_comm (ne e rfl)]
    · rfl
  | stx e bs x => simp only [I.reads] at hr; simp only [step, val_set hr]; exact map_set (ne e rfl)
  | ixa e x j n k =>
    simp only [I.reads, List.mem_append, not_or] at hr
    simp only [step, val_set hr.1, val_set hr.2]
    split
    · exact map_set (ne e rfl)
    · rfl
  | bld e z ps =>
    simp only [I.reads] at hr
    simp only [step]
    have hp : (ps.map fun (o, w, x) => (o, w, (σ.set d v).val x)) = ps.map fun (o, w, x) => (o, w, σ.val x) := by
      refine List.map_congr_left fun p hp => ?_
      obtain ⟨o, w, x⟩ := p
      have : d ∉ x.slots := fun hx => hr (by
        clear ne hd hr
        induction ps with
        | nil => cases hp
        | cons q ps ih =>
          simp only [List.map_cons, Xs.slots, List.mem_append]
          rcases List.mem_cons.1 hp with rfl | hp
          · exact .inl hx
          · exact .inr (ih hp))
      simp only [val_set this]
    rw [hp]
    split
    · cases fill _ _ with
      | none => rfl
      | some b => simp [set_comm (ne e rfl)]
    · rfl
  | bsl e nm s n z ps =>
    simp only [I.reads] at hr
    simp only [step]
    have hp : (ps.map fun p => (σ.set d v).val p.2) = ps.map fun p => σ.val p.2 := by
      refine List.map_congr_left fun p hp => ?_
      have : d ∉ p.2.slots := fun hx => hr (by
        clear ne hd hr
        induction ps with
        | nil => cases hp
        | cons q ps ih =>
          simp only [List.map_cons, Xs.slots, List.mem_append]
          rcases List.mem_cons.1 hp with rfl | hp
          · exact .inl hx
          · exact .inr (ih hp))
      rw [val_set this]
    rw [hp, toTs_set]
    split
    · split
      · rw [frz_set]; exact new_map (ne e rfl)
      · rfl
    · rfl
  | mks e nm s n c z =>
    simp only [I.reads, List.mem_append, not_or] at hr
    simp only [step, val_set hr.1, val_set hr.2]
    split
    · split
      · exact new_map (ne e rfl)
      · rfl
    · rfl
  | slc e s x lo hi mx =>
    simp only [I.reads, List.mem_append, not_or] at hr
    simp only [step, val_set hr.1, valo_set hr.2.1, valo_set hr.2.2.1, valo_set hr.2.2.2]
    exact map_set (ne e rfl)
  | len e x =>
    simp only [I.reads] at hr
    simp only [step, val_set hr]
    cases lenOf _ with
    | none => rfl
    | some n => simp [set_comm (ne e rfl)]
  | mx e x xs =>
    simp only [I.reads, List.mem_append, not_or] at hr
    simp only [step, val_set hr.1, vals_set hr.2]
    exact map_set (ne e rfl)
  | mn e x xs =>
    simp only [I.reads, List.mem_append, not_or] at hr
    simp only [step, val_set hr.1, vals_set hr.2]
    exact map_set (ne e rfl)
  | app e nm s x y =>
    simp only [I.reads, List.mem_append, not_or] at hr
    simp only [step, val_set hr.1, val_set hr.2]
    unfold St.app
    rw [els_set]
    split
    · rfl
    · split
      · split
        · exact new_map (ne e rfl)
        · rfl
      · split
        · exact new_map (ne e rfl)
        · rfl
      · rw [St.obj_set]
        split
        · split
          · split
            · simp [setObj_set, set_comm (ne e rfl)]
            · rfl
          · rfl
        · rfl
      · rfl
  | cpy e s x y =>
    simp only [I.reads, List.mem_append, not_or] at hr
    simp only [step, val_set hr.1, val_set hr.2]
    unfold St.cpy
    rw [els_set]
    split
    · simp only [St.obj_set]
      split
      · split
        · split
          · simp [setObj_set, set_comm (ne e rfl)]
          · rfl
        · rfl
      · rfl
    · rfl
  | clr s x z =>
    simp only [I.reads] at hr
    simp only [step, val_set hr]
    cases z.t? with
    | none => rfl
    | some t =>
      simp only [Option.bind_some]
      unfold St.clr
      split
      · simp only [St.obj_set]
        split
        · split
          · split
            · simp [setObj_set]
            · rfl
          · rfl
        · rfl
      · rfl
      · rfl
  | xt e x j =>
    simp only [I.reads] at hr
    simp only [step, val_set hr]
    split
    · exact map_set (ne e rfl)
    · rfl
  | fn e f xs =>
    simp only [I.reads] at hr
    simp only [step, vals_set hr, Option.map_some, set_comm (ne e rfl)]
  | chk e x =>
    simp only [I.reads] at hr
    simp only [step, val_set hr]
    cases chkV (σ.val x) with
    | none => rfl
    | some v => simp [set_comm (ne e rfl)]
  | call => rfl
  | callv => rfl
  | bad => rfl
end
end Go.Proofs.Ytkhgnkfdpabflaa.Vm
/- Operations that may change places: what is read. -/
namespace Go.Proofs.Ytkhgnkfdpabflaa.Vm
open Go
def St.boxOf (σ : St) (l n : Nat) : Option (List V) := match σ.obj l n with
  | some (.box cs) => some cs
  | _ => none
def St.relOf (σ : St) (l n i : Nat) : Option T := match σ.obj l n with
  | some (.rw _ es _) | some (.fz _ es) => es[i]?
  | _ => none
mutual
def SimV (σ τ : St) : V → Prop
  | .row l n lo len _ => τ.rowOf l n lo len = σ.rowOf l n lo len
  | .ptr l n _ => τ.boxOf l n = σ.boxOf l n
  | .rel l n i _ => τ.relOf l n i = σ.relOf l n i
  | .ag cs => SimVs σ τ cs
  | _ => True
def SimVs (σ τ : St) : List V → Prop
  | [] => True
  | v :: vs => SimV σ τ v ∧ SimVs σ τ vs
end
mutual
def V.plain : V → Bool
  | .row .. | .ptr .. | .rel .. => false
  | .ag cs => V.plains cs
  | _ => true
def V.plains : List V → Bool
  | [] => true
  | v :: vs => V.plain v && V.plains vs
end
def X.plain : X → Bool
  | .t _ => true
  | .c v => v.plain
def I.isN : I → Bool
  | .mv .. | .pick .. | .bin .. | .beq .. | .eqs .. | .un .. | .cvt .. | .fad .. | .fval .. | .ixb .. | .ixa .. | .stx .. | .bld .. | .slc .. | .len .. | .mx .. | .mn .. | .xt .. | .fn .. | .chk .. => true
  | _ => false
def I.isR : I → Bool
  | .load _ x _ => x.plain
  | .ix _ x _ _ => x.plain
  | _ => false
def I.isP (E : Env) : I → Bool
  | .call _ f as none => as.all X.plain && (match E.fn f with
    | some F => (match F.pure with
      | some ms => ms.all (! ·)
      | none => false)
    | none => false)
  | _ => false
section
variable {σ τ : St}
mutual
theorem V.plain_sim : ∀ v : V, v.plain = true → SimV σ τ v
  | .row .., h | .ptr .., h | .rel .., h => by simp [V.plain] at h
  | .ag cs, h => V.plains_sim cs (by simpa [V.plain] using h)
  | .d .., _ | .dx .., _ | .nil _, _ | .pd _, _ | .tp _, _ | .cl .., _ | .u, _ => trivial
theorem V.plains_sim : ∀ vs : List V, V.plains vs = true → SimVs σ τ vs
  | [], _ => trivial
  | v :: vs, h => by
    simp only [V.plains, Bool.and_eq_true] at h
    exact ⟨V.plain_sim v h.1, V.plains_sim vs h.2⟩
end
def evN (σ : St) : I → Option V
  | .mv _ x => some (σ.val x)
  | .pick _ c a b => match σ.val c with
    | .d _ (.bool t) => some (if t then σ.val a else σ.val b)
    | _ => none
  | .bin _ op x y => bin op (σ.val x) (σ.val y)
  | .beq _ ne x y => beq ne (σ.val x) (σ.val y)
  | .eqs _ ne ks x y => match σ.val x, σ.val y with
    | .ag as, .ag bs => (eqs ks as bs).map fun b => dBool (b != ne)
    | _, _ => none
  | .un _ op x => un op (σ.val x)
  | .cvt _ k x => match σ.val x with
    | .d _ (.int _ n) => some (.d true (.int k (k.wrap n)))
    | _ => none
  | .load _ x w => σ.load (σ.val x) w
  | .fad _ x off w => fad (σ.val x) off w
  | .fval _ x off w => match σ.val x with
    | .ag cs => (sub? off (wid w) cs).bind (ofCells w)
    | _ => none
  | .ix _ x i s => σ.ix (σ.val x) (σ.val i) s
  | .ixb _ x i n s => match σ.val x with
    | .ptr l m off => (natOf n (σ.val i)).map fun j => .ptr l m (off + j * s)
    | _ => none
  | .ixa _ x i n w => match σ.val x with
    | .ag cs => (natOf n (σ.val i)).bind fun j => (sub? (j * wid w) (wid w) cs).bind (ofCells w)
    | _ => none
  | .stx _ bs i => Vm.stx bs (σ.val i)
  | .bld _ z ps => match z.mapM Z.v with
    | some cs => (fill cs (ps.map fun (o, w, x) => (o, w, σ.val x))).map .ag
    | none => none
  | .slc _ s x lo hi mx => St.slc s (σ.val x) (lo.map σ.val) (hi.map σ.val) (mx.map σ.val)
  | .len _ x => (lenOf (σ.val x)).map fun (n : Nat) => dInt (n : Int)
  | .mx _ x xs => maxOf true (σ.val x) (σ.vals xs)
  | .mn _ x xs => maxOf false (σ.val x) (σ.vals xs)
  | .xt _ x i => match σ.val x with
    | .tp vs => vs[i]?
    | _ => none
  | .fn _ f caps => some (.cl f (σ.vals caps))
  | .chk _ x => chkV (σ.val x)
  | _ => none
theorem step_evN {i : I} (h : i.isN = true ∨ i.isR = true) : ∃ d, i.dst = some d ∧ step σ i = (evN σ i).map (σ.set d) := by
  cases i with
  | pick d c a b => exact ⟨d, rfl, by simp only [step, evN]; split <;> split <;> simp_all <;> rfl⟩
  | eqs d n ks x y => exact ⟨d, rfl, by simp only [step, evN]; split <;> split <;> simp_all <;> rfl⟩
  | cvt d k x => exact ⟨d, rfl, by simp only [step, evN]; split <;> split <;> simp_all <;> rfl⟩
  | fval d x off k => exact ⟨d, rfl, by simp only [step, evN]; split <;> split <;> simp_all <;> rfl⟩
  | ixb d x j n s => exact ⟨d, rfl, by simp only [step, evN]; split <;> split <;> simp_all <;> rfl⟩
  | ixa d x j n k => exact ⟨d, rfl, by simp only [step, evN]; split <;> split <;> simp_all <;> rfl⟩
  | bld d z ps => exact ⟨d, rfl, by simp only [step, evN]; split <;> split <;> simp_all <;> rfl⟩
  | len d x => exact ⟨d, rfl, by simp only [step, evN]; cases lenOf (σ.val x) <;> rfl⟩
  | xt d x j => exact ⟨d, rfl, by simp only [step, evN]; split <;> split <;> simp_all <;> rfl⟩
  | chk d x => exact ⟨d, rfl, rfl⟩
  | mv d x => exact ⟨d, rfl, rfl⟩
  | stx d bs x => exact ⟨d, rfl, rfl⟩
  | bin d op x y => exact ⟨d, rfl, rfl⟩
  | beq d op x y => exact ⟨d, rfl, rfl⟩
  | un d op x => exact ⟨d, rfl, rfl⟩
  | load d x k => exact ⟨d, rfl, rfl⟩
  | fad d x o k => exact ⟨d, rfl, rfl⟩
  | ix d x j s => exact ⟨d, rfl, rfl⟩
  | slc d s x a b c => exact ⟨d, rfl, rfl⟩
  | mx d x xs => exact ⟨d, rfl, rfl⟩
  | mn d x xs => exact ⟨d, rfl, rfl⟩
  | fn d f xs => exact ⟨d, rfl, rfl⟩
  | _ => simp [I.isN, I.isR] at h
theorem val_agr {x : X} (h : ∀ t ∈ x.slots, τ.get t = σ.get t) : τ.val x = σ.val x := by
  cases x with
  | t n => exact h n (by simp [X.slots])
  | c _ => rfl
theorem valo_agr {x : Option X} (h : ∀ t ∈ Xo.slots x, τ.get t = σ.get t) : x.map τ.val = x.map σ.val := by
  cases x with
  | none => rfl
  | some x => simp only [Option.map_some]; rw [val_agr h]
theorem vals_agr : ∀ {xs : List X}, (∀ t ∈ Xs.slots xs, τ.get t = σ.get t) → τ.vals xs = σ.vals xs
  | [], _ => rfl
  | x :: xs, h => by
    have := vals_agr (xs := xs) fun t ht => h t (by simp [Xs.slots, ht])
    simp only [St.vals, List.map_cons] at this ⊢
    rw [this, val_agr fun t ht => h t (by simp [Xs.slots, ht])]
theorem load_box {l n off k : Nat} : σ.load (.ptr l n off) k = match σ.boxOf l n with
    | some cs => (match sub? off (wid k) cs with
      | some cs => ofCells k (V.shifts l cs)
      | none => none)
    | none => none := by
  simp only [St.load, St.boxOf]
  cases σ.obj l n with
  | none => rfl
  | some o => cases o <;> rfl
theorem load_rel {l n i off k : Nat} : σ.load (.rel l n i off) k = match σ.relOf l n i with
    | some t => (match sub? off (wid k) t.cells with
      | some cs => ofCells k (cs.map (.d true))
      | none => none)
    | none => none := by
  simp only [St.load, St.relOf]
  cases σ.obj l n with
  | none => rfl
  | some o => cases o <;> rfl
theorem load_sim {v : V} {k : Nat} (h : SimV σ τ v) : τ.load v k = σ.load v k := by
  cases v with
  | ptr l n off => simp only [SimV] at h; rw [load_box, load_box, h]
  | rel l n i off => simp only [SimV] at h; rw [load_rel, load_rel, h]
  | _ => rfl
theorem ix_row {l n lo len s' s : Nat} {i : V} : σ.ix (.row l n lo len s') i s = if s = s' then (natOf len i).bind fun j => (σ.rowOf l n lo len).map fun _ => .rel l n (lo + j) 0 else none := by
  simp only [St.ix, St.rowOf]
  split
  · congr 1
    funext j
    cases σ.obj l n with
    | none => rfl
    | some o =>
      cases o with
      | box cs => rfl
      | rw s es gr => simp only; split <;> rfl
      | fz s es => simp only; split <;> rfl
      | gone => rfl
  · rfl
theorem ix_sim {v i : V} {s : Nat} (h : SimV σ τ v) : τ.ix v i s = σ.ix v i s := by
  cases v with
  | row l n lo len s' => simp only [SimV] at h; rw [ix_row, ix_row, h]
  | d p t => cases t <;> rfl
  | dx p t => cases t <;> rfl
  | _ => rfl
theorem lend1_sim {v : V} (h : SimV σ τ v) : τ.lend1 v = σ.lend1 v := by
  unfold St.lend1
  cases v with
  | row l n lo len s => simp only [SimV] at h; simp only [h]
  | d p t => cases t <;> rfl
  | dx p t => cases t <;> rfl
  | cl f cs => cases cs <;> rfl
  | _ => rfl
theorem lends_sim : ∀ {vs : List V}, SimVs σ τ vs → τ.lends vs = σ.lends vs
  | [], _ => rfl
  | v :: vs, h => by simp only [St.lends, lend1_sim h.1, lends_sim h.2]
theorem lend_sim {v : V} (h : SimV σ τ v) : τ.lend v = σ.lend v := by
  cases v with
  | ag cs => simp only [St.lend]; rw [lends_sim h]
  | _ => simp only [St.lend]; exact lend1_sim h
theorem hand_sim : ∀ {vs : List V} {ms : List Bool}, ms.all (! ·) = true → SimVs σ τ vs → τ.hand vs ms = σ.hand vs ms
  | [], [], _, _ => rfl
  | [], _ :: _, _, _ => rfl
  | _ :: _, [], _, _ => rfl
  | v :: vs, m :: ms, hm, h => by
    simp only [List.all_cons, Bool.and_eq_true] at hm
    cases m with
    | true => cases hm.1
    | false => simp only [St.hand, hand_sim hm.2 h.2, lend_sim h.1]
theorem hand_none : ∀ {vs : List V} {ms : List Bool} {ws : List V} {ns : List Nat}, ms.all (! ·) = true → σ.hand vs ms = some (ws, ns) → ns = []
  | [], [], ws, ns, _, e => by simp only [St.hand, Option.some.injEq, Prod.mk.injEq] at e; exact e.2.symm
  | [], _ :: _, _, _, _, e => by simp [St.hand] at e
  | _ :: _, [], _, _, _, e => by simp [St.hand] at e
  | v :: vs, m :: ms, ws, ns, hm, e => by
    simp only [List.all_cons, Bool.and_eq_true] at hm
    cases m with
    | true => cases hm.1
    | false =>
      simp only [St.hand] at e
      split at e
      · cases e
      · rename_i ws1 ns1 e1
        obtain ⟨w1, _, e2⟩ := map_some e
        simp only [Prod.mk.injEq] at e2
        obtain ⟨_, rfl⟩ := e2
        exact hand_none hm.2 e1
theorem vals_sim : ∀ {xs : List X}, xs.all X.plain = true → (∀ t ∈ Xs.slots xs, SimV σ τ (σ.get t)) → SimVs σ τ (σ.vals xs)
  | [], _, _ => trivial
  | x :: xs, hp, h => by
    simp only [List.all_cons, Bool.and_eq_true] at hp
    refine ⟨?_, vals_sim (xs := xs) hp.2 fun t ht => h t (by simp [Xs.slots, ht])⟩
    cases x with
    | t n => exact h n (by simp [Xs.slots, X.slots])
    | c v => exact V.plain_sim v hp.1
theorem evN_stable {i : I} (h : i.isN = true ∨ i.isR = true) (ha : ∀ t ∈ i.reads, τ.get t = σ.get t) (hs : i.isR = true → ∀ t ∈ i.reads, SimV σ τ (σ.get t)) : evN τ i = evN σ i := by
  have two : ∀ {a b : List Nat}, (∀ t ∈ a ++ b, τ.get t = σ.get t) → (∀ t ∈ a, τ.get t = σ.get t) ∧ ∀ t ∈ b, τ.get t = σ.get t := fun h => ⟨fun t ht => h t (List.mem_append_left _ ht), fun t ht => h t (List.mem_append_right _ ht)⟩
  cases i with
  | mv d x => simp only [evN, val_agr ha]
  | un d op x => simp only [evN, val_agr ha]
  | cvt d k x => simp only [evN, val_agr ha]
  | fad d x o k => simp only [evN, val_agr ha]
  | fval d x o k => simp only [evN, val_agr ha]
  | len d x => simp only [evN, val_agr ha]
  | xt d x j => simp only [evN, val_agr ha]
  | chk d x => simp only [evN, val_agr ha]
  | fn d f xs => simp only [evN, vals_agr ha]
  | load d x k =>
    have hx : SimV σ τ (σ.val x) := by
      cases x with
      | t n => exact hs (by simp [I.isR, X.plain]) n (by simp [I.reads, X.slots])
      | c v =>
        rcases h with h | h
        · cases h
        · exact V.plain_sim v h
    simp only [evN, val_agr ha, load_sim hx]
  | pick d c a b => obtain ⟨h1, h2⟩ := two ha; obtain ⟨h2, h3⟩ := two h2; simp only [evN, val_agr h1, val_agr h2, val_agr h3]
  | bin d op x y => obtain ⟨h1, h2⟩ := two ha; simp only [evN, val_agr h1, val_agr h2]
  | beq d op x y => obtain ⟨h1, h2⟩ := two ha; simp only [evN, val_agr h1, val_agr h2]
  | eqs d op ks x y => obtain ⟨h1, h2⟩ := two ha; simp only [evN, val_agr h1, val_agr h2]
  | ix d x j s =>
    obtain ⟨h1, h2⟩ := two ha
    have hx : SimV σ τ (σ.val x) := by
      cases x with
      | t n => exact hs (by simp [I.isR, X.plain]) n (by simp [I.reads, X.slots])
      | c v =>
        rcases h with h | h
        · cases h
        · exact V.plain_sim v h
    simp only [evN, val_agr h1, val_agr h2, ix_sim hx]
  | ixb d x j n s => obtain ⟨h1, h2⟩ := two ha; simp only [evN, val_agr h1, val_agr h2]
  | ixa d x j n k => obtain ⟨h1, h2⟩ := two ha; simp only [evN, val_agr h1, val_agr h2]
  | stx d bs x => simp only [I.reads] at ha; simp only [evN, val_agr ha]
  | slc d s x a b c => obtain ⟨h1, h2⟩ := two ha; obtain ⟨h2, h3⟩ := two h2; obtain ⟨h3, h4⟩ := two h3; simp only [evN, val_agr h1, valo_agr h2, valo_agr h3, valo_agr h4]
  | mx d x xs => obtain ⟨h1, h2⟩ := two ha; simp only [evN, val_agr h1, vals_agr h2]
  | mn d x xs => obtain ⟨h1, h2⟩ := two ha; simp only [evN, val_agr h1, vals_agr h2]
  | bld d z ps =>
    have hp : (ps.map fun (o, w, x) => (o, w, τ.val x)) = ps.map fun (o, w, x) => (o, w, σ.val x) := by
      refine List.map_congr_left fun p hp => ?_
      obtain ⟨o, w, x⟩ := p
      have : ∀ t ∈ x.slots, τ.get t = σ.get t := fun t ht => ha t (by
        simp only [I.reads]
        clear ha h hs two
        induction ps with
        | nil => cases hp
        | cons q ps ih =>
          simp only [List.map_cons, Xs.slots, List.mem_append]
          rcases List.mem_cons.1 hp with rfl | hp
          · exact .inl ht
          · exact .inr (ih hp))
      simp only [val_agr this]
    simp only [evN, hp]
  | _ => simp [I.isN, I.isR] at h
end
end Go.Proofs.Ytkhgnkfdpabflaa.Vm
/- Operations that may change places. -/
namespace Go.Proofs.Ytkhgnkfdpabflaa.Vm
open Go
def I.isW : I → Bool
  | .nilr .. | .alloc .. | .box .. | .bsl .. | .mks .. | .app .. => true
  | _ => false
def I.isNR (E : Env) (i : I) : Bool := i.isN || i.isR || i.isP E
def I.isNRW (E : Env) (i : I) : Bool := i.isNR E || i.isW
def sep (x y : G) : Bool :=
  (match x.i.dst with | some d => !y.reads.contains d && decide (y.i.dst ≠ some d) | none => true) &&
  (match y.i.dst with | some e => !x.reads.contains e | none => true)
def com (E : Env) (x y : G) : Bool := sep x y && ((x.i.isN || (x.i.isNR E && y.i.isNRW E)) || (y.i.isN || (y.i.isNR E && x.i.isNRW E)))
section
variable {P : Program} {E : Env} {σ τ : St}
theorem wants_set {d : Nat} {v : V} {g : Option (Nat × Bool)} (h : ∀ t b, g = some (t, b) → t ≠ d) : (σ.set d v).wants g = σ.wants g := by
  cases g with
  | none => rfl
  | some p => obtain ⟨t, b⟩ := p; simp only [St.wants]; rw [St.get_set_ne (h t b rfl)]
theorem wants_agr {g : Option (Nat × Bool)} (h : ∀ t b, g = some (t, b) → τ.get t = σ.get t) : τ.wants g = σ.wants g := by
  cases g with
  | none => rfl
  | some p => obtain ⟨t, b⟩ := p; simp only [St.wants]; rw [h t b rfl]
theorem lend1_set {d : Nat} {v x : V} : (σ.set d v).lend1 x = σ.lend1 x := by unfold St.lend1; simp only [rowOf_set]
theorem lends_set {d : Nat} {v : V} : ∀ xs : List V, (σ.set d v).lends xs = σ.lends xs
  | [] => rfl
  | x :: xs => by simp only [St.lends, lend1_set, lends_set xs]
theorem lend_set {d : Nat} {v x : V} : (σ.set d v).lend x = σ.lend x := by
  cases x with
  | ag cs => simp only [St.lend, lends_set]
  | _ => simp only [St.lend]; exact lend1_set
theorem hand_set {d : Nat} {v : V} : ∀ (xs : List V) (ms : List Bool), (σ.set d v).hand xs ms = σ.hand xs ms
  | [], [] => rfl
  | [], _ :: _ => rfl
  | _ :: _, [] => rfl
  | x :: xs, m :: ms => by
    simp only [St.hand, hand_set xs ms, lend_set, toT_set]
theorem leave_set {d : Nat} {v : V} {p : Bool} {σc : St} : leave p (σ.set d v) σc = (leave p σ σc).map (·.set d v) := by
  unfold leave
  cases p with
  | true => rfl
  | false =>
    simp only [Bool.false_eq_true, if_false]
    cases σc.up <;> rfl
theorem if_map {α β : Type} {c : Prop} [Decidable c] {f : α → β} {a b : Option α} {a' b' : Option β} (h1 : a' = a.map f) (h2 : b' = b.map f) : (if c then a' else b') = (if c then a else b).map f := by
  subst h1; subst h2
  split <;> rfl
theorem merge_set {d : Nat} {v x : V} {σc σ₁ : St} {m : Nat} : merge (σ₁.set d v) σc x m = (merge σ₁ σc x m).map fun q => (q.1, q.2.set d v) := by
  unfold merge
  refine if_map ?_ ?_ <;> rfl
theorem back_some {x : V} {p : Bool} {σc σ₁ : St} {base : Nat} (hx : leave p σ σc = some σ₁) : back p σ σc x (some base) = if (!p && isMrg base) = true then merge σ₁ σc x base else (take p σc x (σ₁.ob, base, [])).map fun r => (r.1, { σ₁ with ob := r.2.1 }) := by
  unfold back
  rw [hx]
theorem take_set {d : Nat} {v x : V} {p : Bool} {σc σ₁ : St} {base : Nat} : Option.map (fun r => (r.1, { σ₁.set d v with ob := r.2.1 })) (take p σc x ((σ₁.set d v).ob, base, [])) = ((take p σc x (σ₁.ob, base, [])).map fun r => (r.1, { σ₁ with ob := r.2.1 })).map fun q => (q.1, q.2.set d v) := by
  rw [show (σ₁.set d v).ob = σ₁.ob from rfl]
  cases take p σc x (σ₁.ob, base, []) <;> rfl
theorem back_set {d : Nat} {v x : V} {p : Bool} {σc : St} {rm : Option Nat} : back p (σ.set d v) σc x rm = (back p σ σc x rm).map fun q => (q.1, q.2.set d v) := by
  cases hx : leave p σ σc with
  | none =>
    unfold back
    rw [leave_set, hx]
    rfl
  | some σ₁ =>
    cases rm with
    | none =>
      unfold back
      rw [leave_set, hx]
      simp only [Option.map_some]
      cases dat p σc x <;> rfl
    | some base =>
      rw [back_some hx, back_some (σ := σ.set d v) (by rw [leave_set, hx]; rfl)]
      exact if_map (merge_set (d := d) (v := v)) (take_set (d := d) (v := v))
theorem op1_set {d : Nat} {v : V} {y : G} (hX : ∀ f X, E.ext f = some X → ∀ σ d v as rm, X (σ.set d v) as rm = (X σ as rm).map fun p => (p.1, p.2.set d v))
    (hr : d ∉ y.reads) (hd : y.i.dst ≠ some d) (h : Op1 P E σ y τ) : Op1 P E (σ.set d v) y (τ.set d v) := by
  obtain ⟨i, g⟩ := y
  simp only [G.reads, List.mem_append, not_or] at hr
  have hw : ∀ σ : St, (σ.set d v).wants g = σ.wants g := fun σ => wants_set fun t b hg e => hr.1 (by rw [hg]; simp [e])
  cases h with
  | step hg hs => exact .step (by rw [hw]; exact hg) (by rw [step_set hr.2 hd, hs]; rfl)
  | skip hg =>
    have : (σ.skip i).set d v = (σ.set d v).skip i := by
      unfold St.skip
      cases hi : i.dst with
      | none => rfl
      | some e => exact (set_comm (fun he => hd (by rw [hi, he]))).symm
    rw [this]
    exact .skip (by rw [hw]; exact hg)
  | @call e f as rm _ _ F rv σc x σ₁ hg hf hm hF hb =>
    have hne : d ≠ e := fun he => hd (by rw [he]; rfl)
    rw [← set_comm hne]
    exact .call (by rw [hw]; exact hg) hf hm (by rw [vals_set hr.2]; exact hF) (by rw [back_set, hb]; rfl)
  | @callv e y f caps as rm _ _ F rv σc x σ₁ hg hx hf hm hF hb =>
    have hne : d ≠ e := fun he => hd (by rw [he]; rfl)
    have hr2 := hr.2
    simp only [I.reads, List.mem_append, not_or] at hr2
    rw [← set_comm hne]
    exact .callv (by rw [hw]; exact hg) (by rw [val_set hr2.1]; exact hx) hf hm (by rw [vals_set hr2.2]; exact hF) (by rw [back_set, hb]; rfl)
  | @pcall e f as rm _ _ F ms ws ns rv σc x σ₁ hg hf hm hh hF hb =>
    have hne : d ≠ e := fun he => hd (by rw [he]; rfl)
    rw [← set_comm hne]
    exact .pcall (by rw [hw]; exact hg) hf hm (by rw [vals_set hr.2, hand_set]; exact hh) hF (by rw [frz_set, back_set, hb]; rfl)
  | @ext e f as rm _ _ X x σ₁ hg hf hX1 hx =>
    have hne : d ≠ e := fun he => hd (by rw [he]; rfl)
    rw [← set_comm hne]
    exact .ext (by rw [hw]; exact hg) hf hX1 (by rw [vals_set hr.2, hX f X hX1, hx]; rfl)
theorem op1_unset {d : Nat} {v : V} {y : G} {σ₂ : St} (hX : ∀ f X, E.ext f = some X → ∀ σ d v as rm, X (σ.set d v) as rm = (X σ as rm).map fun p => (p.1, p.2.set d v))
    (hr : d ∉ y.reads) (hd : y.i.dst ≠ some d) (h : Op1 P E (σ.set d v) y σ₂) : ∃ τ, Op1 P E σ y τ ∧ σ₂ = τ.set d v := by
  obtain ⟨i, g⟩ := y
  simp only [G.reads, List.mem_append, not_or] at hr
  have hw : ∀ σ : St, (σ.set d v).wants g = σ.wants g := fun σ => wants_set fun t b hg e => hr.1 (by rw [hg]; simp [e])
  have hback : ∀ {p : Bool} {σc : St} {rv x : V} {rm : Option Nat} {σ₁ : St} {σ : St}, back p (σ.set d v) σc rv rm = some (x, σ₁) → ∃ σ₂, back p σ σc rv rm = some (x, σ₂) ∧ σ₁ = σ₂.set d v := fun hb => by
    rw [back_set] at hb
    obtain ⟨⟨a, b⟩, h1, h2⟩ := map_some hb
    simp only [Prod.mk.injEq] at h2
    obtain ⟨rfl, rfl⟩ := h2
    exact ⟨b, h1, rfl⟩
  cases h with
  | step hg hs =>
    rw [step_set hr.2 hd] at hs
    obtain ⟨τ, h1, rfl⟩ := map_some hs
    exact ⟨τ, .step (by rw [← hw]; exact hg) h1, rfl⟩
  | skip hg =>
    refine ⟨σ.skip i, .skip (by rw [← hw]; exact hg), ?_⟩
    unfold St.skip
    cases hi : i.dst with
    | none => rfl
    | some e => exact set_comm (fun he => hd (by rw [hi, he]))
  | @call e f as rm _ _ F rv σc x σ₁ hg hf hm hF hb =>
    have hne : d ≠ e := fun he => hd (by rw [he]; rfl)
    obtain ⟨σ₂, hb2, rfl⟩ := hback hb
    exact ⟨σ₂.set e x, .call (by rw [← hw]; exact hg) hf hm (by rw [vals_set hr.2] at hF; exact hF) hb2, set_comm hne⟩
  | @callv e y f caps as rm _ _ F rv σc x σ₁ hg hx hf hm hF hb =>
    have hne : d ≠ e := fun he => hd (by rw [he]; rfl)
    have hr2 := hr.2
    simp only [I.reads, List.mem_append, not_or] at hr2
    obtain ⟨σ₂, hb2, rfl⟩ := hback hb
    exact ⟨σ₂.set e x, .callv (by rw [← hw]; exact hg) (by rw [val_set hr2.1] at hx; exact hx) hf hm (by rw [vals_set hr2.2] at hF; exact hF) hb2, set_comm hne⟩
  | @pcall e f as rm _ _ F ms ws ns rv σc x σ₁ hg hf hm hh hF hb =>
    have hne : d ≠ e := fun he => hd (by rw [he]; rfl)
    rw [frz_set] at hb
    obtain ⟨σ₂, hb2, rfl⟩ := hback hb
    exact ⟨σ₂.set e x, .pcall (by rw [← hw]; exact hg) hf hm (by rw [vals_set hr.2, hand_set] at hh; exact hh) hF hb2, set_comm hne⟩
  | @ext e f as rm _ _ X x σ₁ hg hf hX1 hx =>
    have hne : d ≠ e := fun he => hd (by rw [he]; rfl)
    rw [vals_set hr.2, hX f X hX1] at hx
    obtain ⟨⟨a, b⟩, h1, h2⟩ := map_some hx
    simp only [Prod.mk.injEq] at h2
    obtain ⟨rfl, rfl⟩ := h2
    exact ⟨b.set e a, .ext (by rw [← hw]; exact hg) hf hX1 h1, set_comm hne⟩
theorem op1_stable {i : I} {g : Option (Nat × Bool)} {σ' : St} (hk : i.isNR E = true) (h : Op1 P E σ ⟨i, g⟩ σ') (ha : ∀ t ∈ G.reads ⟨i, g⟩, τ.get t = σ.get t)
    (hs : i.isN = false → ∀ t ∈ i.reads, SimV σ τ (σ.get t)) : ∃ d v, i.dst = some d ∧ σ' = σ.set d v ∧ Op1 P E τ ⟨i, g⟩ (τ.set d v) := by
  have ha2 : ∀ t ∈ i.reads, τ.get t = σ.get t := fun t ht => ha t (by simp [G.reads, ht])
  have hw : τ.wants g = σ.wants g := wants_agr fun t b hg => ha t (by simp [G.reads, hg])
  simp only [I.isNR, Bool.or_eq_true] at hk
  have notN : i.isR = true → i.isN = false := fun h => by cases i <;> first | rfl | (simp [I.isR] at h; done)
  cases h with
  | step hg hst =>
    have hk' : i.isN = true ∨ i.isR = true := by
      rcases hk with hk | hk
      · exact hk
      · cases i <;> first | (simp [I.isP] at hk; done) | (simp [step] at hst; done)
    obtain ⟨d, hd, he⟩ := step_evN (σ := σ) hk'
    obtain ⟨d', hd', he'⟩ := step_evN (σ := τ) hk'
    rw [hd] at hd'; cases hd'
    rw [he] at hst
    obtain ⟨v, hv, rfl⟩ := map_some hst
    refine ⟨d, v, hd, rfl, .step (by rw [hw]; exact hg) ?_⟩
    rw [he', evN_stable hk' ha2 fun hR => hs (notN hR), hv]
    rfl
  | skip hg =>
    have : ∃ d, i.dst = some d := by
      rcases hk with hk | hk
      · obtain ⟨d, hd, _⟩ := step_evN (σ := σ) hk; exact ⟨d, hd⟩
      · cases i <;> first | (simp [I.isP] at hk; done) | exact ⟨_, rfl⟩
    obtain ⟨d, hd⟩ := this
    refine ⟨d, .tp [], hd, by simp [St.skip, hd], ?_⟩
    have e : τ.set d (.tp []) = τ.skip i := by simp [St.skip, hd]
    rw [e]
    exact .skip (by rw [hw]; exact hg)
  | @call e f as rm _ _ F rv σc x σ₁ hg hf hm hF hb =>
    rcases hk with (hk | hk) | hk
    · cases hk
    · cases hk
    · cases rm with
      | some b => cases hk
      | none => simp [I.isP, hf, hm] at hk
  | callv hg hx hf hm hF hb =>
    rcases hk with (hk | hk) | hk <;> cases hk
  | @pcall e f as rm _ _ F ms ws ns rv σc x σ₁ hg hf hm hh hF hb =>
    rcases hk with (hk | hk) | hk
    · cases hk
    · cases hk
    · cases rm with
      | some b => cases hk
      | none =>
        simp only [I.isP, hf, hm, Bool.and_eq_true] at hk
        have hns := hand_none hk.2 hh
        subst hns
        have hb0 : back true σ σc rv none = some (x, σ₁) := hb
        unfold back at hb0
        simp only [leave, if_true] at hb0
        obtain ⟨⟨a, b⟩, h1, h2⟩ := map_some hb0
        simp only [Prod.mk.injEq] at h2
        obtain ⟨rfl, rfl⟩ := h2
        refine ⟨e, a, rfl, rfl, .pcall (by rw [hw]; exact hg) hf hm (ws := ws) (ns := []) (by rw [vals_agr ha2, hand_sim hk.2 (vals_sim hk.1 (hs rfl))]; exact hh) hF ?_⟩
        show back true τ σc rv none = some (a, τ)
        unfold back
        simp only [leave, if_true, h1, Option.map_some]
  | @ext e f as rm _ _ X x σ₁ hg hf hX1 hx =>
    rcases hk with (hk | hk) | hk
    · cases hk
    · cases hk
    · cases rm with
      | some b => cases hk
      | none => simp [I.isP, hf] at hk
end
end Go.Proofs.Ytkhgnkfdpabflaa.Vm
/- Changing places. -/
namespace Go.Proofs.Ytkhgnkfdpabflaa.Vm
open Go
structure Like (σ τ : St) : Prop where
  row : ∀ l n lo len es, σ.rowOf l n lo len = some es → τ.rowOf l n lo len = some es
  rel : ∀ l n i e, σ.relOf l n i = some e → τ.relOf l n i = some e
  box : ∀ l n cs, σ.boxOf l n = some cs → τ.boxOf l n = some cs
  gone : ∀ l n, σ.obj l n = some .gone → τ.obj l n = some .gone
section
variable {P : Program} {E : Env} {σ τ : St}
theorem Like.same (h : ∀ l n, τ.obj l n = σ.obj l n) : Like σ τ :=
  ⟨fun _ _ _ _ _ he => by simpa only [St.rowOf, h] using he, fun _ _ _ _ he => by simpa only [St.relOf, h] using he, fun _ _ _ he => by simpa only [St.boxOf, h] using he, fun l n he => by rw [h]; exact he⟩
theorem Like.trans {ρ : St} (h : Like σ τ) (k : Like τ ρ) : Like σ ρ :=
  ⟨fun _ _ _ _ _ he => k.row _ _ _ _ _ (h.row _ _ _ _ _ he), fun _ _ _ _ he => k.rel _ _ _ _ (h.rel _ _ _ _ he), fun _ _ _ he => k.box _ _ _ (h.box _ _ _ he), fun _ _ he => k.gone _ _ (h.gone _ _ he)⟩
theorem Like.obj {l n : Nat} {o : Ob} (h : σ.obj l n = none ∨ ∃ s es gr, σ.obj l n = some (.rw s es gr) ∧ ((∃ s' gr' zs, o = .rw s' (es ++ zs) gr') ∨ o = .fz s es)) : Like σ (σ.setObj l n (some o)) := by
  refine ⟨fun l' n' lo len ys he => ?_, fun l' n' i e he => ?_, fun l' n' cs he => ?_, fun l' n' he => ?_⟩
  · simp only [St.rowOf, St.obj_setObj] at he ⊢
    by_cases hh : l = l' ∧ n = n'
    · obtain ⟨rfl, rfl⟩ := hh
      rw [if_pos ⟨rfl, rfl⟩]
      rcases h with h | ⟨s, es, gr, h, ⟨s', gr', zs, rfl⟩ | rfl⟩
      · rw [h] at he; cases he
      · rw [h] at he
        simp only at he ⊢
        split at he
        · rename_i hfit
          cases he
          rw [if_pos (by simp; omega)]
          simp only [slice]
          rw [List.drop_append_of_le_length (by omega), List.take_append_of_le_length (by simp; omega)]
        · cases he
      · rw [h] at he; exact he
    · rw [if_neg hh]; exact he
  · simp only [St.relOf, St.obj_setObj] at he ⊢
    by_cases hh : l = l' ∧ n = n'
    · obtain ⟨rfl, rfl⟩ := hh
      rw [if_pos ⟨rfl, rfl⟩]
      rcases h with h | ⟨s, es, gr, h, ⟨s', gr', zs, rfl⟩ | rfl⟩
      · rw [h] at he; cases he
      · rw [h] at he
        simp only at he ⊢
        rw [List.getElem?_append_left (List.getElem?_eq_some_iff.1 he).1]
        exact he
      · rw [h] at he; exact he
    · rw [if_neg hh]; exact he
  · simp only [St.boxOf, St.obj_setObj] at he ⊢
    by_cases hh : l = l' ∧ n = n'
    · obtain ⟨rfl, rfl⟩ := hh
      rcases h with h | ⟨s, es, gr, h, _⟩
      · rw [h] at he; cases he
      · rw [h] at he; cases he
    · rw [if_neg hh]; exact he
  · rw [St.obj_setObj]
    by_cases hh : l = l' ∧ n = n'
    · obtain ⟨rfl, rfl⟩ := hh
      rcases h with h | ⟨s, es, gr, h, _⟩
      · rw [h] at he; cases he
      · rw [h] at he; cases he
    · rw [if_neg hh]; exact he
theorem Like.new {n : Nat} {o : Ob} (h : σ.new n o = some τ) : Like σ τ ∧ ∀ t, τ.get t = σ.get t := by
  obtain ⟨hno, rfl⟩ := new_some h
  exact ⟨Like.obj (.inl hno), fun t => St.get_setObj _ _ _ _ _⟩
theorem Like.frz1 {n : Nat} : Like σ (σ.frz1 n) := by
  unfold St.frz1
  split
  · rename_i s es gr ho
    exact Like.obj (.inr ⟨s, es, gr, ho, .inr rfl⟩)
  · exact Like.same fun _ _ => rfl
theorem Like.frz : ∀ (ns : List Nat) {σ : St}, Like σ (σ.frz ns)
  | [], _ => Like.same fun _ _ => rfl
  | n :: ns, _ => (Like.frz1 (n := n)).trans (Like.frz ns)
theorem Like.zcells : ∀ (zs : List Z) {σ τ : St} {vs : List V}, Vm.zcells σ zs = some (vs, τ) → Like σ τ ∧ ∀ t, τ.get t = σ.get t
  | [], _, τ, vs, e => by
    simp only [Vm.zcells, Option.some.injEq, Prod.mk.injEq] at e
    obtain ⟨_, rfl⟩ := e
    exact ⟨Like.same fun _ _ => rfl, fun _ => rfl⟩
  | z :: zs, _, τ, vs, e => by
    simp only [Vm.zcells] at e
    split at e
    · cases e
    · rename_i us ρ hu
      have ih := Like.zcells zs hu
      split at e
      · simp only [Option.some.injEq, Prod.mk.injEq] at e; obtain ⟨_, rfl⟩ := e; exact ih
      · simp only [Option.some.injEq, Prod.mk.injEq] at e; obtain ⟨_, rfl⟩ := e; exact ih
      · simp only [Option.some.injEq, Prod.mk.injEq] at e; obtain ⟨_, rfl⟩ := e; exact ih
      · split at e
        · rename_i ρ' hn
          simp only [Option.some.injEq, Prod.mk.injEq] at e
          obtain ⟨_, rfl⟩ := e
          have k := Like.new hn
          exact ⟨ih.1.trans k.1, fun t => (k.2 t).trans (ih.2 t)⟩
        · cases e
theorem Like.set {d : Nat} {v : V} : Like σ (σ.set d v) := Like.same fun _ _ => St.obj_set _ _ _ _ _
theorem like_newset {n d : Nat} {o : Ob} {v : V} (h : (σ.new n o).map (fun σ => σ.set d v) = some τ) : Like σ τ ∧ ∀ t, t ≠ d → τ.get t = σ.get t := by
  obtain ⟨ρ, h1, rfl⟩ := map_some h
  have k := Like.new h1
  exact ⟨k.1.trans Like.set, fun t ht => by rw [St.get_set_ne ht]; exact k.2 t⟩
theorem step_W {i : I} (hw : i.isW = true) (h : step σ i = some τ) : Like σ τ ∧ ∀ t, i.dst ≠ some t → τ.get t = σ.get t := by
  have ne : ∀ {d t : Nat}, some d ≠ some t → t ≠ d := fun h e => h (by rw [e])
  cases i with
  | nilr d nm s => have := like_newset h; exact ⟨this.1, fun t ht => this.2 t (ne ht)⟩
  | alloc d nm z =>
    simp only [step] at h
    split at h
    · rename_i cs ρ hz
      have k1 := Like.zcells z hz
      have k2 := like_newset h
      exact ⟨k1.1.trans k2.1, fun t ht => (k2.2 t (ne ht)).trans (k1.2 t)⟩
    · cases h
  | box d nm x k =>
    simp only [step] at h
    split at h
    · have := like_newset h; exact ⟨this.1, fun t ht => this.2 t (ne ht)⟩
    · cases h
  | bsl d nm s n z ps =>
    simp only [step] at h
    split at h
    · rename_i ts ns t' _ _
      split at h
      · have k2 := like_newset h
        exact ⟨(Like.frz ns).trans k2.1, fun t ht => (k2.2 t (ne ht)).trans (St.get_frz σ ns t)⟩
      · cases h
    · cases h
  | mks d nm s n c z =>
    simp only [step] at h
    split at h
    · split at h
      · have := like_newset h; exact ⟨this.1, fun t ht => this.2 t (ne ht)⟩
      · cases h
    · cases h
  | app d nm s x y =>
    simp only [step] at h
    unfold St.app at h
    split at h
    · cases h
    · rename_i ys hys
      split at h
      · split at h
        · have := like_newset h; exact ⟨this.1, fun t ht => this.2 t (ne ht)⟩
        · cases h
      · split at h
        · have := like_newset h; exact ⟨this.1, fun t ht => this.2 t (ne ht)⟩
        · cases h
      · rename_i l n lo len s' _
        split at h
        · split at h
          · rename_i s1 es gr hobj
            split at h
            · cases h
              have k : Like σ (σ.setObj l n (some (.rw s (es ++ ys) true))) := Like.obj (.inr ⟨s1, es, gr, hobj, .inl ⟨s, true, ys, rfl⟩⟩)
              exact ⟨k.trans Like.set, fun t ht => by rw [St.get_set_ne (ne ht), St.get_setObj]⟩
            · cases h
          · cases h
        · cases h
      · cases h
  | _ => cases hw
theorem store_get {x y : V} {k : Nat} (h : σ.store x y k = some τ) (t : Nat) : τ.get t = σ.get t := by
  unfold St.store at h
  split at h
  · split at h
    · split at h
      · cases h; exact St.get_setObj _ _ _ _ _
      · cases h
    · cases h
  · split at h
    · simp only at h
      split at h
      · split at h
        · cases h; rw [St.get_setObj, St.get_frz]
        · cases h
      · cases h
    · cases h
  · cases h
theorem step_get {i : I} {t : Nat} (h : step σ i = some τ) (ht : i.dst ≠ some t) : τ.get t = σ.get t := by
  have ne : ∀ {d t : Nat}, some d ≠ some t → t ≠ d := fun h e => h (by rw [e])
  by_cases hn : i.isN = true ∨ i.isR = true
  · obtain ⟨d, hd, he⟩ := step_evN (σ := σ) hn
    rw [he] at h
    obtain ⟨v, _, rfl⟩ := map_some h
    exact St.get_set_ne (ne (by rw [← hd]; exact ht))
  · by_cases hw : i.isW = true
    · exact (step_W hw h).2 t ht
    · cases i with
      | load d x k =>
        simp only [step] at h
        obtain ⟨v, _, rfl⟩ := map_some h
        exact St.get_set_ne (ne ht)
      | ix d x j s =>
        simp only [step] at h
        obtain ⟨v, _, rfl⟩ := map_some h
        exact St.get_set_ne (ne ht)
      | store x y k => exact store_get h t
      | app d nm s x y =>
        simp only [step] at h
        unfold St.app at h
        split at h
        · cases h
        · split at h
          · split at h
            · exact (like_newset h).2 t (ne ht)
            · cases h
          · split at h
            · exact (like_newset h).2 t (ne ht)
            · cases h
          · split at h
            · split at h
              · split at h
                · cases h; rw [St.get_set_ne (ne ht), St.get_setObj]
                · cases h
              · cases h
            · cases h
          · cases h
      | cpy d s x y =>
        simp only [step] at h
        unfold St.cpy at h
        split at h
        · split at h
          · split at h
            · split at h
              · cases h; rw [St.get_set_ne (ne ht), St.get_setObj]
              · cases h
            · cases h
          · cases h
        · cases h
      | clr s x z =>
        simp only [step] at h
        cases hz : z.t? with
        | none => rw [hz] at h; cases h
        | some zt =>
          rw [hz] at h
          simp only [Option.bind_some] at h
          unfold St.clr at h
          split at h
          · split at h
            · split at h
              · split at h
                · cases h; exact St.get_setObj _ _ _ _ _
                · cases h
              · cases h
            · cases h
          · cases h; rfl
          · cases h
      | call => cases h
      | callv => cases h
      | bad => cases h
      | _ => first | (simp [I.isN, I.isR] at hn; done) | (simp [I.isW] at hw; done)
theorem back_get {p : Bool} {σc σ₁ : St} {v x : V} {rm : Option Nat} (h : back p σ σc v rm = some (x, σ₁)) (t : Nat) : σ₁.get t = σ.get t := by
  have hl : ∀ σl, leave p σ σc = some σl → σl.get t = σ.get t := fun σl hl => by
    unfold leave at hl
    split at hl
    · cases hl; rfl
    · split at hl
      · cases hl; rfl
      · cases hl
  cases hlv : leave p σ σc with
  | none => unfold back at h; rw [hlv] at h; cases rm <;> cases h
  | some σl =>
    cases rm with
    | none =>
      unfold back at h
      rw [hlv] at h
      obtain ⟨r, _, h2⟩ := map_some h
      simp only [Prod.mk.injEq] at h2
      obtain ⟨_, rfl⟩ := h2
      exact hl _ hlv
    | some base =>
      rw [back_some hlv] at h
      split at h
      · unfold merge at h
        split at h
        · simp only [Option.some.injEq, Prod.mk.injEq] at h
          have h2 := hl σl hlv
          obtain ⟨_, rfl⟩ := h
          simp only [St.get] at h2 ⊢
          exact h2
        · cases h
      · obtain ⟨r, _, h2⟩ := map_some h
        simp only [Prod.mk.injEq] at h2
        obtain ⟨_, rfl⟩ := h2
        have h2 := hl σl hlv
        simp only [St.get] at h2 ⊢
        exact h2
theorem op1_get {y : G} {t : Nat} (hG : ∀ f X, E.ext f = some X → ∀ σ as rm v σ' t, X σ as rm = some (v, σ') → σ'.get t = σ.get t) (h : Op1 P E σ y τ) (ht : y.i.dst ≠ some t) : τ.get t = σ.get t := by
  have ne : ∀ {d t : Nat}, some d ≠ some t → t ≠ d := fun h e => h (by rw [e])
  cases h with
  | step hg hs => exact step_get hs ht
  | @skip i g hg =>
    unfold St.skip
    cases hi : i.dst with
    | none => rfl
    | some d => exact St.get_set_ne (ne (by rw [← hi]; exact ht))
  | call hg hf hm hF hb => rw [St.get_set_ne (ne ht)]; exact back_get hb t
  | callv hg hx hf hm hF hb => rw [St.get_set_ne (ne ht)]; exact back_get hb t
  | @pcall d f as rm g _ F ms ws ns v σc w σ₁ hg hf hm hh hF hb => rw [St.get_set_ne (ne ht), back_get hb t]; exact St.get_frz _ _ _
  | @ext d f as rm g _ X x σ₁ hg hf hX hx => rw [St.get_set_ne (ne ht)]; exact hG f X hX _ _ _ _ _ t hx
theorem op1_like {y : G} (hk : y.i.isNRW E = true) (h : Op1 P E σ y τ) : Like σ τ := by
  obtain ⟨i, g⟩ := y
  simp only [I.isNRW, Bool.or_eq_true] at hk
  rcases hk with hk | hk
  · simp only [I.isNR, Bool.or_eq_true] at hk
    cases h with
    | step hg hst =>
      have hk' : i.isN = true ∨ i.isR = true := by
        rcases hk with hk | hk
        · exact hk
        · cases i <;> first | (simp [I.isP] at hk; done) | (simp [step] at hst; done)
      obtain ⟨d, hd, he⟩ := step_evN (σ := σ) hk'
      rw [he] at hst
      obtain ⟨v, _, rfl⟩ := map_some hst
      exact Like.set
    | skip hg =>
      unfold St.skip
      cases i.dst with
      | none => exact Like.same fun _ _ => rfl
      | some d => exact Like.set
    | @call e f as rm _ _ F rv σc x σ₁ hg hf hm hF hb =>
      rcases hk with (hk | hk) | hk
      · cases hk
      · cases hk
      · cases rm with
        | some b => cases hk
        | none => simp [I.isP, hf, hm] at hk
    | callv hg hx hf hm hF hb =>
      rcases hk with (hk | hk) | hk <;> cases hk
    | @pcall e f as rm _ _ F ms ws ns rv σc x σ₁ hg hf hm hh hF hb =>
      rcases hk with (hk | hk) | hk
      · cases hk
      · cases hk
      · cases rm with
        | some b => cases hk
        | none =>
          simp only [I.isP, hf, hm, Bool.and_eq_true] at hk
          have hns := hand_none hk.2 hh
          subst hns
          have hb0 : back true σ σc rv none = some (x, σ₁) := hb
          unfold back at hb0
          simp only [leave, if_true] at hb0
          obtain ⟨⟨a, b⟩, h1, h2⟩ := map_some hb0
          simp only [Prod.mk.injEq] at h2
          obtain ⟨rfl, rfl⟩ := h2
          exact Like.set
    | @ext e f as rm _ _ X x σ₁ hg hf hX1 hx =>
      rcases hk with (hk | hk) | hk
      · cases hk
      · cases hk
      · cases rm with
        | some b => cases hk
        | none => simp [I.isP, hf] at hk
  · cases h with
    | step hg hs => exact (step_W hk hs).1
    | skip hg =>
      unfold St.skip
      cases i.dst with
      | none => exact Like.same fun _ _ => rfl
      | some d => exact Like.set
    | call => cases hk
    | callv => cases hk
    | pcall => cases hk
    | ext => cases hk
mutual
def ExV (σ : St) : V → Prop
  | .row l n lo len _ => (σ.rowOf l n lo len).isSome = true ∨ σ.obj l n = some .gone
  | .ptr l n _ => (σ.boxOf l n).isSome = true
  | .rel l n i _ => (σ.relOf l n i).isSome = true ∨ σ.obj l n = some .gone
  | .ag cs => ExVs σ cs
  | _ => True
def ExVs (σ : St) : List V → Prop
  | [] => True
  | v :: vs => ExV σ v ∧ ExVs σ vs
end
mutual
theorem ExV.sim (h : Like σ τ) : ∀ v : V, ExV σ v → SimV σ τ v
  | .row l n lo len _, e => by
    simp only [SimV]
    rcases e with e | e
    · obtain ⟨es, he⟩ := Option.isSome_iff_exists.1 e
      rw [he, h.row _ _ _ _ _ he]
    · simp only [St.rowOf, e, h.gone _ _ e]
  | .ptr l n _, e => by
    obtain ⟨cs, he⟩ := Option.isSome_iff_exists.1 e
    simp only [SimV]
    rw [he, h.box _ _ _ he]
  | .rel l n i _, e => by
    simp only [SimV]
    rcases e with e | e
    · obtain ⟨t, he⟩ := Option.isSome_iff_exists.1 e
      rw [he, h.rel _ _ _ _ he]
    · simp only [St.relOf, e, h.gone _ _ e]
  | .ag cs, e => ExVs.sim h cs e
  | .d .., _ | .dx .., _ | .nil _, _ | .pd _, _ | .tp _, _ | .cl .., _ | .u, _ => trivial
theorem ExVs.sim (h : Like σ τ) : ∀ vs : List V, ExVs σ vs → SimVs σ τ vs
  | [], _ => trivial
  | v :: vs, e => ⟨ExV.sim h v e.1, ExVs.sim h vs e.2⟩
end
mutual
theorem SimV.symm : ∀ v : V, SimV σ τ v → SimV τ σ v
  | .row .., e | .ptr .., e | .rel .., e => by simp only [SimV] at e ⊢; exact e.symm
  | .ag cs, e => SimVs.symm cs e
  | .d .., _ | .dx .., _ | .nil _, _ | .pd _, _ | .tp _, _ | .cl .., _ | .u, _ => trivial
theorem SimVs.symm : ∀ vs : List V, SimVs σ τ vs → SimVs τ σ vs
  | [], _ => trivial
  | v :: vs, e => ⟨SimV.symm v e.1, SimVs.symm vs e.2⟩
end
mutual
theorem VR.ex {g : Gh} {w : World} : ∀ (v : V) (x : Value), VR g w σ.O (σ.up.length + 1) v x → ExV σ v
  | .row l n lo len s, x, h => by
    obtain ⟨hl, A, c, _, hr⟩ := h
    have e1 : σ.up.length + 1 - 1 - l = σ.up.length - l := by omega
    rw [e1] at hr
    have hO := St.O_obj σ l n (by omega)
    unfold RowV at hr
    rw [hO] at hr
    simp only [ExV, St.rowOf]
    split at hr
    · rename_i ho; left; first | (rw [ho]; simp only; rw [if_pos hr.2.1]; rfl) | (rw [if_pos hr.2.1]; rfl)
    · rename_i ho; left; first | (rw [ho]; simp only; rw [if_pos hr.2.1]; rfl) | (rw [if_pos hr.2.1]; rfl)
    · rename_i ho; right; exact ho
    · exact hr.elim
  | .ptr l n off, x, h => by
    obtain ⟨hl, ⟨cs, hr⟩, _⟩ := h
    have e1 : σ.up.length + 1 - 1 - l = σ.up.length - l := by omega
    rw [e1] at hr
    have hO := St.O_obj σ l n (by omega)
    rw [hO] at hr
    simp only [ExV, St.boxOf, hr]
    rfl
  | .rel l n i off, x, h => by
    obtain ⟨hl, hr⟩ := h
    have e1 : σ.up.length + 1 - 1 - l = σ.up.length - l := by omega
    rw [e1] at hr
    have hO := St.O_obj σ l n (by omega)
    unfold RelV at hr
    rw [hO] at hr
    simp only [ExV, St.relOf]
    split at hr
    · rename_i ho; left; rw [ho]
      obtain ⟨_, _, e, _, _, _, he, _⟩ := hr
      simp only [he]; rfl
    · rename_i ho; left; rw [ho]
      obtain ⟨_, _, e, _, _, _, he, _⟩ := hr
      simp only [he]; rfl
    · rename_i ho; right; exact ho
    · exact hr.elim
  | .ag cs, x, h => by obtain ⟨vs, _, h, _⟩ := h; exact VRs.ex cs vs h
  | .d .., _, _ | .dx .., _, _ | .nil _, _, _ | .pd _, _, _ | .tp _, _, _ | .cl .., _, _ | .u, _, _ => trivial
theorem VRs.ex {g : Gh} {w : World} : ∀ (vs : List V) (xs : List Value), VRs g w σ.O (σ.up.length + 1) vs xs → ExVs σ vs
  | [], _, _ => trivial
  | v :: vs, _, h => by obtain ⟨x, xs, rfl, h1, h2⟩ := h; exact ⟨VR.ex v x h1, VRs.ex vs xs h2⟩
end
theorem Rel.ex {g : Gh} {tmps : Array Value} {rts : Roots} {w : World} (h : Rel g σ tmps rts w) (t : Nat) : ExV σ (σ.get t) := VR.ex _ _ (h.sl t)
structure ExtOk (E : Env) : Prop where
  set : ∀ f X, E.ext f = some X → ∀ σ d v as rm, X (σ.set d v) as rm = (X σ as rm).map fun p => (p.1, p.2.set d v)
  get : ∀ f X, E.ext f = some X → ∀ σ as rm v σ' t, X σ as rm = some (v, σ') → σ'.get t = σ.get t
theorem swapL {x y : G} {σ₁ σ₂ : St} (hE : ExtOk E) (hex : ∀ t, ExV σ (σ.get t)) (hs : sep x y = true) (hx : x.i.isNR E = true) (hy : x.i.isN = true ∨ y.i.isNRW E = true) (h1 : Op1 P E σ x σ₁) (h2 : Op1 P E σ₁ y σ₂) :
    ∃ τ, Op1 P E σ y τ ∧ Op1 P E τ x σ₂ := by
  obtain ⟨d, v, hd, rfl, _⟩ := op1_stable (τ := σ) hx h1 (fun _ _ => rfl) (fun _ t _ => ExV.sim (Like.same fun _ _ => rfl) _ (hex t))
  simp only [sep, hd, Bool.and_eq_true, decide_eq_true_eq] at hs
  obtain ⟨⟨hs1, hs2⟩, hs3⟩ := hs
  have hs1 : d ∉ y.reads := by simpa using hs1
  obtain ⟨τ, hy1, rfl⟩ := op1_unset hE.set hs1 hs2 h2
  have hne : ∀ t ∈ x.reads, y.i.dst ≠ some t := fun t ht he => by
    rw [he] at hs3
    simp at hs3
    exact hs3 ht
  have hag : ∀ t ∈ x.reads, τ.get t = σ.get t := fun t ht => op1_get hE.get hy1 (hne t ht)
  obtain ⟨i, g⟩ := x
  obtain ⟨d', v', hd', he, hx1⟩ := op1_stable (τ := τ) hx h1 hag (fun hn t _ => ExV.sim (op1_like (by
    rcases hy with hy | hy
    · rw [hy] at hn; cases hn
    · exact hy) hy1) _ (hex t))
  have hd2 : i.dst = some d := hd
  rw [hd2] at hd'; cases hd'
  have hv : v = v' := by
    have := congrArg (fun ρ : St => ρ.get d) he
    simpa [St.get_set] using this
  subst hv
  exact ⟨τ, hy1, hx1⟩
theorem swapR {x y : G} {σ₁ σ₂ : St} (hE : ExtOk E) (hex : ∀ t, ExV σ (σ.get t)) (hs : sep x y = true) (hx : x.i.isNR E = true) (hy : x.i.isN = true ∨ y.i.isNRW E = true) (h1 : Op1 P E σ y σ₁) (h2 : Op1 P E σ₁ x σ₂) :
    ∃ τ, Op1 P E σ x τ ∧ Op1 P E τ y σ₂ := by
  obtain ⟨i, g⟩ := x
  have hsimp := hs
  have hag : ∀ t ∈ G.reads ⟨i, g⟩, σ₁.get t = σ.get t := fun t ht => op1_get hE.get h1 (fun he => by
    simp only [sep, Bool.and_eq_true, he] at hs
    have := hs.2
    simp at this
    exact this ht)
  obtain ⟨d, v, hd, rfl, hx1⟩ := op1_stable (τ := σ) hx h2 (fun t ht => (hag t ht).symm) (fun hn t ht => by
    have hlike : Like σ σ₁ := op1_like (by
      rcases hy with hy | hy
      · have : i.isN = true := hy
        rw [this] at hn; cases hn
      · exact hy) h1
    rw [hag t (by simp [G.reads, ht])]
    exact SimV.symm _ (ExV.sim hlike _ (hex t)))
  have hd2 : (⟨i, g⟩ : G).i.dst = some d := hd
  simp only [sep, hd2, Bool.and_eq_true, decide_eq_true_eq] at hs
  have hs1 : d ∉ y.reads := by simpa using hs.1.1
  exact ⟨σ.set d v, hx1, op1_set hE.set hs1 hs.1.2 h1⟩
theorem sep_symm {x y : G} (h : sep x y = true) (hd : ∀ d, x.i.dst = some d → y.i.dst ≠ some d) : sep y x = true := by
  simp only [sep, Bool.and_eq_true] at h ⊢
  obtain ⟨h1, h2⟩ := h
  constructor
  · cases hy : y.i.dst with
    | none => rfl
    | some e =>
      rw [hy] at h2
      simp only [Bool.and_eq_true, decide_eq_true_eq]
      exact ⟨h2, fun hx => hd e hx hy⟩
  · cases hx : x.i.dst with
    | none => rfl
    | some d => rw [hx] at h1; simp only [Bool.and_eq_true] at h1; exact h1.1
theorem swap {x y : G} {σ₁ σ₂ : St} (hE : ExtOk E) (hex : ∀ t, ExV σ (σ.get t)) (hc : com E x y = true) (h1 : Op1 P E σ x σ₁) (h2 : Op1 P E σ₁ y σ₂) : ∃ τ, Op1 P E σ y τ ∧ Op1 P E τ x σ₂ := by
  simp only [com, Bool.and_eq_true, Bool.or_eq_true] at hc
  obtain ⟨hs, hc⟩ := hc
  have nr : ∀ {z : G}, z.i.isN = true → z.i.isNR E = true := fun h => by simp [I.isNR, h]
  rcases hc with hc | hc
  · rcases hc with hc | hc
    · exact swapL hE hex hs (nr hc) (.inl hc) h1 h2
    · exact swapL hE hex hs hc.1 (.inr hc.2) h1 h2
  · have hs' : sep y x = true := sep_symm hs (fun d hd => by
      simp only [sep, hd, Bool.and_eq_true, decide_eq_true_eq] at hs
      exact hs.1.2)
    rcases hc with hc | hc
    · exact swapR hE hex hs' (nr hc) (.inl hc) h1 h2
    · exact swapR hE hex hs' hc.1 (.inr hc.2) h1 h2
end
end Go.Proofs.Ytkhgnkfdpabflaa.Vm
/- Things made anew change places, too. -/
namespace Go.Proofs.Ytkhgnkfdpabflaa.Vm
open Go
def Z.isR : Z → Bool
  | .r _ _ => true
  | _ => false
def I.mkn : I → Option Nat
  | .nilr _ nm _ => some nm
  | .alloc _ nm z => if z.any Z.isR then none else some nm
  | .box _ nm _ _ => some nm
  | .bsl _ nm _ _ _ _ => some nm
  | .mks _ nm _ _ _ _ => some nm
  | _ => none
def mk (σ : St) : I → Option (List Nat × Ob × V)
  | .nilr _ nm s => some ([], .rw s [] false, .row 0 nm 0 0 s)
  | .alloc _ nm z => match z.mapM Z.v with
    | some cs => some ([], .box cs, .ptr 0 nm 0)
    | none => none
  | .box _ nm x w => match cellsOf w (σ.val x) with
    | some cs => some ([], .box cs, .ptr 0 nm 0)
    | none => none
  | .bsl _ nm s n z ps => match σ.toTs (ps.map fun p => σ.val p.2), z.t? with
    | some (ts, ns), some t => match flatFill t ts (fillT (List.replicate n t) s ((ps.map (·.1)).zip ts)) with
      | some es => some (ns, .rw s es false, .row 0 nm 0 n s)
      | none => none
    | _, _ => none
  | .mks _ nm s n c z => match bnd big (σ.val n), bnd big (σ.val c), z.t? with
    | some n, some c, some t => if n = c then some ([], .rw s (List.replicate n t) false, .row 0 nm 0 n s) else none
    | _, _, _ => none
  | _ => none
def I.thaw : I → Bool
  | .bsl _ _ _ _ z ps => (match z.t? with | some t => t.noL | none => true) || ps.isEmpty
  | _ => true
section
variable {P : Program} {E : Env} {σ τ : St}
theorem zcells_mapM : ∀ {z : List Z}, z.any Z.isR = false → zcells σ z = (z.mapM Z.v).map fun cs => (cs, σ)
  | [], _ => rfl
  | z :: zs, h => by
    simp only [List.any_cons, Bool.or_eq_false_iff] at h
    simp only [zcells, zcells_mapM h.2, List.mapM_cons, Option.bind_eq_bind, Option.pure_def]
    cases z with
    | r nm s => simp [Z.isR] at h
    | k t => cases zs.mapM Z.v <;> simp [Z.v]
    | n s => cases zs.mapM Z.v <;> simp [Z.v]
    | u => cases zs.mapM Z.v <;> simp [Z.v]
theorem step_mk {i : I} {nm : Nat} (h : i.mkn = some nm) : ∃ d, i.dst = some d ∧ step σ i = match mk σ i with
    | some (ns, o, v) => ((σ.frz ns).new nm o).map fun σ => σ.set d v
    | none => none := by
  cases i with
  | nilr d n s => simp only [I.mkn, Option.some.injEq] at h; subst h; exact ⟨d, rfl, rfl⟩
  | box d n x w => simp only [I.mkn, Option.some.injEq] at h; subst h; exact ⟨d, rfl, by simp only [step, mk]; cases cellsOf w (σ.val x) <;> rfl⟩
  | alloc d n z =>
    simp only [I.mkn] at h
    split at h
    · cases h
    · rename_i hz
      simp only [Option.some.injEq] at h; subst h
      refine ⟨d, rfl, ?_⟩
      simp only [step, mk, zcells_mapM (σ := σ) (by simpa using hz)]
      cases z.mapM Z.v <;> rfl
  | bsl d n s k z ps =>
    simp only [I.mkn, Option.some.injEq] at h; subst h
    refine ⟨d, rfl, ?_⟩
    simp only [step, mk]
    cases σ.toTs (ps.map fun p => σ.val p.2) with
    | none => rfl
    | some q =>
      obtain ⟨ts, ns⟩ := q
      cases z.t? with
      | none => rfl
      | some t => simp only; cases flatFill t ts _ <;> rfl
  | mks d n s x c z =>
    simp only [I.mkn, Option.some.injEq] at h; subst h
    refine ⟨d, rfl, ?_⟩
    simp only [step, mk]
    cases bnd big (σ.val x) with
    | none => rfl
    | some a => cases bnd big (σ.val c) with
      | none => rfl
      | some b => cases z.t? with
        | none => rfl
        | some t => simp only; split <;> rfl
  | _ => cases h
def frzO : Option Ob → Option Ob
  | some (.rw s es _) => some (.fz s es)
  | o => o
theorem obj_frz1 (n l k : Nat) : (σ.frz1 n).obj l k = if l = 0 ∧ k = n then frzO (σ.obj l k) else σ.obj l k := by
  unfold St.frz1
  split
  · rename_i s es gr h
    rw [St.obj_setObj]
    by_cases hh : l = 0 ∧ k = n
    · obtain ⟨rfl, rfl⟩ := hh
      simp [h, frzO]
    · rw [if_neg hh, if_neg (fun e => hh ⟨e.1.symm, e.2.symm⟩)]
  · rename_i h
    by_cases hh : l = 0 ∧ k = n
    · obtain ⟨rfl, rfl⟩ := hh
      rw [if_pos ⟨rfl, rfl⟩]
      cases ho : σ.obj 0 k with
      | none => rfl
      | some o => cases o with
        | rw s es gr => exact absurd ho (h s es gr)
        | _ => rfl
    · rw [if_neg hh]
theorem obj_frz : ∀ (ns : List Nat) {σ : St} (l k : Nat), (σ.frz ns).obj l k = if l = 0 ∧ k ∈ ns then frzO (σ.obj l k) else σ.obj l k
  | [], σ, l, k => by simp [St.frz]
  | n :: ns, σ, l, k => by
    have : σ.frz (n :: ns) = (σ.frz1 n).frz ns := rfl
    rw [this, obj_frz ns, obj_frz1]
    by_cases h1 : l = 0
    · subst h1
      by_cases h2 : k = n
      · subst h2
        simp only [true_and, if_true, List.mem_cons, true_or]
        split
        · cases σ.obj 0 k with
          | none => rfl
          | some o => cases o <;> rfl
        · rfl
      · simp [h2]
    · simp [h1]
theorem frz1_eq (σ : St) (n : Nat) : σ.frz1 n = match σ.obj 0 n with
    | some (.rw s es _) => σ.setObj 0 n (some (.fz s es))
    | _ => σ := rfl
theorem frz1_no {n : Nat} (h : ∀ s es gr, σ.obj 0 n ≠ some (.rw s es gr)) : σ.frz1 n = σ := by
  rw [frz1_eq]
  split
  · rename_i s es gr ho; exact absurd ho (h s es gr)
  · rfl
theorem frz1_idem {n : Nat} : (σ.frz1 n).frz1 n = σ.frz1 n := by
  refine frz1_no fun s es gr h => ?_
  rw [obj_frz1] at h
  simp only [and_self, if_true] at h
  cases ho : σ.obj 0 n with
  | none => rw [ho] at h; cases h
  | some o => rw [ho] at h; cases o <;> cases h
theorem setObj_comm {l n k m : Nat} {o p : Option Ob} (h : ¬ (l = k ∧ n = m)) : (σ.setObj l n o).setObj k m p = (σ.setObj k m p).setObj l n o := by
  cases l with
  | zero => cases k with
    | zero => simp only [St.setObj]; rw [st_comm none σ.ob n m _ _ (fun e => h ⟨rfl, e⟩)]
    | succ k => rfl
  | succ l => cases k with
    | zero => rfl
    | succ k =>
      simp only [St.setObj, gt_st]
      by_cases hlk : l = k
      · subst hlk
        have hnm : n ≠ m := fun e => h ⟨rfl, e⟩
        simp only [if_true]
        have key : ∀ (u : List Lv) (a b : Lv), st [] (st [] u l a) l b = st [] u l b := by
          intro u
          induction l generalizing u with
          | zero => intro a b; cases u <;> rfl
          | succ l ih => intro a b; cases u <;> simp [st, ih (fun e => h ⟨by omega, e.2⟩)]
        rw [key, key, st_comm none _ n m _ _ hnm]
      · rw [if_neg hlk, if_neg (fun e => hlk e.symm), st_comm _ _ l k _ _ hlk]
theorem frz1_setObj {l n m : Nat} {o : Option Ob} (h : ¬ (l = 0 ∧ n = m)) : (σ.setObj l n o).frz1 m = (σ.frz1 m).setObj l n o := by
  unfold St.frz1
  rw [St.obj_setObj, if_neg h]
  split
  · rw [setObj_comm h]
  · rfl
theorem frz_setObj {l n : Nat} {o : Option Ob} : ∀ (ns : List Nat) {σ : St}, ¬ (l = 0 ∧ n ∈ ns) → (σ.setObj l n o).frz ns = (σ.frz ns).setObj l n o
  | [], _, _ => rfl
  | m :: ns, σ, h => by
    have e : ∀ σ : St, σ.frz (m :: ns) = (σ.frz1 m).frz ns := fun _ => rfl
    rw [e, e, frz1_setObj (fun x => h ⟨x.1, by simp [x.2]⟩), frz_setObj ns (fun x => h ⟨x.1, by simp [x.2]⟩)]
theorem frz1_comm {a b : Nat} : (σ.frz1 a).frz1 b = (σ.frz1 b).frz1 a := by
  by_cases hab : a = b
  · subst hab; rfl
  · have hb : (σ.frz1 b).obj 0 a = σ.obj 0 a := by rw [obj_frz1, if_neg (fun e => hab e.2)]
    by_cases h : ∃ s es gr, σ.obj 0 a = some (.rw s es gr)
    · obtain ⟨s, es, gr, ho⟩ := h
      rw [frz1_eq σ a, frz1_eq (σ.frz1 b) a, hb, ho]
      simp only
      exact frz1_setObj (fun e => hab e.2)
    · have h1 : ∀ s es gr, σ.obj 0 a ≠ some (.rw s es gr) := fun s es gr e => h ⟨s, es, gr, e⟩
      rw [frz1_no h1, frz1_no (σ := σ.frz1 b) (by rw [hb]; exact h1)]
theorem frz_frz1 : ∀ (ns : List Nat) {σ : St} {a : Nat}, (σ.frz ns).frz1 a = (σ.frz1 a).frz ns
  | [], _, _ => rfl
  | n :: ns, σ, a => by
    have e : ∀ σ : St, σ.frz (n :: ns) = (σ.frz1 n).frz ns := fun _ => rfl
    rw [e, e, frz_frz1 ns, frz1_comm]
theorem frz_frz : ∀ (ms ns : List Nat) {σ : St}, (σ.frz ns).frz ms = (σ.frz ms).frz ns
  | [], _, _ => rfl
  | m :: ms, ns, σ => by
    have e : ∀ σ : St, σ.frz (m :: ms) = (σ.frz1 m).frz ms := fun _ => rfl
    rw [e, e, frz_frz1 ns, frz_frz ms ns]
theorem frz_mem : ∀ (ns : List Nat) {σ : St} {a : Nat}, a ∈ ns → (σ.frz ns).frz1 a = σ.frz ns
  | n :: ns, σ, a, h => by
    have e : ∀ σ : St, σ.frz (n :: ns) = (σ.frz1 n).frz ns := fun _ => rfl
    rw [e]
    by_cases ha : a ∈ ns
    · exact frz_mem ns ha
    · have : a = n := by simpa [ha] using h
      subst this
      rw [frz_frz1, frz1_idem]
theorem frz_filter (ns : List Nat) : ∀ (ms : List Nat) {σ : St}, (σ.frz ns).frz (ms.filter fun m => !ns.contains m) = (σ.frz ns).frz ms
  | [], _ => rfl
  | m :: ms, σ => by
    have e : ∀ (k : List Nat) (σ : St), σ.frz (m :: k) = (σ.frz1 m).frz k := fun _ _ => rfl
    by_cases h : m ∈ ns
    · rw [List.filter_cons, if_neg (by simp [h]), e, frz_mem ns h]
      exact frz_filter ns ms
    · rw [List.filter_cons, if_pos (by simp [h]), e, e, frz_frz1]
      exact frz_filter ns ms
def Frozen (ns : List Nat) (σ τ : St) : Prop := ∀ l n, σ.obj l n ≠ none → τ.obj l n = if l = 0 ∧ n ∈ ns then frzO (σ.obj l n) else σ.obj l n
mutual
theorem toT_frozen {ns : List Nat} (h : Frozen ns σ τ) : ∀ v : V, ExV σ v → τ.toT v = (σ.toT v).map fun p => (p.1, p.2.filter fun m => !ns.contains m)
  | .row l n lo len s, e => by
    simp only [ExV, St.rowOf] at e
    have hn : σ.obj l n ≠ none := fun hx => by rw [hx] at e; rcases e with e | e <;> cases e
    have hh := h l n hn
    simp only [St.toT]
    rw [hh]
    cases ho : σ.obj l n with
    | none => exact absurd ho hn
    | some o =>
      cases o with
      | box cs => rw [ho] at e; rcases e with e | e <;> cases e
      | gone =>
        have : (if l = 0 ∧ n ∈ ns then frzO (some Ob.gone) else some Ob.gone) = some Ob.gone := by split <;> rfl
        rw [this]
        cases l <;> rfl
      | rw s' es gr =>
        rw [ho] at e
        have e := e.resolve_right (by intro h; cases h)
        simp only at e
        split at e
        · rename_i hfit
          by_cases hin : l = 0 ∧ n ∈ ns
          · obtain ⟨rfl, hin⟩ := hin
            simp [hin, frzO, hfit]
          · rw [if_neg hin]
            cases l with
            | zero =>
              have : n ∉ ns := fun hx => hin ⟨rfl, hx⟩
              simp [hfit, this]
            | succ l => rfl
        · cases e
      | fz s' es =>
        have : (if l = 0 ∧ n ∈ ns then frzO (some (Ob.fz s' es)) else some (Ob.fz s' es)) = some (Ob.fz s' es) := by split <;> rfl
        rw [this]
        simp only
        split <;> simp
  | .ag cs, e => by
    simp only [St.toT]
    rw [toTs_frozen h cs e]
    cases σ.toTs cs with
    | none => rfl
    | some q => rfl
  | .d true t, _ | .dx true t, _ | .nil s, _ => by simp [St.toT]
  | .d false t, _ | .dx false t, _ | .ptr .., _ | .rel .., _ | .pd _, _ | .tp _, _ | .cl .., _ | .u, _ => by simp [St.toT]
theorem toTs_frozen {ns : List Nat} (h : Frozen ns σ τ) : ∀ vs : List V, ExVs σ vs → τ.toTs vs = (σ.toTs vs).map fun p => (p.1, p.2.filter fun m => !ns.contains m)
  | [], _ => rfl
  | v :: vs, e => by
    simp only [St.toTs]
    rw [toT_frozen h v e.1, toTs_frozen h vs e.2]
    cases σ.toT v with
    | none => rfl
    | some q => cases σ.toTs vs with
      | none => rfl
      | some r => simp
end
mutual
theorem toT_names : ∀ (v : V) (t : T) (ns : List Nat), σ.toT v = some (t, ns) → ∀ n ∈ ns, ∃ s es gr, σ.obj 0 n = some (.rw s es gr)
  | .row l n lo len s, t, ns, h, m, hm => by
    simp only [St.toT] at h
    split at h
    · split at h
      · cases h; cases hm
      · cases h
    · rename_i s' es gr ho
      split at h
      · cases h; simp at hm; subst hm; exact ⟨_, _, _, ho⟩
      · cases h
    · cases h
  | .ag cs, t, ns, h, m, hm => by
    simp only [St.toT] at h
    split at h
    · rename_i hh; cases h; exact toTs_names cs _ _ hh m hm
    · cases h
  | .d true t', t, ns, h, m, hm | .dx true t', t, ns, h, m, hm | .nil s, t, ns, h, m, hm => by simp only [St.toT, Option.some.injEq, Prod.mk.injEq] at h; rw [← h.2] at hm; cases hm
  | .d false t', t, ns, h, m, hm | .dx false t', t, ns, h, m, hm | .ptr .., t, ns, h, m, hm | .rel .., t, ns, h, m, hm | .pd _, t, ns, h, m, hm | .tp _, t, ns, h, m, hm | .cl .., t, ns, h, m, hm | .u, t, ns, h, m, hm => by simp [St.toT] at h
theorem toTs_names : ∀ (vs : List V) (ts : List T) (ns : List Nat), σ.toTs vs = some (ts, ns) → ∀ n ∈ ns, ∃ s es gr, σ.obj 0 n = some (.rw s es gr)
  | [], ts, ns, h, m, hm => by simp only [St.toTs, Option.some.injEq, Prod.mk.injEq] at h; rw [← h.2] at hm; cases hm
  | v :: vs, ts, ns, h, m, hm => by
    simp only [St.toTs] at h
    split at h
    · rename_i t1 n1 ts1 m1 e1 e2
      cases h
      rcases List.mem_append.1 hm with hm | hm
      · exact toT_names v t1 n1 e1 m hm
      · exact toTs_names vs ts1 m1 e2 m hm
    · cases h
end
theorem Frozen.mk {ns : List Nat} {nm d : Nat} {o : Ob} {v : V} (hno : (σ.frz ns).obj 0 nm = none) : Frozen ns σ (((σ.frz ns).setObj 0 nm (some o)).set d v) := fun l n hn => by
  rw [St.obj_set, St.obj_setObj, obj_frz]
  by_cases h : 0 = l ∧ nm = n
  · obtain ⟨rfl, rfl⟩ := h
    rw [obj_frz] at hno
    exfalso
    split at hno
    · cases ho : σ.obj 0 nm with
      | none => exact hn ho
      | some o => rw [ho] at hno; cases o <;> cases hno
    · exact hn hno
  · rw [if_neg h]
theorem obj_none_frz {ns : List Nat} {l n : Nat} : (σ.frz ns).obj l n = none ↔ σ.obj l n = none := by
  rw [obj_frz]
  split
  · cases σ.obj l n with
    | none => simp [frzO]
    | some o => cases o <;> simp [frzO]
  · exact Iff.rfl
theorem mk_names {i : I} {ns : List Nat} {o : Ob} {v : V} (h : mk σ i = some (ns, o, v)) : ∀ n ∈ ns, ∃ s es gr, σ.obj 0 n = some (.rw s es gr) := by
  cases i with
  | bsl d nm s n z ps =>
    simp only [mk] at h
    split at h
    · rename_i ts ns' t e1 e2
      split at h
      · cases h; exact toTs_names _ _ _ e1
      · cases h
    · cases h
  | nilr d nm s => simp only [mk, Option.some.injEq, Prod.mk.injEq] at h; rw [← h.1]; intro n hn; cases hn
  | alloc d nm z =>
    simp only [mk] at h
    split at h
    · cases h; intro n hn; cases hn
    · cases h
  | box d nm x w =>
    simp only [mk] at h
    split at h
    · cases h; intro n hn; cases hn
    · cases h
  | mks d nm s a b z =>
    simp only [mk] at h
    split at h
    · split at h
      · cases h; intro n hn; cases hn
      · cases h
    · cases h
  | _ => cases h
mutual
theorem V.plain_ex : ∀ v : V, v.plain = true → ExV σ v
  | .row .., h | .ptr .., h | .rel .., h => by simp [V.plain] at h
  | .ag cs, h => V.plains_ex cs (by simpa [V.plain] using h)
  | .d .., _ | .dx .., _ | .nil _, _ | .pd _, _ | .tp _, _ | .cl .., _ | .u, _ => trivial
theorem V.plains_ex : ∀ vs : List V, V.plains vs = true → ExVs σ vs
  | [], _ => trivial
  | v :: vs, h => by
    simp only [V.plains, Bool.and_eq_true] at h
    exact ⟨V.plain_ex v h.1, V.plains_ex vs h.2⟩
end
theorem ex_val (hex : ∀ t, ExV σ (σ.get t)) {x : X} (hp : x.plain = true) : ExV σ (σ.val x) := by
  cases x with
  | t n => exact hex n
  | c v => exact V.plain_ex v hp
theorem ex_vals (hex : ∀ t, ExV σ (σ.get t)) : ∀ {ps : List (Nat × X)}, ps.all (fun p => p.2.plain) = true → ExVs σ (ps.map fun p => σ.val p.2)
  | [], _ => trivial
  | p :: ps, h => by
    simp only [List.all_cons, Bool.and_eq_true] at h
    exact ⟨ex_val hex h.1, ex_vals hex h.2⟩
def I.bare : I → Bool
  | .bsl _ _ _ _ _ ps => ps.all fun p => p.2.plain
  | .app _ _ _ x y => x.plain && y.plain
  | _ => true
theorem ps_agr {ps : List (Nat × X)} (ha : ∀ t ∈ Xs.slots (ps.map (·.2)), τ.get t = σ.get t) : (ps.map fun p => τ.val p.2) = ps.map fun p => σ.val p.2 := by
  refine List.map_congr_left fun p hp => val_agr fun t ht => ha t ?_
  clear ha
  induction ps with
  | nil => cases hp
  | cons q ps ih =>
    simp only [List.map_cons, Xs.slots, List.mem_append]
    rcases List.mem_cons.1 hp with rfl | hp
    · exact .inl ht
    · exact .inr (ih hp)
theorem mk_frozen {i : I} {ns : List Nat} (hk : i.bare = true) (hex : ∀ t, ExV σ (σ.get t)) (hf : Frozen ns σ τ) (ha : ∀ t ∈ i.reads, τ.get t = σ.get t) :
    mk τ i = (mk σ i).map fun p => (p.1.filter fun m => !ns.contains m, p.2) := by
  cases i with
  | nilr d nm s => simp [mk]
  | alloc d nm z => simp only [mk]; cases z.mapM Z.v <;> simp
  | box d nm x w =>
    simp only [I.reads] at ha
    simp only [mk, val_agr ha]
    cases cellsOf w (σ.val x) <;> simp
  | mks d nm s a b z =>
    simp only [I.reads, List.mem_append] at ha
    simp only [mk, val_agr (x := a) (fun t h => ha t (.inl h)), val_agr (x := b) (fun t h => ha t (.inr h))]
    split
    · split <;> simp
    · simp
  | bsl d nm s n z ps =>
    simp only [I.reads] at ha
    simp only [mk, ps_agr ha]
    rw [toTs_frozen hf _ (ex_vals hex hk)]
    cases hq : σ.toTs (ps.map fun p => σ.val p.2) with
    | none => rfl
    | some q =>
      obtain ⟨ts, ms⟩ := q
      cases z.t? with
      | none => rfl
      | some t =>
        simp only [Option.map_some]
        cases flatFill t ts _ <;> rfl
  | _ => rfl
theorem mk_mk {x y : I} {a b : Nat} {σ₁ σ₂ : St} (hx : x.mkn = some a) (hy : y.mkn = some b) (hab : a ≠ b) (hkx : x.bare = true) (hky : y.bare = true) (hex : ∀ t, ExV σ (σ.get t))
    {d e : Nat} (hd : x.dst = some d) (he : y.dst = some e) (hde : d ≠ e) (hrx : e ∉ x.reads) (hry : d ∉ y.reads) (h1 : step σ x = some σ₁) (h2 : step σ₁ y = some σ₂) :
    ∃ τ, step σ y = some τ ∧ step τ x = some σ₂ := by
  obtain ⟨d', hd', q1⟩ := step_mk (σ := σ) hx
  rw [hd] at hd'; cases hd'
  obtain ⟨e', he', q2⟩ := step_mk (σ := σ₁) hy
  rw [he] at he'; cases he'
  rw [q1] at h1
  cases m1 : mk σ x with
  | none => rw [m1] at h1; cases h1
  | some p1 =>
    obtain ⟨ns, o, v⟩ := p1
    rw [m1] at h1
    simp only at h1
    obtain ⟨ρ₁, hn1, rfl⟩ := map_some h1
    obtain ⟨hno1, rfl⟩ := new_some hn1
    rw [obj_none_frz] at hno1
    have F1 : Frozen ns σ (((σ.frz ns).setObj 0 a (some o)).set d v) := Frozen.mk (obj_none_frz.2 hno1)
    have A1 : ∀ t ∈ y.reads, (((σ.frz ns).setObj 0 a (some o)).set d v).get t = σ.get t := fun t ht => by
      rw [St.get_set, if_neg (fun hh => hry (by rw [hh]; exact ht)), St.get_setObj, St.get_frz]
    rw [q2, mk_frozen hky hex F1 A1] at h2
    cases m2 : mk σ y with
    | none => rw [m2] at h2; cases h2
    | some p2 =>
      obtain ⟨ms, p, u1⟩ := p2
      rw [m2] at h2
      simp only [Option.map_some] at h2
      obtain ⟨ρ₂, hn2, rfl⟩ := map_some h2
      obtain ⟨hno2, rfl⟩ := new_some hn2
      rw [obj_none_frz, St.obj_set, St.obj_setObj, if_neg (fun e => hab e.2), obj_none_frz] at hno2
      have n1 : a ∉ ms := fun hm => by obtain ⟨s, es, gr, hh⟩ := mk_names m2 a hm; rw [hno1] at hh; cases hh
      have n2 : b ∉ ns := fun hm => by obtain ⟨s, es, gr, hh⟩ := mk_names m1 b hm; rw [hno2] at hh; cases hh
      have F2 : Frozen ms σ (((σ.frz ms).setObj 0 b (some p)).set e u1) := Frozen.mk (obj_none_frz.2 hno2)
      have A2 : ∀ t ∈ x.reads, (((σ.frz ms).setObj 0 b (some p)).set e u1).get t = σ.get t := fun t ht => by
        rw [St.get_set, if_neg (fun hh => hrx (by rw [hh]; exact ht)), St.get_setObj, St.get_frz]
      obtain ⟨e', he', q3⟩ := step_mk (σ := σ) hy
      rw [he] at he'; cases he'
      refine ⟨((σ.frz ms).setObj 0 b (some p)).set e u1, ?_, ?_⟩
      · rw [q3, m2]
        simp only [St.new, obj_none_frz.2 hno2, Option.map_some]
      · obtain ⟨d', hd', q4⟩ := step_mk (σ := ((σ.frz ms).setObj 0 b (some p)).set e u1) hx
        rw [hd] at hd'; cases hd'
        rw [q4, mk_frozen hkx hex F2 A2, m1]
        have hno : ((((σ.frz ms).setObj 0 b (some p)).set e u1).frz (ns.filter fun m => !ms.contains m)).obj 0 a = none := by
          rw [obj_none_frz, St.obj_set, St.obj_setObj, if_neg (fun e => hab e.2.symm), obj_none_frz]; exact hno1
        simp only [Option.map_some, St.new, hno]
        congr 1
        rw [frz_set, frz_set, frz_setObj _ (fun e => n2 (List.mem_filter.1 e.2).1), frz_setObj _ (fun e => n1 (List.mem_filter.1 e.2).1), frz_filter, frz_filter, frz_frz ns ms]
        rw [setObj_set, setObj_set, setObj_comm (fun e => hab e.2), set_comm hde]
def I.apn : I → Option Nat
  | .app _ nm _ _ _ => some nm
  | _ => none
def appN (σ : St) (s nm : Nat) (x y : V) : Option (Nat × Nat × Ob × V) :=
  match σ.els s y with
  | none => none
  | some ys => match x with
    | .nil s' => if s = s' ∧ ys.length ≤ big then match σ.obj 0 nm with
        | none => some (0, nm, .rw s ys true, .row 0 nm 0 ys.length s)
        | some _ => none
      else none
    | .dx _ (.lst s' es) => if s = s' ∧ 0 < ys.length ∧ es.length + ys.length ≤ big then match σ.obj 0 nm with
        | none => some (0, nm, .rw s (es ++ ys) true, .row 0 nm 0 (es.length + ys.length) s)
        | some _ => none
      else none
    | .row l n lo len s' => if s = s' then match σ.obj l n with
        | some (.rw _ es _) => if len = es.length ∧ es.length + ys.length ≤ big ∧ lo = 0 then some (l, n, .rw s (es ++ ys) true, .row l n lo (len + ys.length) s) else none
        | _ => none
      else none
    | _ => none
theorem app_N {d nm s : Nat} {x y : V} : σ.app d nm s x y = (appN σ s nm x y).map fun p => (σ.setObj p.1 p.2.1 (some p.2.2.1)).set d p.2.2.2 := by
  unfold St.app appN
  cases σ.els s y with
  | none => rfl
  | some ys =>
    cases x with
    | nil s' =>
      simp only
      by_cases h : s = s' ∧ ys.length ≤ big
      · rw [if_pos h, if_pos h]; unfold St.new; cases σ.obj 0 nm <;> rfl
      · rw [if_neg h, if_neg h]; rfl
    | dx p t => cases t with
      | lst s' es =>
        simp only
        by_cases h : s = s' ∧ 0 < ys.length ∧ es.length + ys.length ≤ big
        · rw [if_pos h, if_pos h]; unfold St.new; cases σ.obj 0 nm <;> rfl
        · rw [if_neg h, if_neg h]; rfl
      | _ => rfl
    | row l n lo len s' =>
      simp only
      by_cases h : s = s'
      · rw [if_pos h, if_pos h]
        cases σ.obj l n with
        | none => rfl
        | some o => cases o with
          | rw s1 es gr =>
            simp only
            by_cases h2 : len = es.length ∧ es.length + ys.length ≤ big ∧ lo = 0
            · rw [if_pos h2, if_pos h2]; rfl
            · rw [if_neg h2, if_neg h2]; rfl
          | _ => rfl
      · rw [if_neg h, if_neg h]; rfl
    | _ => rfl
theorem appN_at {s nm : Nat} {x y : V} {l n : Nat} {o : Ob} {v : V} (h : appN σ s nm x y = some (l, n, o, v)) : (l = 0 ∧ n = nm ∧ σ.obj 0 nm = none) ∨ σ.obj l n ≠ none := by
  unfold appN at h
  split at h
  · cases h
  · split at h
    · split at h
      · split at h
        · rename_i hno; cases h; exact .inl ⟨rfl, rfl, hno⟩
        · cases h
      · cases h
    · split at h
      · split at h
        · rename_i hno; cases h; exact .inl ⟨rfl, rfl, hno⟩
        · cases h
      · cases h
    · split at h
      · split at h
        · rename_i ho
          split at h
          · cases h; right; rw [ho]; simp
          · cases h
        · cases h
      · cases h
    · cases h
theorem appN_agr {s nm : Nat} {x y : V} (hF : Frozen [] σ τ) (hx : ExV σ x) (hy : ExV σ y) (hn : τ.obj 0 nm = none ↔ σ.obj 0 nm = none) : appN τ s nm x y = appN σ s nm x y := by
  have hobj : ∀ l n, σ.obj l n ≠ none → τ.obj l n = σ.obj l n := fun l n h => by have := hF l n h; simpa using this
  have hrow : ∀ l n lo len, ((σ.rowOf l n lo len).isSome = true ∨ σ.obj l n = some .gone) → σ.obj l n ≠ none := fun l n lo len h e => by
    unfold St.rowOf at h; rw [e] at h; rcases h with h | h <;> cases h
  have hels : τ.els s y = σ.els s y := by
    cases y with
    | row l n lo len s' =>
      simp only [St.els]
      have : τ.rowOf l n lo len = σ.rowOf l n lo len := by unfold St.rowOf; rw [hobj l n (hrow _ _ _ _ hy)]
      rw [this]
    | d p t => cases t <;> rfl
    | dx p t => cases t <;> rfl
    | _ => rfl
  have hnew : ∀ (β : Type) (f : β) (g : β), (match τ.obj 0 nm with | none => f | some _ => g) = (match σ.obj 0 nm with | none => f | some _ => g) := fun β f g => by
    cases h1 : σ.obj 0 nm with
    | none => rw [hn.2 h1]
    | some o => rw [hobj 0 nm (by rw [h1]; simp), h1]
  unfold appN
  rw [hels]
  cases σ.els s y with
  | none => rfl
  | some ys =>
    simp only
    cases x with
    | nil s' => simp only [hnew]
    | dx p t => cases t with
      | lst s' es => simp only [hnew]
      | _ => rfl
    | row l n lo len s' => simp only; rw [hobj l n (hrow _ _ _ _ hx)]
    | _ => rfl
mutual
theorem toT_flat : ∀ (v : V) (t : T) (ns : List Nat), σ.toT v = some (t, ns) → t.flat = true → ns = [] ∧ τ.toT v = some (t, [])
  | .d true t', t, ns, h, _ | .dx true t', t, ns, h, _ => by
    simp only [St.toT, Option.some.injEq, Prod.mk.injEq] at h
    exact ⟨h.2.symm, by simp [St.toT, h.1]⟩
  | .nil s, t, ns, h, hf => by simp only [St.toT, Option.some.injEq, Prod.mk.injEq] at h; rw [← h.1] at hf; cases hf
  | .row l n lo len s, t, ns, h, hf => by
    simp only [St.toT] at h
    split at h
    · split at h
      · cases h; cases hf
      · cases h
    · split at h
      · cases h; cases hf
      · cases h
    · cases h
  | .ag cs, t, ns, h, hf => by
    simp only [St.toT] at h
    split at h
    · cases h; cases hf
    · cases h
  | .d false t', t, ns, h, _ | .dx false t', t, ns, h, _ | .ptr .., t, ns, h, _ | .rel .., t, ns, h, _ | .pd _, t, ns, h, _ | .tp _, t, ns, h, _ | .cl .., t, ns, h, _ | .u, t, ns, h, _ => by simp [St.toT] at h
theorem toTs_flat : ∀ (vs : List V) (ts : List T) (ns : List Nat), σ.toTs vs = some (ts, ns) → ts.all T.flat = true → ns = [] ∧ τ.toTs vs = some (ts, [])
  | [], ts, ns, h, _ => by
    simp only [St.toTs, Option.some.injEq, Prod.mk.injEq] at h
    exact ⟨h.2.symm, by simp [St.toTs, h.1]⟩
  | v :: vs, ts, ns, h, hf => by
    simp only [St.toTs] at h
    split at h
    · rename_i t1 n1 ts1 m1 e1 e2
      cases h
      simp only [List.all_cons, Bool.and_eq_true] at hf
      obtain ⟨rfl, r1⟩ := toT_flat v t1 n1 e1 hf.1
      obtain ⟨rfl, r2⟩ := toTs_flat vs ts1 m1 e2 hf.2
      exact ⟨rfl, by simp only [St.toTs, r1, r2]; rfl⟩
    · cases h
end
theorem toT_noL (v : V) (t : T) (ns : List Nat) (h : σ.toT v = some (t, ns)) (hf : t.noL = true) : ns = [] ∧ τ.toT v = some (t, []) := by
  cases v with
  | ag cs =>
    simp only [St.toT] at h
    split at h
    · rename_i ts ns' e
      cases h
      obtain ⟨rfl, r⟩ := toTs_flat (τ := τ) cs ts _ e hf
      exact ⟨rfl, by simp only [St.toT, r]⟩
    · cases h
  | d p t' =>
    cases p with
    | true => simp only [St.toT, Option.some.injEq, Prod.mk.injEq] at h; exact ⟨h.2.symm, by simp [St.toT, h.1]⟩
    | false => simp [St.toT] at h
  | dx p t' =>
    cases p with
    | true => simp only [St.toT, Option.some.injEq, Prod.mk.injEq] at h; exact ⟨h.2.symm, by simp [St.toT, h.1]⟩
    | false => simp [St.toT] at h
  | nil s => simp only [St.toT, Option.some.injEq, Prod.mk.injEq] at h; rw [← h.1] at hf; cases hf
  | row l n lo len s =>
    have : t.flat = true := by
      simp only [St.toT] at h
      split at h
      · split at h
        · cases h; cases hf
        · cases h
      · split at h
        · cases h; cases hf
        · cases h
      · cases h
    exact toT_flat _ _ _ h this
  | _ => simp [St.toT] at h
theorem toTs_noL : ∀ (vs : List V) (ts : List T) (ns : List Nat), σ.toTs vs = some (ts, ns) → ts.all T.noL = true → ns = [] ∧ τ.toTs vs = some (ts, [])
  | [], ts, ns, h, _ => by
    simp only [St.toTs, Option.some.injEq, Prod.mk.injEq] at h
    exact ⟨h.2.symm, by simp [St.toTs, h.1]⟩
  | v :: vs, ts, ns, h, hf => by
    simp only [St.toTs] at h
    split at h
    · rename_i t1 n1 ts1 m1 e1 e2
      cases h
      simp only [List.all_cons, Bool.and_eq_true] at hf
      obtain ⟨rfl, r1⟩ := toT_noL (τ := τ) v t1 n1 e1 hf.1
      obtain ⟨rfl, r2⟩ := toTs_noL vs ts1 m1 e2 hf.2
      exact ⟨rfl, by simp only [St.toTs, r1, r2]; rfl⟩
    · cases h
theorem mk_any {i : I} {ns : List Nat} {o : Ob} {v : V} (ht : i.thaw = true) (ha : ∀ t ∈ i.reads, τ.get t = σ.get t) (h : mk σ i = some (ns, o, v)) : ns = [] ∧ mk τ i = some ([], o, v) := by
  cases i with
  | nilr d nm s => simp only [mk, Option.some.injEq, Prod.mk.injEq] at h ⊢; exact ⟨h.1.symm, trivial, h.2⟩
  | alloc d nm z =>
    simp only [mk] at h ⊢
    split at h
    · simp only [Option.some.injEq, Prod.mk.injEq] at h ⊢; exact ⟨h.1.symm, trivial, h.2⟩
    · cases h
  | box d nm x w =>
    simp only [I.reads] at ha
    simp only [mk, val_agr ha] at h ⊢
    split at h
    · simp only [Option.some.injEq, Prod.mk.injEq] at h ⊢; exact ⟨h.1.symm, trivial, h.2⟩
    · cases h
  | mks d nm s a b z =>
    simp only [I.reads, List.mem_append] at ha
    simp only [mk, val_agr (x := a) (fun t h => ha t (.inl h)), val_agr (x := b) (fun t h => ha t (.inr h))] at h ⊢
    split at h
    · split at h
      · rename_i hc
        simp only [Option.some.injEq, Prod.mk.injEq] at h
        rw [if_pos hc]
        simp only [Option.some.injEq, Prod.mk.injEq]; exact ⟨h.1.symm, trivial, h.2⟩
      · cases h
    · cases h
  | bsl d nm s n z ps =>
    simp only [I.reads] at ha
    simp only [mk, ps_agr ha] at h ⊢
    cases hq : σ.toTs (ps.map fun p => σ.val p.2) with
    | none => rw [hq] at h; cases h
    | some q =>
      obtain ⟨ts, ms⟩ := q
      rw [hq] at h
      cases hz : z.t? with
      | none => rw [hz] at h; cases h
      | some t =>
        rw [hz] at h
        simp only at h
        have key : ms = [] ∧ τ.toTs (ps.map fun p => σ.val p.2) = some (ts, []) := by
          by_cases he : ps.isEmpty = true
          · have : ps = [] := by simpa using he
            subst this
            simp only [List.map_nil, St.toTs, Option.some.injEq, Prod.mk.injEq] at hq ⊢
            exact ⟨hq.2.symm, hq.1, trivial⟩
          · simp only [I.thaw, hz, Bool.or_eq_true, he, Bool.false_eq_true, or_false] at ht
            refine toTs_noL _ ts ms hq ?_
            unfold flatFill at h
            split at h
            · rename_i e
              split at e
              · cases e
              · rename_i hc
                cases hall : ts.all T.noL with
                | true => rfl
                | false => exact absurd ⟨ht, hall⟩ hc
            · cases h
        obtain ⟨rfl, k2⟩ := key
        rw [k2]
        simp only
        split at h
        · simp only [Option.some.injEq, Prod.mk.injEq] at h ⊢; exact ⟨h.1.symm, trivial, h.2⟩
        · cases h
  | _ => cases h
theorem step_appE {d nm s : Nat} {p q : X} : step σ (.app d nm s p q) = (appN σ s nm (σ.val p) (σ.val q)).map fun p => (σ.setObj p.1 p.2.1 (some p.2.2.1)).set d p.2.2.2 := app_N
theorem step_app {x : I} {nm : Nat} (h : x.apn = some nm) : ∃ d s p q, x = .app d nm s p q := by
  cases x <;> simp [I.apn] at h
  subst h
  exact ⟨_, _, _, _, rfl⟩
theorem app_mk {x y : I} {a b : Nat} {σ₁ σ₂ : St} (hx : x.apn = some a) (hy : y.mkn = some b) (hab : a ≠ b) (hkx : x.bare = true) (hth : y.thaw = true) (hex : ∀ t, ExV σ (σ.get t))
    {d e : Nat} (hd : x.dst = some d) (he : y.dst = some e) (hde : d ≠ e) (hrx : e ∉ x.reads) (hry : d ∉ y.reads) (h1 : step σ x = some σ₁) (h2 : step σ₁ y = some σ₂) :
    ∃ τ, step σ y = some τ ∧ step τ x = some σ₂ := by
  obtain ⟨d', s, p, q, rfl⟩ := step_app hx
  cases hd
  simp only [I.bare, Bool.and_eq_true] at hkx
  simp only [I.reads, List.mem_append, not_or] at hrx
  rw [step_appE] at h1
  obtain ⟨⟨l, n, o, v⟩, hN, rfl⟩ := map_some h1
  simp only at h2
  obtain ⟨e', he', q2⟩ := step_mk (σ := (σ.setObj l n (some o)).set d v) hy
  rw [he] at he'; cases he'
  rw [q2] at h2
  cases m2 : mk ((σ.setObj l n (some o)).set d v) y with
  | none => rw [m2] at h2; cases h2
  | some p2 =>
    obtain ⟨ms, r, w⟩ := p2
    rw [m2] at h2
    simp only at h2
    have A : ∀ t ∈ y.reads, σ.get t = ((σ.setObj l n (some o)).set d v).get t := fun t ht => by
      rw [St.get_set, if_neg (fun hh => hry (by rw [hh]; exact ht)), St.get_setObj]
    obtain ⟨rfl, m2'⟩ := mk_any (τ := σ) hth A m2
    obtain ⟨ρ₂, hn2, rfl⟩ := map_some h2
    obtain ⟨hno2, rfl⟩ := new_some hn2
    rw [obj_none_frz, St.obj_set, St.obj_setObj] at hno2
    have hne : ¬ (l = 0 ∧ n = b) := fun hh => by rw [if_pos hh] at hno2; cases hno2
    rw [if_neg hne] at hno2
    obtain ⟨e', he', q3⟩ := step_mk (σ := σ) hy
    rw [he] at he'; cases he'
    refine ⟨(σ.setObj 0 b (some r)).set e w, by rw [q3, m2']; simp [St.frz, St.new, hno2], ?_⟩
    rw [step_appE]
    have F : Frozen [] σ ((σ.setObj 0 b (some r)).set e w) := fun l' n' hn' => by
      rw [St.obj_set, St.obj_setObj, if_neg (fun hh => by obtain ⟨rfl, rfl⟩ := hh; exact hn' hno2)]
      simp
    have vp : ∀ z : X, e ∉ z.slots → ((σ.setObj 0 b (some r)).set e w).val z = σ.val z := fun z hz => by
      rw [val_set hz]; cases z with
      | t k => exact St.get_setObj _ _ _ _ _
      | c v => rfl
    rw [vp p hrx.1, vp q hrx.2, appN_agr F (ex_val hex hkx.1) (ex_val hex hkx.2) (by rw [St.obj_set, St.obj_setObj, if_neg (fun hh => hab hh.2.symm)]), hN]
    simp only [Option.map_some, Option.some.injEq, St.frz, List.foldl_nil]
    rw [setObj_set, setObj_set, setObj_comm (l := 0) (fun hh => hne ⟨hh.1.symm, hh.2.symm⟩), set_comm hde.symm]
theorem mk_app {x y : I} {a b : Nat} {σ₁ σ₂ : St} (hx : x.mkn = some a) (hy : y.apn = some b) (hab : a ≠ b) (hky : y.bare = true) (hth : x.thaw = true) (hex : ∀ t, ExV σ (σ.get t))
    {d e : Nat} (hd : x.dst = some d) (he : y.dst = some e) (hde : d ≠ e) (hrx : e ∉ x.reads) (hry : d ∉ y.reads) (h1 : step σ x = some σ₁) (h2 : step σ₁ y = some σ₂) :
    ∃ τ, step σ y = some τ ∧ step τ x = some σ₂ := by
  obtain ⟨e', s, p, q, rfl⟩ := step_app hy
  cases he
  simp only [I.bare, Bool.and_eq_true] at hky
  simp only [I.reads, List.mem_append, not_or] at hry
  obtain ⟨d', hd', q1⟩ := step_mk (σ := σ) hx
  rw [hd] at hd'; cases hd'
  rw [q1] at h1
  cases m1 : mk σ x with
  | none => rw [m1] at h1; cases h1
  | some p1 =>
    obtain ⟨ns, o, v⟩ := p1
    rw [m1] at h1
    simp only at h1
    obtain ⟨rfl, _⟩ := mk_any (τ := σ) hth (fun _ _ => rfl) m1
    obtain ⟨ρ₁, hn1, rfl⟩ := map_some h1
    obtain ⟨hno1, rfl⟩ := new_some hn1
    simp only [St.frz, List.foldl_nil] at h2 hno1 ⊢
    have F : Frozen [] σ ((σ.setObj 0 a (some o)).set d v) := fun l' n' hn' => by
      rw [St.obj_set, St.obj_setObj, if_neg (fun hh => by obtain ⟨rfl, rfl⟩ := hh; exact hn' hno1)]
      simp
    have vp : ∀ z : X, d ∉ z.slots → ((σ.setObj 0 a (some o)).set d v).val z = σ.val z := fun z hz => by
      rw [val_set hz]; cases z with
      | t k => exact St.get_setObj _ _ _ _ _
      | c v => rfl
    rw [step_appE] at h2 ⊢
    rw [vp p hry.1, vp q hry.2, appN_agr F (ex_val hex hky.1) (ex_val hex hky.2) (by rw [St.obj_set, St.obj_setObj, if_neg (fun hh => hab hh.2)])] at h2
    cases hN : appN σ s b (σ.val p) (σ.val q) with
    | none => rw [hN] at h2; cases h2
    | some r =>
      obtain ⟨l, n, r, w⟩ := r
      rw [hN] at h2
      simp only [Option.map_some, Option.some.injEq] at h2 ⊢
      refine ⟨_, rfl, ?_⟩
      have hne : ¬ (l = 0 ∧ n = a) := fun hh => by
        obtain ⟨rfl, rfl⟩ := hh
        rcases appN_at hN with h | h
        · exact hab h.2.1
        · exact h hno1
      obtain ⟨d', hd', q4⟩ := step_mk (σ := (σ.setObj l n (some r)).set e w) hx
      rw [hd] at hd'; cases hd'
      have A : ∀ t ∈ x.reads, ((σ.setObj l n (some r)).set e w).get t = σ.get t := fun t ht => by
        rw [St.get_set, if_neg (fun hh => hrx (by rw [hh]; exact ht)), St.get_setObj]
      rw [q4, (mk_any hth A m1).2]
      have hno : ((σ.setObj l n (some r)).set e w).obj 0 a = none := by rw [St.obj_set, St.obj_setObj, if_neg hne]; exact hno1
      simp only [St.frz, List.foldl_nil, St.new, hno, Option.map_some, Option.some.injEq]
      rw [← h2, setObj_set, setObj_set, setObj_comm hne, set_comm hde.symm]
def comM (x y : G) : Bool :=
  x.g.isNone && y.g.isNone && sep x y && x.i.bare && y.i.bare &&
  (match x.i.mkn, y.i.mkn with
    | some a, some b => decide (a ≠ b)
    | some a, none => (match y.i.apn with | some b => decide (a ≠ b) && x.i.thaw | none => false)
    | none, some b => (match x.i.apn with | some a => decide (a ≠ b) && y.i.thaw | none => false)
    | none, none => false)
theorem op1_plain {i : I} {σ' : St} (hm : i.mkn ≠ none ∨ i.apn ≠ none) (h : Op1 P E σ ⟨i, none⟩ σ') : step σ i = some σ' := by
  cases h with
  | step hg h => exact h
  | skip hg => simp [St.wants] at hg
  | _ => rcases hm with hm | hm <;> exact absurd rfl hm
def com2 (E : Env) (x y : G) : Bool := com E x y || comM x y
theorem swap2 {x y : G} {σ₁ σ₂ : St} (hE : ExtOk E) (hex : ∀ t, ExV σ (σ.get t)) (hc : com2 E x y = true) (h1 : Op1 P E σ x σ₁) (h2 : Op1 P E σ₁ y σ₂) : ∃ τ, Op1 P E σ y τ ∧ Op1 P E τ x σ₂ := by
  simp only [com2, Bool.or_eq_true] at hc
  rcases hc with hc | hc
  · exact swap hE hex hc h1 h2
  · obtain ⟨x, gx⟩ := x
    obtain ⟨y, gy⟩ := y
    simp only [comM, Bool.and_eq_true, Option.isNone_iff_eq_none] at hc
    obtain ⟨⟨⟨⟨⟨rfl, rfl⟩, hs⟩, bx⟩, by'⟩, hc⟩ := hc
    have dst : ∀ i : I, i.mkn ≠ none ∨ i.apn ≠ none → ∃ d, i.dst = some d := fun i h => by
      cases i <;> first | exact ⟨_, rfl⟩ | (rcases h with h | h <;> exact absurd rfl h)
    have fin : ∀ (hx : x.mkn ≠ none ∨ x.apn ≠ none) (hy : y.mkn ≠ none ∨ y.apn ≠ none),
        (∀ d e, x.dst = some d → y.dst = some e → d ≠ e → e ∉ x.reads → d ∉ y.reads → step σ x = some σ₁ → step σ₁ y = some σ₂ → ∃ τ, step σ y = some τ ∧ step τ x = some σ₂) →
        ∃ τ, Op1 P E σ ⟨y, none⟩ τ ∧ Op1 P E τ ⟨x, none⟩ σ₂ := fun hx hy k => by
      obtain ⟨d, hd⟩ := dst x hx
      obtain ⟨e, he⟩ := dst y hy
      simp only [sep, hd, he, Bool.and_eq_true, decide_eq_true_eq, G.reads, List.nil_append, Bool.not_eq_true', List.contains_eq_mem, decide_eq_false_iff_not] at hs
      obtain ⟨τ, t1, t2⟩ := k d e hd he (fun hh => hs.1.2 (by rw [hh])) hs.2 hs.1.1 (op1_plain hx h1) (op1_plain hy h2)
      exact ⟨τ, .step rfl t1, .step rfl t2⟩
    split at hc
    · rename_i a b ha hb
      exact fin (.inl (by rw [ha]; simp)) (.inl (by rw [hb]; simp)) fun d e hd he hde hrx hry => mk_mk ha hb (by simpa using hc) bx by' hex hd he hde hrx hry
    · rename_i a ha hb
      split at hc
      · rename_i b hb'
        simp only [Bool.and_eq_true, decide_eq_true_eq] at hc
        exact fin (.inl (by rw [ha]; simp)) (.inr (by rw [hb']; simp)) fun d e hd he hde hrx hry => mk_app ha hb' hc.1 by' hc.2 hex hd he hde hrx hry
      · cases hc
    · rename_i b ha hb
      split at hc
      · rename_i a ha'
        simp only [Bool.and_eq_true, decide_eq_true_eq] at hc
        exact fin (.inr (by rw [ha']; simp)) (.inl (by rw [hb]; simp)) fun d e hd he hde hrx hry => app_mk ha' hb hc.1 bx hc.2 hex hd he hde hrx hry
      · cases hc
    · cases hc
end
end Go.Proofs.Ytkhgnkfdpabflaa.Vm
/- Lists of operations in other orders. -/
namespace Go.Proofs.Ytkhgnkfdpabflaa.Vm
open Go
section
variable {P : Program} {E : Env}
theorem opwp_ex {ops : Array Oper} {o : Oper} {K : Act → World → Prop} {a : Act} {w : World} (h : OpWp P ops (fun _ _ _ => False) o K a w) : ∃ a' w', K a' w' := by
  unfold OpWp at h
  split at h
  · have h := Or.inl (b := False) h
    rcases h with h | h
    · unfold Oper.wp at h
      generalize (execOp a.eval o).run P w = r at h
      cases r with
      | ok n w' =>
        cases n with
        | value v => exact ⟨_, _, h⟩
        | skip => exact ⟨_, _, h⟩
        | defer d => exact ⟨_, _, h⟩
        | enter f args =>
          obtain ⟨e, w'', fr, hR, _⟩ := h []
          cases e with
          | returned v => exact ⟨_, _, hR⟩
          | panicked c => exact hR.elim
          | outgrown => obtain ⟨_, _, hR⟩ := hR; exact hR.elim
        | row row args =>
          obtain ⟨v, w'', hR, _⟩ := h (default : Frame) []
          exact ⟨_, _, hR⟩
        | _ => exact h.elim
      | halt x w' => cases x <;> exact h.elim
    · exact h.elim
  · exact ⟨_, _, h⟩
def Good (nt : Nat) (σ : St) : Prop := ∃ g tmps rts w, Rel g σ tmps rts w ∧ tmps.size = nt
theorem op_good (hE : EnvOk P E) {nt : Nat} {i : G} {o : Oper} {ops : Array Oper} {σ σ' : St} (hok : okG P nt ops i o = true) (h : Good nt σ) (h1 : Op1 P E σ i σ') : Good nt σ' := by
  obtain ⟨g, tmps, rts, w, R, hnt⟩ := h
  have := op_wp (K := fun a' w' => Next g w rts nt σ.up.length σ' [] a' w') (Q := fun _ _ _ => False) hE hok R hnt h1 (fun _ _ h => h)
  obtain ⟨a', w', g', tmps', _, hs, R', _⟩ := opwp_ex this
  exact ⟨g', tmps', rts, w', R', hs⟩
theorem Ops1.append {σ σ₁ σ' : St} {is js : List G} (h : Ops1 P E σ is σ₁) (k : Ops1 P E σ₁ js σ') : Ops1 P E σ (is ++ js) σ' := by
  induction h with
  | nil => exact k
  | cons h _ ih => exact .cons h (ih k)
theorem Ops1.split : ∀ {is js : List G} {σ σ' : St}, Ops1 P E σ (is ++ js) σ' → ∃ σ₁, Ops1 P E σ is σ₁ ∧ Ops1 P E σ₁ js σ'
  | [], _, σ, _, h => ⟨σ, .nil, h⟩
  | i :: is, js, σ, σ', h => by
    cases h with
    | cons h hr =>
      obtain ⟨σ₁, h1, h2⟩ := Ops1.split hr
      exact ⟨σ₁, .cons h h1, h2⟩
def AllOk (P : Program) (nt : Nat) (ops : Array Oper) (is : List G) : Prop := ∀ i ∈ is, ∃ o, okG P nt ops i o = true
theorem bubble (hE : EnvOk P E) (hX : ExtOk E) {nt : Nat} {ops : Array Oper} {x : G} : ∀ {is : List G} {σ σ' : St} {js : List G}, Good nt σ → AllOk P nt ops (is ++ x :: js) → (∀ i ∈ is, com2 E i x = true) →
    Ops1 P E σ (is ++ x :: js) σ' → Ops1 P E σ (x :: (is ++ js)) σ'
  | [], _, _, _, _, _, _, h => h
  | i :: is, σ, σ', js, hg, ha, hc, h => by
    cases h with
    | @cons _ σ₁ _ _ _ h hr =>
      obtain ⟨o, ho⟩ := ha i (by simp)
      have hg1 := op_good hE ho hg h
      have hr' := bubble hE hX hg1 (fun k hk => ha k (by simp at hk ⊢; exact .inr hk)) (fun k hk => hc k (by simp [hk])) hr
      cases hr' with
      | @cons _ σ₂ _ _ _ h2 hr2 =>
        obtain ⟨g, tmps, rts, w, R, _⟩ := hg
        obtain ⟨τ, t1, t2⟩ := swap2 hX (fun t => R.ex t) (hc i (by simp)) h h2
        exact .cons t1 (.cons t2 hr2)
inductive Conn (C : Nat → Nat → Prop) : List Nat → List Nat → Prop
  | nil : Conn C [] []
  | cons {i a b r} (hc : ∀ j ∈ a, C j i) (h : Conn C r (a ++ b)) : Conn C (i :: r) (a ++ i :: b)
theorem lin (hE : EnvOk P E) (hX : ExtOk E) {nt : Nat} {ops : Array Oper} {it : Nat → G} {r s : List Nat} (hc : Conn (fun j i => com2 E (it j) (it i) = true) r s) : ∀ {σ σ' : St}, Good nt σ → AllOk P nt ops (s.map it) →
    Ops1 P E σ (s.map it) σ' → Ops1 P E σ (r.map it) σ' := by
  induction hc with
  | nil => intro σ σ' _ _ h; exact h
  | @cons i a b r hc _ ih =>
    intro σ σ' hg ha h
    rw [List.map_append, List.map_cons] at h ha
    have h' := bubble hE hX hg ha (fun k hk => by
      obtain ⟨j, hj, rfl⟩ := List.mem_map.1 hk
      exact hc j hj) h
    cases h' with
    | @cons _ σ₁ _ _ _ h1 hr =>
      obtain ⟨o, ho⟩ := ha (it i) (by simp)
      refine .cons h1 (ih (op_good hE ho hg h1) (fun k hk => ha k ?_) (by rw [List.map_append]; exact hr))
      rw [List.map_append] at hk
      simp only [List.mem_append, List.mem_cons] at hk ⊢
      rcases hk with hk | hk
      · exact .inl hk
      · exact .inr (.inr hk)
end
end Go.Proofs.Ytkhgnkfdpabflaa.Vm
/- Every order that Go may draw. -/
namespace Go.Proofs.Ytkhgnkfdpabflaa.Vm
open Go
def itG (is : List G) (k : Nat) : G := is.getD k ⟨.bad, none⟩
def maskOf (acc : List Nat) (o : Oper) : Nat := o.after.toList.foldl (fun s e => if Region.binds .any e then s ||| 2 ^ e.on ||| acc.getD e.on 0 else s) 0
def befs : List Oper → List Nat → List Nat
  | [], acc => acc
  | o :: os, acc => befs os (acc ++ [maskOf acc o])
theorem mask_bit (acc : List Nat) (j : Nat) : ∀ (l : List Edge) (s : Nat), (l.foldl (fun s e => if Region.binds .any e then s ||| 2 ^ e.on ||| acc.getD e.on 0 else s) s).testBit j = true →
    s.testBit j = true ∨ ∃ e ∈ l, Region.binds .any e = true ∧ (e.on = j ∨ (acc.getD e.on 0).testBit j = true)
  | [], s, h => .inl h
  | e :: l, s, h => by
    simp only [List.foldl_cons] at h
    rcases mask_bit acc j l _ h with h | ⟨e', he, hb⟩
    · split at h
      · rename_i hb
        simp only [Nat.testBit_or, Bool.or_eq_true] at h
        rcases h with (h | h) | h
        · exact .inl h
        · refine .inr ⟨e, by simp, hb, .inl ?_⟩
          rw [Nat.testBit_two_pow] at h
          exact of_decide_eq_true h
        · exact .inr ⟨e, by simp, hb, .inr h⟩
      · exact .inl h
    · exact .inr ⟨e', by simp [he], hb⟩
theorem befs_old : ∀ (os : List Oper) (acc : List Nat) (i : Nat), i < acc.length → (befs os acc).getD i 0 = acc.getD i 0
  | [], _, _, _ => rfl
  | o :: os, acc, i, h => by
    simp only [befs]
    rw [befs_old os _ i (by simp; omega)]
    simp [List.getElem?_append_left h]
theorem befs_spec : ∀ (os : List Oper) (acc : List Nat) (i j : Nat), acc.length ≤ i → ((befs os acc).getD i 0).testBit j = true →
    ∃ o, os[i - acc.length]? = some o ∧ ∃ e ∈ o.after.toList, Region.binds .any e = true ∧ (e.on = j ∨ e.on < i ∧ ((befs os acc).getD e.on 0).testBit j = true)
  | [], acc, i, j, hi, h => by
    simp only [befs] at h
    have : acc.getD i 0 = 0 := by simp [List.getElem?_eq_none hi]
    rw [this] at h
    simp at h
  | o :: os, acc, i, j, hi, h => by
    simp only [befs] at h ⊢
    by_cases he : i = acc.length
    · subst he
      rw [befs_old os _ _ (by simp)] at h
      have hm : (acc ++ [maskOf acc o]).getD acc.length 0 = maskOf acc o := by simp
      rw [hm] at h
      refine ⟨o, by simp, ?_⟩
      rcases mask_bit acc j o.after.toList 0 h with h | ⟨e, hmem, hb, h⟩
      · simp at h
      · refine ⟨e, hmem, hb, h.imp id fun h => ?_⟩
        have hlt : e.on < acc.length := by
          rcases Nat.lt_or_ge e.on acc.length with h' | h'
          · exact h'
          · have : acc.getD e.on 0 = 0 := by simp [List.getElem?_eq_none h']
            rw [this] at h; simp at h
        refine ⟨hlt, ?_⟩
        rw [befs_old os _ _ (by simp; omega)]
        simpa [List.getElem?_append_left hlt] using h
    · obtain ⟨o', ho, e, hmem, hb, h'⟩ := befs_spec os (acc ++ [maskOf acc o]) i j (by simp; omega) h
      refine ⟨o', ?_, e, hmem, hb, h'⟩
      have : i - acc.length = (i - (acc ++ [maskOf acc o]).length) + 1 := by simp; omega
      rw [this, List.getElem?_cons_succ]; exact ho
section
variable {P : Program} {E : Env} {is : List G} {ops : Array Oper}
def Closed (ops : Array Oper) (listed : Array Bool) : Prop := ∀ (i : Nat) (o : Oper), ops[i]? = some o → listed.getD i true = true → ∀ e ∈ o.after.toList, Region.binds .any e = true → listed.getD e.on false = true
def Ahead (ops : Array Oper) : Prop := ∀ (i : Nat) (o : Oper), ops[i]? = some o → ∀ e ∈ o.after.toList, Region.binds .any e = true → e.on < i
theorem getD_both {listed : Array Bool} {i : Nat} (h : i < listed.size) : listed.getD i false = listed.getD i true := by
  simp only [Array.getD_eq_getD_getElem?, Array.getElem?_eq_getElem h, Option.getD_some]
theorem reach {listed : Array Bool} (hs : listed.size = ops.size) (hc : Closed ops listed) : ∀ (n i : Nat) (o : Oper), i ≤ n → ops[i]? = some o → (∀ e ∈ o.after.toList, Region.binds .any e = true → listed.getD e.on false = true) →
    ∀ j, ((befs ops.toList []).getD i 0).testBit j = true → listed.getD j false = true := by
  intro n
  induction n with
  | zero =>
    intro i o hi ho hp j hb
    obtain ⟨o', ho', e, hm, hbd, h⟩ := befs_spec ops.toList [] i j (by simp) hb
    have : o' = o := by
      simp only [List.length_nil, Nat.sub_zero, Array.getElem?_toList] at ho'
      rw [ho] at ho'; cases ho'; rfl
    subst this
    rcases h with rfl | ⟨hlt, _⟩
    · exact hp e hm hbd
    · omega
  | succ n ih =>
    intro i o hi ho hp j hb
    obtain ⟨o', ho', e, hm, hbd, h⟩ := befs_spec ops.toList [] i j (by simp) hb
    have : o' = o := by
      simp only [List.length_nil, Nat.sub_zero, Array.getElem?_toList] at ho'
      rw [ho] at ho'; cases ho'; rfl
    subst this
    rcases h with rfl | ⟨hlt, h⟩
    · exact hp e hm hbd
    · have hl := hp e hm hbd
      have hlt2 : e.on < ops.size := by
        have := (Array.getElem?_eq_some_iff.1 ho).1; omega
      have hl' : listed.getD e.on true = true := by rw [← getD_both (by omega)]; exact hl
      exact ih e.on ops[e.on] (by omega) (Array.getElem?_eq_getElem hlt2) (fun e' hm' hb' => hc e.on _ (Array.getElem?_eq_getElem hlt2) hl' e' hm' hb') j h
def remaining (n : Nat) (listed : Array Bool) : List Nat := (List.range n).filter fun i => !listed.getD i true
theorem range_split {n i : Nat} (h : i < n) : List.range n = List.range i ++ i :: List.range' (i + 1) (n - i - 1) := by
  rw [List.range_eq_range', List.range_eq_range']
  have e : n = i + (1 + (n - i - 1)) := by omega
  rw [e, ← List.range'_append_1, ← List.range'_append_1]
  simp
theorem mem_ready {listed : Array Bool} {i : Nat} : i ∈ Region.ready .any ops listed ↔ i < ops.size ∧ listed.getD i true = false ∧ ∃ o, ops[i]? = some o ∧ ∀ e ∈ o.after.toList, Region.binds .any e = true → listed.getD e.on false = true := by
  unfold Region.ready
  rw [List.mem_filter, List.mem_range]
  constructor
  · rintro ⟨hi, h⟩
    simp only [Bool.and_eq_true, Bool.not_eq_true'] at h
    refine ⟨hi, h.1, ops[i], Array.getElem?_eq_getElem hi, fun e hm hb => ?_⟩
    have h2 := h.2
    rw [Array.getElem?_eq_getElem hi] at h2
    simp only [Option.map_some, Option.getD_some] at h2
    rw [← Array.all_toList] at h2
    have := List.all_eq_true.1 h2 e hm
    simpa [hb] using this
  · rintro ⟨hi, h1, o, ho, h2⟩
    refine ⟨hi, ?_⟩
    simp only [Bool.and_eq_true, Bool.not_eq_true']
    refine ⟨h1, ?_⟩
    rw [ho]
    simp only [Option.map_some, Option.getD_some]
    rw [← Array.all_toList]
    refine List.all_eq_true.2 fun e hm => ?_
    cases hb : Region.binds .any e with
    | false => rfl
    | true => simp [h2 e hm hb]
theorem sched_conn {C : Nat → Nat → Prop} (hA : Ahead ops) (hpair : ∀ i j, i < ops.size → j < i → ((befs ops.toList []).getD i 0).testBit j = true ∨ C j i) : ∀ (fuel t : Nat) (listed : Array Bool), listed.size = ops.size → Closed ops listed → (remaining ops.size listed).length ≤ fuel →
    Conn C (Region.linearise.go .any ops fuel t listed []) (remaining ops.size listed) := by
  intro fuel
  induction fuel with
  | zero =>
    intro t listed _ _ hl
    have : remaining ops.size listed = [] := List.eq_nil_of_length_eq_zero (by omega)
    rw [this]
    exact .nil
  | succ fuel ih =>
    intro t listed hs hc hl
    simp only [Region.linearise.go]
    change Conn C (match (Region.ready .any ops listed)[t % (Region.ready .any ops listed).length]? with
      | some i => Region.linearise.go .any ops fuel (t / (Region.ready .any ops listed).length) (listed.setIfInBounds i true) [i]
      | none => [].reverse) _
    cases hi : (Region.ready .any ops listed)[t % (Region.ready .any ops listed).length]? with
    | none =>
      have hnil : Region.ready .any ops listed = [] := by
        cases hr : Region.ready .any ops listed with
        | nil => rfl
        | cons x xs =>
          rw [hr] at hi
          have hlt : t % (x :: xs).length < (x :: xs).length := Nat.mod_lt _ (by simp)
          rw [List.getElem?_eq_none_iff] at hi
          omega
      have : remaining ops.size listed = [] := by
        -- the least that is not listed would be ready
        have key : ∀ n i, i ≤ n → i < ops.size → listed.getD i true = true := by
          intro n
          induction n with
          | zero =>
            intro i hin hi
            cases hli : listed.getD i true with
            | true => rfl
            | false =>
              have : i ∈ Region.ready .any ops listed := mem_ready.2 ⟨hi, hli, ops[i], Array.getElem?_eq_getElem hi, fun e hm hb => by
                have := hA i _ (Array.getElem?_eq_getElem hi) e hm hb; omega⟩
              rw [hnil] at this; cases this
          | succ n ihn =>
            intro i hin hi
            cases hli : listed.getD i true with
            | true => rfl
            | false =>
              have : i ∈ Region.ready .any ops listed := mem_ready.2 ⟨hi, hli, ops[i], Array.getElem?_eq_getElem hi, fun e hm hb => by
                have := hA i _ (Array.getElem?_eq_getElem hi) e hm hb
                rw [getD_both (by omega)]
                exact ihn e.on (by omega) (by omega)⟩
              rw [hnil] at this; cases this
        unfold remaining
        rw [List.filter_eq_nil_iff]
        intro i hi
        simp [key i i (Nat.le_refl _) (List.mem_range.1 hi)]
      rw [this]
      exact .nil
    | some i =>
      have hmem := mem_ready.1 (List.mem_of_getElem? hi)
      obtain ⟨hin, hli, o, ho, hp⟩ := hmem
      simp only
      rw [linearise_go_acc, List.reverse_singleton, List.singleton_append]
      have hrem : remaining ops.size listed = (List.range i).filter (fun k => !listed.getD k true) ++ i :: (List.range' (i + 1) (ops.size - i - 1)).filter (fun k => !listed.getD k true) := by
        unfold remaining
        rw [range_split hin, List.filter_append, List.filter_cons]
        simp [hli]
      have hset : ∀ k, k ≠ i → (listed.setIfInBounds i true).getD k true = listed.getD k true := fun k hk => by
        simp [Array.getD_eq_getD_getElem?, Array.getElem?_setIfInBounds_ne (Ne.symm hk)]
      have hseti : (listed.setIfInBounds i true).getD i true = true := by
        simp only [Array.getD_eq_getD_getElem?]
        rw [Array.getElem?_setIfInBounds_self]
        split <;> rfl
      have hrem' : remaining ops.size (listed.setIfInBounds i true) = (List.range i).filter (fun k => !listed.getD k true) ++ (List.range' (i + 1) (ops.size - i - 1)).filter (fun k => !listed.getD k true) := by
        unfold remaining
        rw [range_split hin, List.filter_append, List.filter_cons]
        simp only [hseti, Bool.not_true, Bool.false_eq_true, if_false]
        congr 1
        · refine List.filter_congr fun k hk => ?_
          rw [hset k (by have := List.mem_range.1 hk; omega)]
        · refine List.filter_congr fun k hk => ?_
          rw [hset k (by have := List.mem_range'_1.1 hk; omega)]
      rw [hrem]
      refine .cons (fun j hj => ?_) ?_
      · simp only [List.mem_filter, List.mem_range, Bool.not_eq_true'] at hj
        rcases hpair i j hin hj.1 with hb | hb
        · have := reach hs hc i i o (Nat.le_refl _) ho hp j hb
          rw [getD_both (by omega), hj.2] at this
          cases this
        · exact hb
      · rw [← hrem']
        refine ih _ _ (by simp [hs]) (fun k o' ho' hk e hm hb => ?_) ?_
        · have hek : e.on < ops.size := by
            have := hA k o' ho' e hm hb
            have := (Array.getElem?_eq_some_iff.1 ho').1
            omega
          by_cases hei : e.on = i
          · rw [getD_both (by simp; omega), hei]; exact hseti
          · rw [getD_both (by simp; omega), hset _ hei, ← getD_both (by omega)]
            by_cases hki : k = i
            · subst hki
              rw [ho] at ho'; cases ho'
              exact hp e hm hb
            · rw [hset k hki] at hk
              exact hc k o' ho' hk e hm hb
        · rw [hrem']
          rw [hrem] at hl
          simp only [List.length_append, List.length_cons] at hl ⊢
          omega
end
end Go.Proofs.Ytkhgnkfdpabflaa.Vm
/- Orders that differ in more: each kind of them is run. -/
namespace Go.Proofs.Ytkhgnkfdpabflaa.Vm
open Go
theorem idx_ne {a x : Nat} {l : List Nat} (h : a ≠ x) : (a :: l).idxOf x = l.idxOf x + 1 := by
  have : (a == x) = false := by simpa using h
  simp [List.idxOf_cons, this]
theorem idx_inj : ∀ {l : List Nat} {x y : Nat}, x ∈ l → y ∈ l → l.idxOf x = l.idxOf y → x = y
  | [], x, y, h, _, _ => by cases h
  | a :: l, x, y, hx, hy, h => by
    by_cases hax : a = x
    · by_cases hay : a = y
      · omega
      · subst hax; rw [List.idxOf_cons_self, idx_ne hay] at h; omega
    · by_cases hay : a = y
      · subst hay; rw [List.idxOf_cons_self, idx_ne hax] at h; omega
      · rw [idx_ne hax, idx_ne hay] at h
        refine idx_inj (l := l) ?_ ?_ (by omega)
        · rcases List.mem_cons.1 hx with h | h
          · exact absurd h.symm hax
          · exact h
        · rcases List.mem_cons.1 hy with h | h
          · exact absurd h.symm hay
          · exact h
theorem perm_of_sub : ∀ {l r : List Nat}, l.Nodup → l ⊆ r → r.length = l.length → r.Perm l
  | [], r, _, _, h => by rw [List.length_eq_zero_iff.1 h]
  | a :: l, r, hn, hs, h => by
    obtain ⟨p, q, rfl⟩ := List.append_of_mem (hs (List.mem_cons_self))
    have hn' := List.nodup_cons.1 hn
    refine List.perm_middle.trans (.cons a (perm_of_sub hn'.2 (fun x hx => ?_) (by simp at h ⊢; omega)))
    have hxa : x ≠ a := fun e => hn'.1 (e ▸ hx)
    have := hs (List.mem_cons_of_mem a hx)
    simp only [List.mem_append, List.mem_cons] at this ⊢
    rcases this with h | h | h
    · exact .inl h
    · exact absurd h hxa
    · exact .inr h
theorem sub_idx : ∀ {l : List Nat} {x y : Nat}, l.Nodup → x ≠ y → (List.Sublist [x, y] l ↔ x ∈ l ∧ y ∈ l ∧ l.idxOf x < l.idxOf y)
  | [], x, y, _, _ => by simp
  | a :: l, x, y, hn, hxy => by
    have hn' := List.nodup_cons.1 hn
    constructor
    · intro h
      refine ⟨h.subset (by simp), h.subset (by simp), ?_⟩
      cases h with
      | cons _ h =>
        have := (sub_idx hn'.2 hxy).1 h
        have hxa : a ≠ x := fun e => hn'.1 (e ▸ this.1)
        have hya : a ≠ y := fun e => hn'.1 (e ▸ this.2.1)
        rw [idx_ne hxa, idx_ne hya]
        omega
      | cons_cons _ h =>
        rw [List.idxOf_cons_self, idx_ne hxy]
        omega
    · rintro ⟨h1, h2, h3⟩
      by_cases hxa : a = x
      · subst hxa
        rcases List.mem_cons.1 h2 with h2 | h2
        · exact absurd h2.symm hxy
        · exact (List.singleton_sublist.2 h2).cons_cons _
      · by_cases hya : a = y
        · subst hya
          rw [List.idxOf_cons_self] at h3
          omega
        · rw [idx_ne hxa, idx_ne hya] at h3
          refine .cons _ ((sub_idx hn'.2 hxy).2 ⟨?_, ?_, by omega⟩)
          · rcases List.mem_cons.1 h1 with h1 | h1
            · exact absurd h1.symm hxa
            · exact h1
          · rcases List.mem_cons.1 h2 with h2 | h2
            · exact absurd h2.symm hya
            · exact h2
theorem Conn.perm {C : Nat → Nat → Prop} {r s : List Nat} (h : Conn C r s) : r.Perm s := by
  induction h with
  | nil => exact .refl _
  | cons _ _ ih => exact (ih.cons _).trans List.perm_middle.symm
theorem Conn.bef {C : Nat → Nat → Prop} {r s : List Nat} (h : Conn C r s) : s.Nodup → ∀ x y, List.Sublist [x, y] s → List.Sublist [x, y] r ∨ C x y := by
  induction h with
  | nil => intro _ x y h; cases h
  | @cons i a b r hc h ih =>
    intro hn x y hs
    have hn2 : (a ++ b).Nodup ∧ i ∉ a ++ b := by
      have := (List.perm_middle (a := i) (l₁ := a) (l₂ := b)).nodup_iff.1 hn
      exact ⟨(List.nodup_cons.1 this).2, (List.nodup_cons.1 this).1⟩
    have hxy : x ≠ y := by
      have := hs.nodup hn
      simpa using this
    by_cases hx : x = i
    · subst hx
      left
      have hy : y ∈ a ++ x :: b := hs.subset (by simp)
      have hy' : y ∈ a ++ b := by
        simp only [List.mem_append, List.mem_cons] at hy ⊢
        rcases hy with hy | hy | hy
        · exact .inl hy
        · exact absurd hy.symm hxy
        · exact .inr hy
      exact (List.singleton_sublist.2 (h.perm.mem_iff.2 hy')).cons_cons _
    · by_cases hy : y = i
      · subst hy
        right
        refine hc x ?_
        obtain ⟨l1, l2, he, q1, q2⟩ := List.sublist_append_iff.1 hs
        match l1, he with
        | [], he =>
          simp at he
          subst he
          cases q2 with
          | cons _ q2 => exact absurd (List.mem_append_right _ (q2.subset (by simp))) hn2.2
          | cons_cons _ q2 => exact absurd rfl hx
        | [z], he =>
          simp at he
          rw [he.1]
          exact q1.subset (by simp)
        | z :: z' :: _, he =>
          simp at he
          have := q1.subset (show z' ∈ _ by simp)
          rw [← he.2.1] at this
          exact absurd (List.mem_append_left _ this) hn2.2
      · have h2 : List.Sublist [x, y] (a ++ b) := by
          have := hs.filter (fun z => decide (z ≠ i))
          simp only [List.filter_cons, List.filter_nil, List.filter_append, ne_eq, hx, hy, not_false_eq_true, decide_true, if_true, not_true_eq_false, decide_false, Bool.false_eq_true, if_false] at this
          exact this.trans (List.Sublist.append List.filter_sublist List.filter_sublist)
        exact (ih hn2.1 x y h2).imp (fun h => .cons _ h) id
theorem conn_of {C : Nat → Nat → Prop} : ∀ {s r : List Nat}, s.Perm r → r.Nodup → (∀ x y, List.Sublist [x, y] r → List.Sublist [x, y] s ∨ C x y) → Conn C s r
  | [], r, hp, _, _ => by rw [hp.symm.eq_nil]; exact .nil
  | i :: s, r, hp, hn, h => by
    obtain ⟨a, b, rfl⟩ := List.append_of_mem (hp.mem_iff.1 (List.mem_cons_self))
    have hp' : s.Perm (a ++ b) := (List.perm_cons i).1 (hp.trans List.perm_middle)
    have hns : (i :: s).Nodup := hp.nodup_iff.2 hn
    have hi : i ∉ s := (List.nodup_cons.1 hns).1
    refine .cons (fun x hx => ?_) (conn_of hp' (hp'.nodup_iff.1 (List.nodup_cons.1 hns).2) fun x y hxy => ?_)
    · have hsub : List.Sublist [x, i] (a ++ i :: b) := by
        have : [x, i] = [x] ++ [i] := rfl
        rw [this]
        exact List.Sublist.append (List.singleton_sublist.2 hx) (List.singleton_sublist.2 (by simp))
      rcases h x i hsub with h | h
      · cases h with
        | cons _ h => exact absurd (h.subset (by simp)) hi
        | cons_cons _ h => exact absurd (h.subset (by simp)) hi
      · exact h
    · have hx : x ∈ s := hp'.mem_iff.2 (hxy.subset (by simp))
      refine (h x y (hxy.trans (List.Sublist.append (List.Sublist.refl a) (List.sublist_cons_self i b)))).imp (fun h => ?_) id
      cases h with
      | cons _ h => exact h
      | cons_cons _ h => exact absurd hx hi
def befA (bs : List Nat) (x y : Nat) : Bool := decide (x < y) && (bs.getD y 0).testBit x
def free2 (E : Env) (is : List G) (i j : Nat) : Bool := com2 E (itG is i) (itG is j) && com2 E (itG is j) (itG is i)
def pairsOf (n : Nat) : List (Nat × Nat) := (List.range n).flatMap fun i => (List.range i).map fun j => (j, i)
def conf (E : Env) (is : List G) (bs : List Nat) (n : Nat) : List (Nat × Nat) := (pairsOf n).filter fun p => !(befA bs p.1 p.2 || free2 E is p.1 p.2)
def idxLt (r : List Nat) (x y : Nat) : Bool := decide (r.idxOf x < r.idxOf y)
def vecOf (cps : List (Nat × Nat)) (r : List Nat) : List Bool := cps.map fun p => idxLt r p.2 p.1
def allVecs : Nat → List (List Bool)
  | 0 => [[]]
  | n + 1 => (allVecs n).flatMap fun v => [true :: v, false :: v]
def leA (bs : List Nat) (x y : Nat) : Bool := decide (x = y) || befA bs x y
def edgesOf (cps : List (Nat × Nat)) (v : List Bool) : List (Nat × Nat) := (cps.zip v).map fun q => if q.2 then (q.1.2, q.1.1) else q.1
def cyc (bs : List Nat) (es : List (Nat × Nat)) : Bool :=
  es.any fun e => es.any fun f => leA bs e.2 f.1 && (leA bs f.2 e.1 || es.any fun k => leA bs f.2 k.1 && leA bs k.2 e.1)
def okOrd (bs : List Nat) (n : Nat) (r : List Nat) : Bool :=
  decide (r.length = n) && ((List.range n).all fun i => r.contains i) && ((pairsOf n).all fun p => !befA bs p.1 p.2 || idxLt r p.1 p.2)
def okDraw (E : Env) (is : List G) (ops : Array Oper) (os : List (List Nat)) : Bool :=
  let bs := befs ops.toList []
  let cps := conf E is bs ops.size
  let vs := (List.range ops.size :: os).map (vecOf cps)
  decide (is.length = ops.size) &&
  ((List.range ops.size).all fun i => (match ops[i]? with | some o => o.after.all fun e => !Region.binds .any e || decide (e.on < i) | none => false)) &&
  (os.all (okOrd bs ops.size)) && (allVecs cps.length).all fun v => vs.contains v || cyc bs (edgesOf cps v)
section
variable {E : Env} {is : List G} {ops : Array Oper} {os : List (List Nat)}
theorem mem_pairs {n : Nat} {p : Nat × Nat} : p ∈ pairsOf n ↔ p.2 < n ∧ p.1 < p.2 := by
  obtain ⟨j, i⟩ := p
  simp only [pairsOf, List.mem_flatMap, List.mem_range, List.mem_map, Prod.mk.injEq]
  constructor
  · rintro ⟨a, ha, b, hb, rfl, rfl⟩; exact ⟨ha, hb⟩
  · rintro ⟨h1, h2⟩; exact ⟨i, h1, j, h2, rfl, rfl⟩
theorem mem_allVecs : ∀ v : List Bool, v ∈ allVecs v.length
  | [] => by simp [allVecs]
  | b :: v => by
    simp only [List.length_cons, allVecs, List.mem_flatMap]
    exact ⟨v, mem_allVecs v, by cases b <;> simp⟩
theorem okDraw.ahead (h : okDraw E is ops os = true) : is.length = ops.size ∧ Ahead ops := by
  unfold okDraw at h
  simp only [Bool.and_eq_true, decide_eq_true_eq] at h
  obtain ⟨⟨⟨h1, h2⟩, _⟩, _⟩ := h
  refine ⟨h1, fun i o ho e hm hb => ?_⟩
  have hi : i < ops.size := (Array.getElem?_eq_some_iff.1 ho).1
  have := List.all_eq_true.1 h2 i (List.mem_range.2 hi)
  rw [ho] at this
  simp only at this
  rw [← Array.all_toList] at this
  have := List.all_eq_true.1 this e hm
  simp only [hb, Bool.not_true, Bool.false_or, decide_eq_true_eq] at this
  exact this
set_option linter.unusedVariables false in
theorem okOrd.facts {bs : List Nat} {n : Nat} {r : List Nat} (h : okOrd bs n r = true) : r.Perm (List.range n) ∧ ∀ x y, y < n → befA bs x y = true → r.idxOf x < r.idxOf y := by
  simp only [okOrd, Bool.and_eq_true, decide_eq_true_eq] at h
  obtain ⟨⟨h1, h2⟩, h3⟩ := h
  have hsub : List.range n ⊆ r := fun i hi => by simpa using List.all_eq_true.1 h2 i hi
  refine ⟨perm_of_sub List.nodup_range hsub (by simp [h1]), fun x y hy hb => ?_⟩
  have hlt : x < y := by simp only [befA, Bool.and_eq_true, decide_eq_true_eq] at hb; exact hb.1
  have := List.all_eq_true.1 h3 (x, y) (mem_pairs.2 ⟨hy, hlt⟩)
  simpa [hb, idxLt] using this
theorem range_sub {n x y : Nat} (hxy : x < y) (hy : y < n) : List.Sublist [x, y] (List.range n) := by
  rw [range_split hy, show [x, y] = [x] ++ [y] from rfl]
  exact List.Sublist.append (List.singleton_sublist.2 (List.mem_range.2 hxy)) (List.singleton_sublist.2 (by simp))
theorem sched_any (h : okDraw E is ops os = true) (t : Nat) :
    ∃ r, (r = List.range ops.size ∨ r ∈ os) ∧ (∀ j ∈ r, j < ops.size) ∧ Conn (fun j i => com2 E (itG is j) (itG is i) = true) (Region.linearise.go .any ops ops.size t (Array.replicate ops.size false) []) r := by
  obtain ⟨hlen, hA⟩ := okDraw.ahead h
  have hrem : remaining ops.size (Array.replicate ops.size false) = List.range ops.size := by
    unfold remaining
    rw [List.filter_eq_self]
    intro i hi
    simp [Array.getD_eq_getD_getElem?, List.mem_range.1 hi]
  let bs := befs ops.toList []
  have hc := sched_conn (C := fun j i => (bs.getD i 0).testBit j = false) hA (fun i j _ _ => by
    by_cases hb : (bs.getD i 0).testBit j = true
    · exact .inl hb
    · exact .inr (by simpa using hb)) ops.size t (Array.replicate ops.size false) (by simp) (fun i o ho hl => by
      have hi : i < ops.size := (Array.getElem?_eq_some_iff.1 ho).1
      simp [Array.getD_eq_getD_getElem?, hi] at hl) (by rw [hrem]; simp)
  rw [hrem] at hc
  generalize Region.linearise.go .any ops ops.size t (Array.replicate ops.size false) [] = s at hc
  have hperm := hc.perm
  have hns : s.Nodup := hperm.nodup_iff.2 List.nodup_range
  have hmem : ∀ x, x ∈ s ↔ x < ops.size := fun x => by rw [hperm.mem_iff, List.mem_range]
  have hbef : ∀ x y, y < ops.size → befA bs x y = true → s.idxOf x < s.idxOf y := fun x y hy hb => by
    simp only [befA, Bool.and_eq_true, decide_eq_true_eq] at hb
    rcases hc.bef List.nodup_range x y (range_sub hb.1 hy) with h | h
    · exact ((sub_idx hns (by omega)).1 h).2.2
    · rw [hb.2] at h; cases h
  let cps := conf E is bs ops.size
  have hcps : ∀ p ∈ cps, p.2 < ops.size ∧ p.1 < p.2 := fun p hp => mem_pairs.1 (List.mem_filter.1 hp).1
  have h4 : (allVecs cps.length).all (fun v => ((List.range ops.size :: os).map (vecOf cps)).contains v || cyc bs (edgesOf cps v)) = true := by
    unfold okDraw at h
    simp only [Bool.and_eq_true] at h
    exact h.2
  have hos : ∀ r ∈ os, okOrd bs ops.size r = true := by
    unfold okDraw at h
    simp only [Bool.and_eq_true] at h
    exact List.all_eq_true.1 h.1.2
  have hv := List.all_eq_true.1 h4 (vecOf cps s) (by
    have := mem_allVecs (vecOf cps s)
    rwa [show (vecOf cps s).length = cps.length by simp [vecOf]] at this)
  have hedge : ∀ e ∈ edgesOf cps (vecOf cps s), e.1 < ops.size ∧ e.2 < ops.size ∧ s.idxOf e.1 < s.idxOf e.2 := by
    intro e he
    simp only [edgesOf, List.mem_map] at he
    obtain ⟨⟨p, b⟩, hq, rfl⟩ := he
    obtain ⟨k, hk⟩ := List.mem_iff_getElem?.1 hq
    obtain ⟨k1, k2⟩ := List.getElem?_zip_eq_some.1 hk
    simp only [vecOf, List.getElem?_map, k1, Option.map_some, Option.some.injEq] at k2
    have hp := hcps p (List.mem_of_getElem? k1)
    simp only
    cases b with
    | true => simp only [idxLt, decide_eq_true_eq] at k2; simp only [if_true]; exact ⟨hp.1, by omega, k2⟩
    | false =>
      simp only [idxLt, decide_eq_false_iff_not] at k2
      simp only [Bool.false_eq_true, if_false]
      refine ⟨by omega, hp.1, ?_⟩
      have hne : s.idxOf p.1 ≠ s.idxOf p.2 := fun e => by
        have h1 := (hmem p.1).2 (by omega)
        have h2 := (hmem p.2).2 hp.1
        have := idx_inj h1 h2 e
        omega
      omega
  have hle : ∀ x y, y < ops.size → leA bs x y = true → s.idxOf x ≤ s.idxOf y := fun x y hy hb => by
    simp only [leA, Bool.or_eq_true, decide_eq_true_eq] at hb
    rcases hb with rfl | hb
    · exact Nat.le_refl _
    · exact Nat.le_of_lt (hbef x y hy hb)
  have hcyc : cyc bs (edgesOf cps (vecOf cps s)) = false := by
    cases hcy : cyc bs (edgesOf cps (vecOf cps s)) with
    | false => rfl
    | true =>
      exfalso
      simp only [cyc, List.any_eq_true, Bool.and_eq_true, Bool.or_eq_true] at hcy
      obtain ⟨e, he, f, hf, h1, h2⟩ := hcy
      have e1 := hedge e he
      have f1 := hedge f hf
      have l1 := hle _ _ f1.1 h1
      rcases h2 with h2 | ⟨k, hk, h2, h3⟩
      · have l2 := hle _ _ e1.1 h2
        omega
      · have k1 := hedge k hk
        have l2 := hle _ _ k1.1 h2
        have l3 := hle _ _ e1.1 h3
        omega
  rw [hcyc, Bool.or_false] at hv
  have hv' : vecOf cps s ∈ (List.range ops.size :: os).map (vecOf cps) := by simpa using hv
  obtain ⟨r, hr, hvec⟩ := List.mem_map.1 hv'
  have hrp : r.Perm (List.range ops.size) ∧ ∀ x y, y < ops.size → befA bs x y = true → r.idxOf x < r.idxOf y := by
    rcases List.mem_cons.1 hr with rfl | hr
    · refine ⟨.refl _, fun x y hy hb => ?_⟩
      simp only [befA, Bool.and_eq_true, decide_eq_true_eq] at hb
      exact ((sub_idx List.nodup_range (by omega)).1 (range_sub hb.1 hy)).2.2
    · exact okOrd.facts (hos r hr)
  have hnr : r.Nodup := hrp.1.nodup_iff.2 List.nodup_range
  have hmr : ∀ x, x ∈ r ↔ x < ops.size := fun x => by rw [hrp.1.mem_iff, List.mem_range]
  have hbit : ∀ p ∈ cps, idxLt r p.2 p.1 = idxLt s p.2 p.1 := fun p hp => by
    have := List.map_inj_left.1 hvec
    exact this p hp
  refine ⟨r, by simpa using hr, fun j hj => (hmr j).1 hj, conn_of (hperm.trans hrp.1.symm) hnr fun x y hxy => ?_⟩
  have hne : x ≠ y := by have := hxy.nodup hnr; simpa using this
  obtain ⟨hx, hy, hlt⟩ := (sub_idx hnr hne).1 hxy
  have hxs := (hmr x).1 hx
  have hys := (hmr y).1 hy
  have toS : s.idxOf x < s.idxOf y → List.Sublist [x, y] s := fun h => (sub_idx hns hne).2 ⟨(hmem x).2 hxs, (hmem y).2 hys, h⟩
  rcases Nat.lt_or_gt_of_ne hne with hl | hl
  · by_cases hb : befA bs x y = true
    · exact .inl (toS (hbef x y hys hb))
    · by_cases hf : free2 E is x y = true
      · simp only [free2, Bool.and_eq_true] at hf; exact .inr hf.1
      · have hp : (x, y) ∈ cps := List.mem_filter.2 ⟨mem_pairs.2 ⟨hys, hl⟩, by simp [hb, hf]⟩
        have hbt := hbit _ hp
        simp only [idxLt] at hbt
        rw [decide_eq_false (by omega), eq_comm, decide_eq_false_iff_not] at hbt
        have hne' : s.idxOf x ≠ s.idxOf y := fun e => hne (idx_inj ((hmem x).2 hxs) ((hmem y).2 hys) e)
        exact .inl (toS (by omega))
  · by_cases hb : befA bs y x = true
    · have := hrp.2 y x hxs hb
      omega
    · by_cases hf : free2 E is y x = true
      · simp only [free2, Bool.and_eq_true] at hf; exact .inr hf.2
      · have hp : (y, x) ∈ cps := List.mem_filter.2 ⟨mem_pairs.2 ⟨hxs, hl⟩, by simp [hb, hf]⟩
        have hbt := hbit _ hp
        simp only [idxLt] at hbt
        rw [decide_eq_true hlt, eq_comm, decide_eq_true_eq] at hbt
        exact .inl (toS hbt)
end
end Go.Proofs.Ytkhgnkfdpabflaa.Vm
/- Views of frozen rows as data. -/
namespace Go.Proofs.Ytkhgnkfdpabflaa.Vm
open Go
section
variable {P : Program} {g : Gh} {σ : St} {tmps : Array Value} {rts : Roots} {w : World}
structure Pured (O O' : Obs) : Prop where
  row : ∀ a n s es gr, O a n = some (.rw s es gr) → O' a n = some (.rw s es gr)
  fz : ∀ a n s es, O a n = some (.fz s es) → O' a n = some (.fz s es)
  box : ∀ a n cs, O a n = some (.box cs) → ∃ cs', O' a n = some (.box cs')
  gone : ∀ a n, O a n = some .gone → O' a n = some .gone
section
variable {m top s0 : Nat} {es : List T} {O O' : Obs}
theorem Pured.rowV (S : Pured O O') {a n lo len s' : Nat} {A : Option Addr} {c : Nat} (h : RowV g w O a n lo len s' A c) : RowV g w O' a n lo len s' A c := by
  unfold RowV at h ⊢
  split at h
  · rename_i heq; rw [S.row _ _ _ _ _ heq]; exact h
  · rename_i heq; rw [S.fz _ _ _ _ heq]; exact h
  · rename_i heq; rw [S.gone _ _ heq]; exact h
  · exact h.elim
theorem Pured.relV (S : Pured O O') {a n i off : Nat} {v : Value} (h : RelV g w O a n i off v) : RelV g w O' a n i off v := by
  unfold RelV at h ⊢
  split at h
  · rename_i heq; rw [S.row _ _ _ _ _ heq]; exact h
  · rename_i heq; rw [S.fz _ _ _ _ heq]; exact h
  · rename_i heq; rw [S.gone _ _ heq]; exact h
  · exact h.elim
theorem Pured.ptrV (S : Pured O O') {a n off : Nat} {v : Value} (h : PtrV g O a n off v) : PtrV g O' a n off v := by
  obtain ⟨⟨cs, h1⟩, h2⟩ := h
  exact ⟨S.box _ _ _ h1, h2⟩
theorem Pured.keep (S : Pured O O') {D : Nat} : Keep D (fun _ _ => False) g w O g w O' :=
  ⟨rfl, fun _ h => h, fun _ _ => rfl, fun _ _ _ _ _ _ _ _ _ h => S.rowV h, fun _ _ _ _ _ _ _ h => S.relV h, fun _ _ _ _ _ _ h => S.ptrV h⟩
mutual
theorem VR.pur (S : Pured O O') (hm : O top m = some (.fz s0 es)) : ∀ (v : V) (x : Value), VR g w O (top + 1) v x → VR g w O' (top + 1) (V.pur m es v) x
  | .row 0 n lo len s', x, h => by
    obtain ⟨hl, A, c, rfl, hr⟩ := h
    have e1 : top + 1 - 1 - 0 = top := by omega
    rw [e1] at hr
    simp only [V.pur]
    split
    · rename_i hnm
      subst hnm
      split
      · rename_i hfit
        unfold RowV at hr
        rw [hm] at hr
        simp only at hr
        obtain ⟨rfl, _, hc, hr⟩ := hr
        have hsl : (slice lo len es).length = len := slice_length hfit
        refine VR.ofRows hsl hc ?_
        rcases hr with hr | ⟨b, o, hA, hok, hd⟩
        · exact .inl (List.eq_nil_of_length_eq_zero (by omega))
        · exact .inr ⟨b, o, hA, .inl hok, hd⟩
      · trivial
    · exact ⟨hl, A, c, rfl, by rw [e1]; exact S.rowV hr⟩
  | .row (l + 1) n lo len s', x, h => by
    obtain ⟨hl, A, c, rfl, hr⟩ := h
    exact ⟨hl, A, c, rfl, S.rowV hr⟩
  | .ptr l n off, x, h => ⟨h.1, S.ptrV h.2⟩
  | .rel 0 n i off, x, h => by
    simp only [V.pur]
    split
    · trivial
    · exact ⟨h.1, S.relV h.2⟩
  | .rel (l + 1) n i off, x, h => ⟨h.1, S.relV h.2⟩
  | .ag cs, x, h => by
    obtain ⟨vs, hv, h, h1⟩ := h
    exact ⟨vs, hv, VRs.pur S hm cs vs h, h1⟩
  | .tp cs, x, h => by
    obtain ⟨vs, hv, h⟩ := h
    exact ⟨vs, hv, VRs.pur S hm cs vs h⟩
  | .cl f cs, x, h => by
    obtain ⟨vs, hv, h⟩ := h
    exact ⟨vs, hv, VRs.pur S hm cs vs h⟩
  | .d true t, x, h => h
  | .d false t, x, h => h
  | .dx true t, x, h => h
  | .dx false t, x, h => h
  | .nil _, x, h => h
  | .pd t, x, h => h
  | .u, x, h => trivial
theorem VRs.pur (S : Pured O O') (hm : O top m = some (.fz s0 es)) : ∀ (vs : List V) (xs : List Value), VRs g w O (top + 1) vs xs → VRs g w O' (top + 1) (V.purs m es vs) xs
  | [], xs, h => h
  | v :: vs, _, h => by
    obtain ⟨x, xs, rfl, h1, h2⟩ := h
    exact ⟨x, xs, rfl, VR.pur S hm v x h1, VRs.pur S hm vs xs h2⟩
end
end
theorem St.up_pur (σ : St) (m : Nat) : (σ.pur m).up = σ.up := by
  unfold St.pur
  split <;> rfl
theorem Rel.pur (h : Rel g σ tmps rts w) (m : Nat) : Rel g (σ.pur m) tmps rts w := by
  unfold St.pur
  split
  · rename_i s es hobj
    have hO : ∀ a n, (St.O { σ with sl := σ.sl.map (V.pur m es), ob := σ.ob.map (Option.map (Ob.pur m es)) }) a n = if a = σ.up.length then (σ.O a n).map (Ob.pur m es) else σ.O a n := fun a n => by
      show (if a < σ.up.length + 1 then _ else none) = _
      simp only [St.O]
      by_cases ha : a = σ.up.length
      · subst ha
        simp only [Nat.lt_succ_self, if_true, Nat.sub_self]
        exact gt_map (d := none) (e := none) (Option.map (Ob.pur m es)) (by rfl) _ _
      · rw [if_neg ha]
        obtain hk | ⟨k, hk⟩ : ¬ a < σ.up.length + 1 ∨ ∃ k, σ.up.length - a = k + 1 := by
          by_cases hlt : a < σ.up.length + 1
          · exact .inr ⟨σ.up.length - a - 1, by omega⟩
          · exact .inl hlt
        · simp [hk]
        · rw [hk]; rfl
    have hOm : σ.O σ.up.length m = some (.fz s es) := by
      have := St.O_obj σ 0 m (Nat.zero_le _)
      rw [← hobj]; simpa using this
    generalize hτ : ({ σ with sl := σ.sl.map (V.pur m es), ob := σ.ob.map (Option.map (Ob.pur m es)) } : St) = τ at hO
    have hup : τ.up = σ.up := by rw [← hτ]
    have hget : ∀ i, τ.get i = V.pur m es (σ.get i) := fun i => by rw [← hτ]; exact gt_map (V.pur m es) (by simp only [V.pur]) _ _
    have S : Pured σ.O τ.O := by
      refine ⟨fun a n s' es' gr' ho => ?_, fun a n s' es' ho => ?_, fun a n cs ho => ?_, fun a n ho => ?_⟩
      · rw [hO]
        split
        · rw [ho]; rfl
        · exact ho
      · rw [hO]
        split
        · rw [ho]; rfl
        · exact ho
      · rw [hO]
        split
        · rw [ho]; exact ⟨_, rfl⟩
        · exact ⟨cs, ho⟩
      · rw [hO]
        split
        · rw [ho]; rfl
        · exact ho
    have K : ∀ D, Keep D (fun _ _ => False) g w σ.O g w τ.O := fun D => S.keep
    refine ⟨fun i => ?_, fun a n o ha ho => ?_, fun r hr => ?_, by rw [hup]; exact h.own, h.okb, h.base⟩
    · rw [hup, hget]; exact VR.pur S hOm _ _ (h.sl i)
    · rw [hup] at ha
      rw [hO] at ho
      by_cases haa : a = σ.up.length
      · subst haa
        rw [if_pos rfl] at ho
        cases hoo : σ.O σ.up.length n with
        | none => rw [hoo] at ho; cases ho
        | some o' =>
          rw [hoo] at ho
          cases ho
          have hold := h.ob _ n o' ha hoo
          cases o' with
          | box cs =>
            obtain ⟨h1, vs, el, h2, h3, h4⟩ := hold
            exact ⟨h1, vs, el, h2, VRs.pur S hOm _ _ h3, h4⟩
          | rw s es gr => exact hold
          | fz s es => trivial
          | gone => trivial
      · rw [if_neg haa] at ho
        have hold := h.ob a n o ha ho
        cases o with
        | box cs =>
          obtain ⟨h1, vs, el, h2, h3, h4⟩ := hold
          exact ⟨h1, vs, el, h2, VRs.keep' (K _) (Nat.le_refl _) h3, h4⟩
        | rw s es gr => exact hold
        | fz s es => trivial
        | gone => trivial
    · rw [hup]
      have := h.rt r hr
      exact ⟨this.1, VR.keep' (K _) (Nat.le_refl _) this.2⟩
  · exact h
end
end Go.Proofs.Ytkhgnkfdpabflaa.Vm
/- An object takes another name. -/
namespace Go.Proofs.Ytkhgnkfdpabflaa.Vm
open Go
section
variable {P : Program} {g : Gh} {σ : St} {tmps : Array Value} {rts : Roots} {w : World}
def renP (a b top x n : Nat) : Nat := if x = top ∧ n = a then b else n
def Gh.ren (g : Gh) (a b top : Nat) : Gh where
  own := fun k => (g.own k).map fun p => (p.1, renP a b top p.1 p.2)
  loc := fun x n => if x = top ∧ n = b then g.loc top a else g.loc x n
  ok := g.ok
  base := g.base
theorem Gh.ren_own {a b top k x n : Nat} (h : g.own k = some (x, n)) : (g.ren a b top).own k = some (x, renP a b top x n) := by simp [Gh.ren, h]
theorem Gh.ren_loc {a b top x n : Nat} (hab : a ≠ b) (h : ¬ (x = top ∧ n = b)) : (g.ren a b top).loc x (renP a b top x n) = g.loc x n := by
  simp only [Gh.ren, renP]
  by_cases h1 : x = top ∧ n = a
  · obtain ⟨rfl, rfl⟩ := h1
    simp
  · rw [if_neg h1, if_neg h]
structure Rend (a b top : Nat) (O O' : Obs) : Prop where
  row : ∀ x n s es gr, ¬ (x = top ∧ n = b) → O x n = some (.rw s es gr) → O' x (renP a b top x n) = some (.rw s es gr)
  fz : ∀ x n s es, ¬ (x = top ∧ n = b) → O x n = some (.fz s es) → O' x (renP a b top x n) = some (.fz s es)
  box : ∀ x n cs, ¬ (x = top ∧ n = b) → O x n = some (.box cs) → ∃ cs', O' x (renP a b top x n) = some (.box cs')
  gone : ∀ x n, ¬ (x = top ∧ n = b) → O x n = some .gone → O' x (renP a b top x n) = some .gone
section
variable {a b top : Nat} {O O' : Obs}
theorem Rend.rowV (hab : a ≠ b) (S : Rend a b top O O') {x n lo len s' : Nat} (hn : ¬ (x = top ∧ n = b)) {A : Option Addr} {c : Nat} (h : RowV g w O x n lo len s' A c) : RowV (g.ren a b top) w O' x (renP a b top x n) lo len s' A c := by
  unfold RowV at h ⊢
  split at h
  · rename_i heq; rw [S.row _ _ _ _ _ hn heq]; simp only [Gh.ren_loc hab hn]
    obtain ⟨h1, h2, h3, h4⟩ := h
    exact ⟨h1, h2, h3, h4.imp id fun ⟨b, o, hA, ho, hr⟩ => ⟨b, o, hA, Gh.ren_own ho, hr⟩⟩
  · rename_i heq; rw [S.fz _ _ _ _ hn heq]; exact h
  · rename_i heq; rw [S.gone _ _ hn heq]; exact h
  · exact h.elim
theorem Rend.relV (hab : a ≠ b) (S : Rend a b top O O') {x n i off : Nat} (hn : ¬ (x = top ∧ n = b)) {v : Value} (h : RelV g w O x n i off v) : RelV (g.ren a b top) w O' x (renP a b top x n) i off v := by
  unfold RelV at h ⊢
  split at h
  · rename_i heq; rw [S.row _ _ _ _ _ hn heq]; simp only [Gh.ren_loc hab hn]
    obtain ⟨b, o, e, vs, hv, ho, hr⟩ := h
    exact ⟨b, o, e, vs, hv, Gh.ren_own ho, hr⟩
  · rename_i heq; rw [S.fz _ _ _ _ hn heq]; exact h
  · rename_i heq; rw [S.gone _ _ hn heq]; exact h
  · exact h.elim
theorem Rend.ptrV (hab : a ≠ b) (S : Rend a b top O O') {x n off : Nat} (hn : ¬ (x = top ∧ n = b)) {v : Value} (h : PtrV g O x n off v) : PtrV (g.ren a b top) O' x (renP a b top x n) off v := by
  obtain ⟨⟨cs, h1⟩, h2⟩ := h
  exact ⟨S.box _ _ _ hn h1, by rw [Gh.ren_loc hab hn]; exact h2⟩
theorem renP_ne {x n : Nat} (h : x ≠ top) : renP a b top x n = n := if_neg fun h' => h h'.1
theorem Rend.keep (hab : a ≠ b) (S : Rend a b top O O') {D : Nat} (hD : D ≤ top) : Keep D (fun _ _ => False) g w O (g.ren a b top) w O' := by
  refine ⟨rfl, fun _ h => h, fun _ _ => rfl, fun x n _ _ _ _ _ hx _ h => ?_, fun x n _ _ _ hx _ h => ?_, fun x n _ _ hx _ h => ?_⟩
  · have hne : x ≠ top := by omega
    have := S.rowV hab (fun h' => hne h'.1) h; rwa [renP_ne hne] at this
  · have hne : x ≠ top := by omega
    have := S.relV hab (fun h' => hne h'.1) h; rwa [renP_ne hne] at this
  · have hne : x ≠ top := by omega
    have := S.ptrV hab (fun h' => hne h'.1) h; rwa [renP_ne hne] at this
theorem renN_cases {n : Nat} (f : Nat → V) : renN a b n f = .u ∧ n = b ∨ n ≠ b ∧ renN a b n f = f (renP a b top top n) ∨ n = a ∧ a = b := by
  unfold renN renP
  by_cases h1 : n = a
  · by_cases h2 : a = b
    · exact .inr (.inr ⟨h1, h2⟩)
    · subst h1; exact .inr (.inl ⟨h2, by simp⟩)
  · by_cases h2 : n = b
    · exact .inl ⟨by rw [if_neg h1, if_pos h2], h2⟩
    · exact .inr (.inl ⟨h2, by rw [if_neg h1, if_neg h2, if_neg (by simpa using h1)]⟩)
mutual
theorem VR.ren (hab : a ≠ b) (S : Rend a b top O O') : ∀ (v : V) (x : Value), VR g w O (top + 1) v x → VR (g.ren a b top) w O' (top + 1) (V.ren a b v) x
  | .row 0 n lo len s', x, h => by
    obtain ⟨hl, A, c, rfl, hr⟩ := h
    have e1 : top + 1 - 1 - 0 = top := by omega
    rw [e1] at hr
    simp only [V.ren]
    rcases renN_cases (a := a) (b := b) (top := top) (n := n) (fun n => V.row 0 n lo len s') with h | ⟨hn, h⟩ | h
    · rw [h.1]; trivial
    · rw [h]; exact ⟨hl, A, c, rfl, by rw [e1]; exact S.rowV hab (fun h' => hn h'.2) hr⟩
    · exact absurd h.2 hab
  | .row (l + 1) n lo len s', x, h => by
    obtain ⟨hl, A, c, rfl, hr⟩ := h
    have hne : top + 1 - 1 - (l + 1) ≠ top := by omega
    have := S.rowV hab (fun h' => hne h'.1) hr
    rw [renP_ne hne] at this
    exact ⟨hl, A, c, rfl, this⟩
  | .ptr 0 n off, x, h => by
    obtain ⟨hl, hr⟩ := h
    have e1 : top + 1 - 1 - 0 = top := by omega
    rw [e1] at hr
    simp only [V.ren]
    rcases renN_cases (a := a) (b := b) (top := top) (n := n) (fun n => V.ptr 0 n off) with h | ⟨hn, h⟩ | h
    · rw [h.1]; trivial
    · rw [h]; exact ⟨hl, by rw [e1]; exact S.ptrV hab (fun h' => hn h'.2) hr⟩
    · exact absurd h.2 hab
  | .ptr (l + 1) n off, x, h => by
    obtain ⟨hl, hr⟩ := h
    have hne : top + 1 - 1 - (l + 1) ≠ top := by omega
    have := S.ptrV hab (fun h' => hne h'.1) hr
    rw [renP_ne hne] at this
    exact ⟨hl, this⟩
  | .rel 0 n i off, x, h => by
    obtain ⟨hl, hr⟩ := h
    have e1 : top + 1 - 1 - 0 = top := by omega
    rw [e1] at hr
    simp only [V.ren]
    rcases renN_cases (a := a) (b := b) (top := top) (n := n) (fun n => V.rel 0 n i off) with h | ⟨hn, h⟩ | h
    · rw [h.1]; trivial
    · rw [h]; exact ⟨hl, by rw [e1]; exact S.relV hab (fun h' => hn h'.2) hr⟩
    · exact absurd h.2 hab
  | .rel (l + 1) n i off, x, h => by
    obtain ⟨hl, hr⟩ := h
    have hne : top + 1 - 1 - (l + 1) ≠ top := by omega
    have := S.relV hab (fun h' => hne h'.1) hr
    rw [renP_ne hne] at this
    exact ⟨hl, this⟩
  | .ag cs, x, h => by
    obtain ⟨vs, hv, h, h1⟩ := h
    exact ⟨vs, hv, VRs.ren hab S cs vs h, h1⟩
  | .tp cs, x, h => by
    obtain ⟨vs, hv, h⟩ := h
    exact ⟨vs, hv, VRs.ren hab S cs vs h⟩
  | .cl f cs, x, h => by
    obtain ⟨vs, hv, h⟩ := h
    exact ⟨vs, hv, VRs.ren hab S cs vs h⟩
  | .d true t, x, h => h
  | .d false t, x, h => h
  | .dx true t, x, h => h
  | .dx false t, x, h => h
  | .nil _, x, h => h
  | .pd t, x, h => h
  | .u, x, h => trivial
theorem VRs.ren (hab : a ≠ b) (S : Rend a b top O O') : ∀ (vs : List V) (xs : List Value), VRs g w O (top + 1) vs xs → VRs (g.ren a b top) w O' (top + 1) (V.rens a b vs) xs
  | [], xs, h => h
  | v :: vs, _, h => by
    obtain ⟨x, xs, rfl, h1, h2⟩ := h
    exact ⟨x, xs, rfl, VR.ren hab S v x h1, VRs.ren hab S vs xs h2⟩
end
end
theorem gt_renOb {a b : Nat} (hab : a ≠ b) (os : Lv) (n : Nat) : gt none (renOb a b os) n = if n = a then none else if n = b then (gt none os a).map (Ob.ren a b) else (gt none os n).map (Ob.ren a b) := by
  unfold renOb
  rw [gt_st, gt_st, gt_map_ob]
  by_cases h1 : n = a
  · subst h1; simp
  · rw [if_neg (fun h => h1 h.symm), if_neg h1]
    by_cases h2 : n = b
    · subst h2; simp
    · rw [if_neg (fun h => h2 h.symm), if_neg h2]
theorem Rel.ren (h : Rel g σ tmps rts w) {a b : Nat} (hab : a ≠ b) : ∃ g', Rel g' (σ.ren a b) tmps rts w ∧ Adv g w g' w := by
  have hO : ∀ x n, (σ.ren a b).O x n = if x = σ.up.length then (if n = a then none else if n = b then (σ.O x a).map (Ob.ren a b) else (σ.O x n).map (Ob.ren a b)) else σ.O x n := fun x n => by
    show (if x < σ.up.length + 1 then (σ.ren a b).obj (σ.up.length - x) n else none) = _
    simp only [St.O]
    by_cases ha : x = σ.up.length
    · subst ha
      simp only [Nat.lt_succ_self, if_true, Nat.sub_self]
      exact gt_renOb hab _ _
    · rw [if_neg ha]
      obtain hk | ⟨k, hk⟩ : ¬ x < σ.up.length + 1 ∨ ∃ k, σ.up.length - x = k + 1 := by
        by_cases hlt : x < σ.up.length + 1
        · exact .inr ⟨σ.up.length - x - 1, by omega⟩
        · exact .inl hlt
      · simp [hk]
      · rw [hk]; rfl
  have hup : (σ.ren a b).up = σ.up := rfl
  have hget : ∀ i, (σ.ren a b).get i = V.ren a b (σ.get i) := fun i => gt_map (V.ren a b) (by simp only [V.ren]) _ _
  generalize hτ : σ.ren a b = τ at hO hup hget
  have hat : ∀ x n, ¬ (x = σ.up.length ∧ n = b) → τ.O x (renP a b σ.up.length x n) = if x = σ.up.length then (σ.O x n).map (Ob.ren a b) else σ.O x n := fun x n hn => by
    rw [hO]
    by_cases hx : x = σ.up.length
    · subst hx
      simp only [if_true]
      unfold renP
      by_cases h1 : n = a
      · subst h1
        simp only [and_self, if_true]
        rw [if_neg (fun h => hab h.symm)]
      · have h2 : n ≠ b := fun h => hn ⟨rfl, h⟩
        simp only [h1, and_false, if_false, h2]
    · rw [if_neg hx, if_neg hx, renP_ne hx]
  have S : Rend a b σ.up.length σ.O τ.O := by
    refine ⟨fun x n s es gr hn ho => ?_, fun x n s es hn ho => ?_, fun x n cs hn ho => ?_, fun x n hn ho => ?_⟩
    · rw [hat x n hn, ho]; split <;> rfl
    · rw [hat x n hn, ho]; split <;> rfl
    · rw [hat x n hn, ho]
      split
      · exact ⟨_, rfl⟩
      · exact ⟨cs, rfl⟩
    · rw [hat x n hn, ho]; split <;> rfl
  refine ⟨g.ren a b σ.up.length, ⟨fun i => ?_, fun x n o hx ho => ?_, fun r hr => ?_, fun k x n hk => ?_, h.okb, h.base⟩, ⟨rfl, fun _ h => h, fun _ h => .inl h, fun k hk => .inl fun h0 => hk (by simp [Gh.ren, h0]), fun _ _ _ => rfl, Nat.le_refl _, rfl, rfl, rfl⟩⟩
  · rw [hup, hget]; exact VR.ren hab S _ _ (h.sl i)
  · rw [hup] at hx
    -- the object's name before
    obtain ⟨m, hm, rfl⟩ : ∃ m, ¬ (x = σ.up.length ∧ m = b) ∧ n = renP a b σ.up.length x m := by
      by_cases hxt : x = σ.up.length
      · subst hxt
        rw [hO, if_pos rfl] at ho
        by_cases h1 : n = a
        · rw [if_pos h1] at ho; cases ho
        · by_cases h2 : n = b
          · exact ⟨a, fun h => hab h.2, by simp [renP, h2]⟩
          · exact ⟨n, fun h => h2 h.2, by simp [renP, h1]⟩
      · exact ⟨n, fun h => hxt h.1, (renP_ne hxt).symm⟩
    rw [hat x m hm] at ho
    have hloc := Gh.ren_loc (g := g) hab hm
    have hown : ∀ k, g.own k = some (x, m) → (g.ren a b σ.up.length).own k = some (x, renP a b σ.up.length x m) := fun k hk => Gh.ren_own hk
    by_cases hxt : x = σ.up.length
    · rw [if_pos hxt] at ho
      cases hoo : σ.O x m with
      | none => rw [hoo] at ho; cases ho
      | some o' =>
        rw [hoo] at ho
        cases ho
        have hold := h.ob x m o' hx hoo
        cases o' with
        | box cs =>
          obtain ⟨h1, vs, el, h2, h3, h4⟩ := hold
          refine ⟨by rw [hloc]; exact hown _ h1, vs, el, by rw [hloc]; exact h2, ?_, h4⟩
          subst hxt
          exact VRs.ren hab S _ _ h3
        | rw s es gr =>
          rcases hold with h1 | ⟨h1, h2, h3⟩
          · exact .inl (by rw [hloc]; exact h1)
          · exact .inr (by rw [hloc]; exact ⟨hown _ h1, h2, h3⟩)
        | fz s es => trivial
        | gone => trivial
    · rw [if_neg hxt] at ho
      have hold := h.ob x m o hx ho
      cases o with
      | box cs =>
        obtain ⟨h1, vs, el, h2, h3, h4⟩ := hold
        exact ⟨by rw [hloc]; exact hown _ h1, vs, el, by rw [hloc]; exact h2, VRs.keep' (S.keep hab (D := x + 1) (by omega)) (Nat.le_refl _) h3, h4⟩
      | rw s es gr =>
        rcases hold with h1 | ⟨h1, h2, h3⟩
        · exact .inl (by rw [hloc]; exact h1)
        · exact .inr (by rw [hloc]; exact ⟨hown _ h1, h2, h3⟩)
      | fz s es => trivial
      | gone => trivial
  · rw [hup]
    have := h.rt r hr
    exact ⟨this.1, VR.keep' (S.keep hab (Nat.le_refl _)) this.1 this.2⟩
  · rw [hup]
    simp only [Gh.ren, Option.map_eq_some_iff, Prod.mk.injEq] at hk
    obtain ⟨⟨x', n'⟩, hk, rfl, _⟩ := hk
    exact h.own k x' n' hk
end
end Go.Proofs.Ytkhgnkfdpabflaa.Vm
