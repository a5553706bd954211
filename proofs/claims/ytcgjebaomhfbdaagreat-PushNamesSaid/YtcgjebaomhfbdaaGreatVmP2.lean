/- A machine for the seat's programs and its soundness, part 2. -/
import Derived.Test.YtcgjebaomhfbdaaGreatVmP1
import Derived.Laws.AppendOwn
import Derived.Great.FillDense
import Derived.Laws.BitsLemmas
import Derived.Laws.StructEq
/- Values that become data; rows written, extended, copied. -/
namespace Go.Proofs.YtcgjebaomhfbdaaGreat.Vm
open Go
section
variable {P : Program} {g : Gh} {σ : St} {tmps : Array Value} {rts : Roots} {w : World}
theorem Den.isCell {ok : Nat → Prop} {t : T} {v : Value} (h : Den w ok t v) (h1 : v.oneCell' = true) : t.isCell = true := by
  cases t with
  | agg cs => obtain ⟨vs, rfl, _⟩ := h; simp [Value.oneCell'] at h1
  | _ => rfl
theorem Den.toC {ok : Nat → Prop} {t : T} {v : Value} (ht : t.isCell = true) (h : Den w ok t v) : DenC w ok t [v] := by
  cases t with
  | agg cs => cases ht
  | _ => exact h
section
variable {ok' : Nat → Prop} (ho : ∀ b, g.ok b → ok' b)
mutual
theorem St.toT_den {D : Nat} (hD : D = σ.up.length + 1) (ho : ∀ b, g.ok b → ok' b) : ∀ (v : V) (t : T) (ns : List Nat) (x : Value), σ.toT v = some (t, ns) → VR g w σ.O D v x →
    (∀ n ∈ ns, ∀ b, g.own b = some (σ.up.length, n) → ok' b) → Den w ok' t x
  | .d true t', t, ns, x, e, h, _ => by
    simp only [St.toT, Option.some.injEq, Prod.mk.injEq] at e
    obtain ⟨rfl, _⟩ := e
    exact Den.mono (fun _ _ => rfl) ho h
  | .d false t', t, ns, x, e, h, _ => by simp [St.toT] at e
  | .dx true t', t, ns, x, e, h, _ => by
    simp only [St.toT, Option.some.injEq, Prod.mk.injEq] at e
    obtain ⟨rfl, _⟩ := e
    exact Den.mono (fun _ _ => rfl) ho h.1
  | .dx false t', t, ns, x, e, h, _ => by simp [St.toT] at e
  | .nil s, t, ns, x, e, h, _ => by
    simp only [St.toT, Option.some.injEq, Prod.mk.injEq] at e
    obtain ⟨rfl, _⟩ := e
    obtain ⟨A, rfl⟩ := h
    exact ⟨A, 0, rfl, by simp, .inl rfl⟩
  | .row l n lo len s, t, ns, x, e, h, hn => by
    obtain ⟨hl, A, c, rfl, hr⟩ := h
    subst hD
    have e1 : σ.up.length + 1 - 1 - l = σ.up.length - l := by omega
    rw [e1] at hr
    have hO := St.O_obj σ l n (by omega)
    simp only [St.toT] at e
    split at e
    · rename_i s' es hobj
      split at e
      · rename_i hfit
        simp only [Option.some.injEq, Prod.mk.injEq] at e
        obtain ⟨rfl, rfl⟩ := e
        simp only [RowV, hO.trans hobj] at hr
        obtain ⟨rfl, _, hc, hr⟩ := hr
        have hsl : (slice lo len es).length = len := slice_length hfit
        refine ⟨A, c, by rw [hsl], by omega, ?_⟩
        rcases hr with hr | ⟨b, o, hA, hok, hd⟩
        · exact .inl (List.eq_nil_of_length_eq_zero (by omega))
        · exact .inr ⟨b, o, hA, ho b hok, DenR.mono (fun _ _ => rfl) ho b _ rfl o _ hd⟩
      · cases e
    · rename_i s' es gr hobj
      split at e
      · rename_i hfit
        simp only [Option.some.injEq, Prod.mk.injEq] at e
        obtain ⟨rfl, rfl⟩ := e
        simp only [Nat.sub_zero] at hr
        simp only [Nat.sub_zero] at hO
        simp only [RowV, hO.trans hobj] at hr
        obtain ⟨rfl, _, hc, hr⟩ := hr
        have hsl : (slice lo len es).length = len := slice_length hfit
        refine ⟨A, c, by rw [hsl], by omega, ?_⟩
        rcases hr with hr | ⟨b, o, hA, hown, hd, _⟩
        · exact .inl (List.eq_nil_of_length_eq_zero (by omega))
        · exact .inr ⟨b, o, hA, hn n (by simp) b hown, DenR.mono (fun _ _ => rfl) ho b _ rfl o _ hd⟩
      · cases e
    · cases e
  | .ag cs, t, ns, x, e, h, hn => by
    obtain ⟨vs, rfl, h, h1⟩ := h
    simp only [St.toT] at e
    split at e
    · rename_i ts ns' hts
      simp only [Option.some.injEq, Prod.mk.injEq] at e
      obtain ⟨rfl, rfl⟩ := e
      exact ⟨vs, rfl, St.toTs_den hD ho cs ts _ vs hts h h1 hn⟩
    · cases e
  | .ptr .., t, ns, x, e, h, _ => by simp [St.toT] at e
  | .rel .., t, ns, x, e, h, _ => by simp [St.toT] at e
  | .pd _, t, ns, x, e, h, _ => by simp [St.toT] at e
  | .tp _, t, ns, x, e, h, _ => by simp [St.toT] at e
  | .cl _ _, t, ns, x, e, h, _ => by simp [St.toT] at e
  | .u, t, ns, x, e, h, _ => by simp [St.toT] at e
theorem St.toTs_den {D : Nat} (hD : D = σ.up.length + 1) (ho : ∀ b, g.ok b → ok' b) : ∀ (cs : List V) (ts : List T) (ns : List Nat) (vs : List Value), σ.toTs cs = some (ts, ns) → VRs g w σ.O D cs vs →
    (∀ y ∈ vs, y.oneCell' = true) → (∀ n ∈ ns, ∀ b, g.own b = some (σ.up.length, n) → ok' b) → DenL w ok' ts vs
  | [], ts, ns, vs, e, h, _, _ => by
    simp only [St.toTs, Option.some.injEq, Prod.mk.injEq] at e
    obtain ⟨rfl, _⟩ := e
    exact h
  | c :: cs, ts, ns, _, e, h, h1, hn => by
    obtain ⟨v, vs, rfl, ha, hb⟩ := h
    simp only [St.toTs] at e
    split at e
    · rename_i t ns1 ts' ns2 e1 e2
      simp only [Option.some.injEq, Prod.mk.injEq] at e
      obtain ⟨rfl, rfl⟩ := e
      have d1 := St.toT_den hD ho c t ns1 v e1 ha (fun n hn' => hn n (by simp [hn']))
      have d2 := St.toTs_den hD ho cs ts' ns2 vs e2 hb (fun y hy => h1 y (by simp [hy])) (fun n hn' => hn n (by simp [hn']))
      have hc := Den.isCell d1 (h1 v (by simp))
      exact ⟨v, vs, rfl, hc, Den.toC hc d1, d2⟩
    · cases e
end
end
theorem St.up_frz (σ : St) (ns : List Nat) : (σ.frz ns).up = σ.up := by
  unfold St.frz
  induction ns generalizing σ with
  | nil => rfl
  | cons n ns ih =>
    simp only [List.foldl_cons]
    rw [ih]
    unfold St.frz1
    split <;> rfl
theorem St.get_frz (σ : St) (ns : List Nat) (i : Nat) : (σ.frz ns).get i = σ.get i := by
  unfold St.frz
  induction ns generalizing σ with
  | nil => rfl
  | cons n ns ih =>
    simp only [List.foldl_cons]
    rw [ih]
    unfold St.frz1
    split
    · exact St.get_setObj _ _ _ _ _
    · rfl
/-- Rows are frozen. -/
theorem Rel.frzs (h : Rel g σ tmps rts w) : ∀ ns : List Nat, ∃ g', Rel g' (σ.frz ns) tmps rts w ∧ Keep (σ.up.length + 1) (fun _ _ => False) g w σ.O g' w (σ.frz ns).O ∧ Adv g w g' w ∧
    (∀ n ∈ ns, ∀ s es gr, σ.obj 0 n = some (.rw s es gr) → ∀ b, g.own b = some (σ.up.length, n) → g'.ok b) ∧ (∀ b n, n ∉ ns → g.own b = some (σ.up.length, n) → g'.own b = some (σ.up.length, n)) ∧ g'.loc = g.loc := by
  intro ns
  induction ns generalizing g σ with
  | nil => exact ⟨g, h, Keep.same rfl, Adv.refl g w, by simp, fun _ _ _ h => h, rfl⟩
  | cons n ns ih =>
    show ∃ g', Rel g' ((σ.frz1 n).frz ns) tmps rts w ∧ Keep (σ.up.length + 1) (fun _ _ => False) g w σ.O g' w ((σ.frz1 n).frz ns).O ∧ _
    have trans : ∀ {g1 g2 : Gh} {O1 O2 O3 : Obs} {D : Nat}, Keep D (fun _ _ => False) g w O1 g1 w O2 → Keep D (fun _ _ => False) g1 w O2 g2 w O3 → Keep D (fun _ _ => False) g w O1 g2 w O3 := fun k1 k2 =>
      ⟨k2.base.trans k1.base, fun b hb => k2.ok b (k1.ok b hb), fun _ _ => rfl, fun a m lo len s A c ha hx hv => k2.row _ _ _ _ _ _ _ ha hx (k1.row _ _ _ _ _ _ _ ha hx hv),
        fun a m i off v ha hx hv => k2.rel _ _ _ _ _ ha hx (k1.rel _ _ _ _ _ ha hx hv), fun a m off v ha hx hv => k2.ptr _ _ _ _ ha hx (k1.ptr _ _ _ _ ha hx hv)⟩
    cases ho : σ.obj 0 n with
    | none =>
      have e : σ.frz1 n = σ := by simp [St.frz1, ho]
      rw [e]
      obtain ⟨g', R, K, A, H, H2, HL⟩ := ih h
      refine ⟨g', R, K, A, fun m hm s es gr hom b hb => ?_, fun b m hm hb => H2 b m (fun hh => hm (by simp [hh])) hb, HL⟩
      rcases List.mem_cons.1 hm with rfl | hm
      · rw [ho] at hom; cases hom
      · exact H m hm s es gr hom b hb
    | some o =>
      cases o with
      | rw s es gr =>
        have e : σ.frz1 n = σ.setObj 0 n (some (.fz s es)) := by simp [St.frz1, ho]
        rw [e]
        obtain ⟨R1, K1⟩ := Rel.frz h ho
        obtain ⟨g', R, K, A, H, H2, HL⟩ := ih R1
        refine ⟨g', R, trans K1 K, (Adv.frz _ _).trans A, fun m hm s' es' gr' hom b hb => ?_, fun b m hm hb => ?_, HL⟩
        · by_cases hmn : m = n
          · subst hmn
            exact A.ok b (.inr hb)
          · rcases List.mem_cons.1 hm with rfl | hm
            · exact absurd rfl hmn
            · refine H m hm s' es' gr' (by rw [St.obj_setObj, if_neg (fun hh => hmn hh.2.symm)]; exact hom) b ?_
              simp only [Gh.frz]
              rw [if_neg (by rw [hb]; intro hh; cases hh; exact hmn rfl)]; exact hb
        · have hmn : m ≠ n := fun hh => hm (by simp [hh])
          refine H2 b m (fun hh => hm (by simp [hh])) ?_
          simp only [Gh.frz]
          rw [if_neg (by rw [hb]; intro hh; cases hh; exact hmn rfl)]; exact hb
      | box cs =>
        have e : σ.frz1 n = σ := by simp [St.frz1, ho]
        rw [e]
        obtain ⟨g', R, K, A, H, H2, HL⟩ := ih h
        refine ⟨g', R, K, A, fun m hm s es gr hom b hb => ?_, fun b m hm hb => H2 b m (fun hh => hm (by simp [hh])) hb, HL⟩
        rcases List.mem_cons.1 hm with rfl | hm
        · rw [ho] at hom; cases hom
        · exact H m hm s es gr hom b hb
      | fz s es =>
        have e : σ.frz1 n = σ := by simp [St.frz1, ho]
        rw [e]
        obtain ⟨g', R, K, A, H, H2, HL⟩ := ih h
        refine ⟨g', R, K, A, fun m hm s es gr hom b hb => ?_, fun b m hm hb => H2 b m (fun hh => hm (by simp [hh])) hb, HL⟩
        rcases List.mem_cons.1 hm with rfl | hm
        · rw [ho] at hom; cases hom
        · exact H m hm s es gr hom b hb
      | gone =>
        have e : σ.frz1 n = σ := by simp [St.frz1, ho]
        rw [e]
        obtain ⟨g', R, K, A, H, H2, HL⟩ := ih h
        refine ⟨g', R, K, A, fun m hm s es gr hom b hb => ?_, fun b m hm hb => H2 b m (fun hh => hm (by simp [hh])) hb, HL⟩
        rcases List.mem_cons.1 hm with rfl | hm
        · rw [ho] at hom; cases hom
        · exact H m hm s es gr hom b hb
end
end Go.Proofs.YtcgjebaomhfbdaaGreat.Vm

/- Rows: elements written, slices extended. -/
namespace Go.Proofs.YtcgjebaomhfbdaaGreat.Vm
open Go
section
variable {P : Program} {g : Gh} {σ : St} {tmps : Array Value} {rts : Roots} {w : World}
mutual
theorem St.toT_names : ∀ (v : V) (t : T) (ns : List Nat), σ.toT v = some (t, ns) → ∀ n ∈ ns, ∃ s es gr, σ.obj 0 n = some (.rw s es gr)
  | .d true t', t, ns, e => by simp only [St.toT, Option.some.injEq, Prod.mk.injEq] at e; obtain ⟨_, rfl⟩ := e; simp
  | .d false t', t, ns, e => by simp [St.toT] at e
  | .dx true t', t, ns, e => by simp only [St.toT, Option.some.injEq, Prod.mk.injEq] at e; obtain ⟨_, rfl⟩ := e; simp
  | .dx false t', t, ns, e => by simp [St.toT] at e
  | .nil s, t, ns, e => by simp only [St.toT, Option.some.injEq, Prod.mk.injEq] at e; obtain ⟨_, rfl⟩ := e; simp
  | .row l n lo len s, t, ns, e => by
    simp only [St.toT] at e
    split at e
    · split at e
      · simp only [Option.some.injEq, Prod.mk.injEq] at e; obtain ⟨_, rfl⟩ := e; simp
      · cases e
    · rename_i s' es gr hobj
      split at e
      · simp only [Option.some.injEq, Prod.mk.injEq] at e; obtain ⟨_, rfl⟩ := e
        intro m hm
        simp at hm; subst hm
        exact ⟨s', es, gr, hobj⟩
      · cases e
    · cases e
  | .ag cs, t, ns, e => by
    simp only [St.toT] at e
    split at e
    · rename_i ts ns' hts
      simp only [Option.some.injEq, Prod.mk.injEq] at e
      obtain ⟨_, rfl⟩ := e
      exact St.toTs_names cs ts _ hts
    · cases e
  | .ptr .., t, ns, e => by simp [St.toT] at e
  | .rel .., t, ns, e => by simp [St.toT] at e
  | .pd _, t, ns, e => by simp [St.toT] at e
  | .tp _, t, ns, e => by simp [St.toT] at e
  | .cl _ _, t, ns, e => by simp [St.toT] at e
  | .u, t, ns, e => by simp [St.toT] at e
theorem St.toTs_names : ∀ (cs : List V) (ts : List T) (ns : List Nat), σ.toTs cs = some (ts, ns) → ∀ n ∈ ns, ∃ s es gr, σ.obj 0 n = some (.rw s es gr)
  | [], ts, ns, e => by simp only [St.toTs, Option.some.injEq, Prod.mk.injEq] at e; obtain ⟨_, rfl⟩ := e; simp
  | c :: cs, ts, ns, e => by
    simp only [St.toTs] at e
    split at e
    · rename_i t ns1 ts' ns2 e1 e2
      simp only [Option.some.injEq, Prod.mk.injEq] at e
      obtain ⟨_, rfl⟩ := e
      intro n hn
      rcases List.mem_append.1 hn with hn | hn
      · exact St.toT_names c t ns1 e1 n hn
      · exact St.toTs_names cs ts' ns2 e2 n hn
    · cases e
end
/-- A value frozen: the state behind it, and the value as data. -/
theorem Rel.freeze (h : Rel g σ tmps rts w) {v : V} {t : T} {ns : List Nat} {x : Value} (e : σ.toT v = some (t, ns)) (hx : VR g w σ.O (σ.up.length + 1) v x) :
    ∃ g', Rel g' (σ.frz ns) tmps rts w ∧ Keep (σ.up.length + 1) (fun _ _ => False) g w σ.O g' w (σ.frz ns).O ∧ Adv g w g' w ∧ g'.loc = g.loc ∧ Den w g'.ok t x := by
  obtain ⟨g', R, K, A, H, _, HL⟩ := h.frzs ns
  refine ⟨g', R, K, A, HL, St.toT_den rfl A.ok v t ns x e hx (fun n hn b hb => ?_)⟩
  obtain ⟨s, es, gr, hobj⟩ := St.toT_names v t ns e n hn
  exact H n hn s es gr hobj b hb
theorem Rel.freezes (h : Rel g σ tmps rts w) {vs : List V} {ts : List T} {ns : List Nat} {xs : List Value} (e : σ.toTs vs = some (ts, ns)) (hx : VRs g w σ.O (σ.up.length + 1) vs xs) :
    ∃ g', Rel g' (σ.frz ns) tmps rts w ∧ Keep (σ.up.length + 1) (fun _ _ => False) g w σ.O g' w (σ.frz ns).O ∧ Adv g w g' w ∧ g'.loc = g.loc ∧
      (∀ (i : Nat) (t : T), ts[i]? = some t → ∃ x, xs[i]? = some x ∧ Den w g'.ok t x) ∧ ts.length = xs.length := by
  obtain ⟨g', R, K, A, H, H2, HL⟩ := h.frzs ns
  refine ⟨g', R, K, A, HL, ?_⟩
  have hn : ∀ n ∈ ns, ∀ b, g.own b = some (σ.up.length, n) → g'.ok b := fun n hn b hb => by
    obtain ⟨s, es, gr, hobj⟩ := St.toTs_names vs ts ns e n hn
    exact H n hn s es gr hobj b hb
  clear R K H H2
  induction vs generalizing ts ns xs with
  | nil =>
    simp only [St.toTs, Option.some.injEq, Prod.mk.injEq] at e
    obtain ⟨rfl, _⟩ := e
    simp only [VRs] at hx; subst hx
    simp
  | cons v vs ih =>
    obtain ⟨x, xs', rfl, h1, h2⟩ := hx
    simp only [St.toTs] at e
    split at e
    · rename_i t ns1 ts' ns2 e1 e2
      simp only [Option.some.injEq, Prod.mk.injEq] at e
      obtain ⟨rfl, rfl⟩ := e
      have d := St.toT_den rfl A.ok v t ns1 x e1 h1 (fun n hn' => hn n (by simp [hn']))
      have := ih e2 h2 (fun n hn' => hn n (by simp [hn']))
      refine ⟨fun i u hu => ?_, by simp [this.2]⟩
      cases i with
      | zero => simp at hu; subst hu; exact ⟨x, by simp, d⟩
      | succ i => simp at hu; obtain ⟨y, hy, hd⟩ := this.1 i u hu; exact ⟨y, by simpa using hy, hd⟩
    · cases e
/-! Elements replaced in a list of cells. -/
theorem DenF.set {ok : Nat → Prop} {s : Nat} {t : T} {new : List Value} (hn : new.length = s) (hd : DenC w ok t new) : ∀ (es : List T) (vs : List Value) (i : Nat), DenF w ok s es vs → i < es.length →
    DenF w ok s (es.set i t) (put (i * s) new vs)
  | [], _, i, _, hi => by simp at hi
  | e :: es, _, 0, h, _ => by
    obtain ⟨a, b, rfl, ha, _, h⟩ := h
    refine ⟨new, b, ?_, hn, hd, h⟩
    simp [put, hn, ← ha]
  | e :: es, _, i + 1, h, hi => by
    obtain ⟨a, b, rfl, ha, hde, h⟩ := h
    have ih := DenF.set hn hd es b i h (by simpa using hi)
    refine ⟨a, put (i * s) new b, ?_, ha, hde, ih⟩
    have e1 : (i + 1) * s = a.length + i * s := by rw [Nat.add_mul, Nat.one_mul, ha]; omega
    simp only [put, e1]
    rw [Nat.add_assoc, List.take_length_add_append, List.drop_length_add_append]
    simp [List.append_assoc]
theorem DenF.one {ok : Nat → Prop} {s : Nat} : ∀ (es : List T) (vs : List Value), DenF w ok s es vs → ∀ x ∈ vs, x.oneCell' = true
  | [], _, h => by simp only [DenF] at h; subst h; simp
  | e :: es, _, h => by
    obtain ⟨a, b, rfl, _, hd, h⟩ := h
    intro x hx
    rcases List.mem_append.1 hx with hx | hx
    · exact (DenC.VRs (g := ⟨fun _ => none, fun _ _ => (0, 0, 0), ok, 0⟩) (O := fun _ _ => none) (D := 0) hd).2 x hx
    · exact DenF.one es b h x hx
theorem DenF.take {ok : Nat → Prop} {s : Nat} : ∀ (k : Nat) (es : List T) (vs : List Value), DenF w ok s es vs → DenF w ok s (es.take k) (vs.take (k * s))
  | 0, es, vs, _ => by simp [DenF]
  | k + 1, [], vs, h => by simp only [DenF] at h; subst h; simp [DenF]
  | k + 1, e :: es, _, h => by
    obtain ⟨a, b, rfl, ha, hd, h⟩ := h
    have e1 : (k + 1) * s = a.length + k * s := by rw [Nat.add_mul, Nat.one_mul, ha]; omega
    refine ⟨a, b.take (k * s), ?_, ha, hd, DenF.take k es b h⟩
    rw [e1, List.take_length_add_append]
theorem DenF.drop {ok : Nat → Prop} {s : Nat} : ∀ (k : Nat) (es : List T) (vs : List Value), DenF w ok s es vs → DenF w ok s (es.drop k) (vs.drop (k * s))
  | 0, es, vs, h => by simpa using h
  | k + 1, [], vs, h => by simp only [DenF] at h; subst h; simp [DenF]
  | k + 1, e :: es, _, h => by
    obtain ⟨a, b, rfl, ha, hd, h⟩ := h
    have e1 : (k + 1) * s = a.length + k * s := by rw [Nat.add_mul, Nat.one_mul, ha]; omega
    rw [e1, List.drop_length_add_append]
    exact DenF.drop k es b h
theorem DenF.put {ok : Nat → Prop} {s o : Nat} {es new : List T} {vs nv : List Value} (h : DenF w ok s es vs) (k : DenF w ok s new nv) : DenF w ok s (put o new es) (put (o * s) nv vs) := by
  unfold Vm.put
  refine DenF.append _ _ _ _ (DenF.append _ _ _ _ (DenF.take _ _ _ h) k) ?_
  have e : o * s + nv.length = (o + new.length) * s := by rw [DenF.length _ _ k, Nat.add_mul]
  rw [e]
  exact DenF.drop _ _ _ h
/-! The elements of a slice. -/
theorem VR.els {y : V} {x : Value} {s : Nat} {ys : List T} (hy : σ.els s y = some ys) (hx : VR g w σ.O (σ.up.length + 1) y x) :
    ∃ A c, x = .slice A ys.length c ∧ (ys = [] ∨ ∃ b o, A = some ⟨b, o, none⟩ ∧ DenR w g.ok b s o ys) := by
  have dat : ∀ (p : Bool) (s' : Nat) (es : List T), VR g w σ.O (σ.up.length + 1) (.d p (.lst s' es)) x → (if s = s' then some es else none) = some ys →
      ∃ A c, x = .slice A ys.length c ∧ (ys = [] ∨ ∃ b o, A = some ⟨b, o, none⟩ ∧ DenR w g.ok b s o ys) := by
    intro p s' es hx hy
    split at hy
    · rename_i hs
      subst hs
      cases hy
      cases p with
      | true =>
        obtain ⟨A, c, hv, _, hd⟩ := hx
        simp only [List.cons.injEq, and_true] at hv
        exact ⟨A, c, hv, hd.imp id fun ⟨b, o, hA, _, hr⟩ => ⟨b, o, hA, hr⟩⟩
      | false =>
        obtain ⟨A, c, hv, _, hd⟩ := hx
        exact ⟨A, c, hv, hd.imp id fun ⟨b, o, hA, _, hr⟩ => ⟨b, o, hA, hr⟩⟩
    · cases hy
  unfold St.els at hy
  split at hy
  · exact dat _ _ _ hx hy
  · rename_i p s' es
    refine dat p s' es ?_ hy
    cases p <;> exact hx.1
  · cases hy
    obtain ⟨A, rfl⟩ := hx
    exact ⟨A, 0, rfl, .inl rfl⟩
  · rename_i l n lo len s'
    split at hy
    · rename_i hs
      subst hs
      obtain ⟨hl, A, c, rfl, hr⟩ := hx
      have e1 : σ.up.length + 1 - 1 - l = σ.up.length - l := by omega
      rw [e1] at hr
      have hO := St.O_obj σ l n (by omega)
      unfold St.rowOf at hy
      split at hy
      · rename_i s' es gr hobj
        split at hy
        · rename_i hfit
          cases hy
          simp only [RowV, hO.trans hobj] at hr
          obtain ⟨rfl, _, hc, hr⟩ := hr
          rw [slice_length hfit]
          refine ⟨A, c, rfl, ?_⟩
          rcases hr with hr | ⟨b, o, hA, _, hd, _⟩
          · exact .inl (List.eq_nil_of_length_eq_zero (by rw [slice_length hfit]; omega))
          · exact .inr ⟨b, o, hA, hd⟩
        · cases hy
      · rename_i s' es hobj
        split at hy
        · rename_i hfit
          cases hy
          simp only [RowV, hO.trans hobj] at hr
          obtain ⟨rfl, _, hc, hr⟩ := hr
          rw [slice_length hfit]
          refine ⟨A, c, rfl, ?_⟩
          rcases hr with hr | ⟨b, o, hA, _, hd⟩
          · exact .inl (List.eq_nil_of_length_eq_zero (by rw [slice_length hfit]; omega))
          · exact .inr ⟨b, o, hA, hd⟩
        · cases hy
      · cases hy
    · cases hy
  · cases hy
/-- what a slice's cells are when they are read -/
theorem run_cells {A : Option Addr} {n c s : Nat} {ok : Nat → Prop} {ys : List T} (hn : ys.length = n) (h : ys = [] ∨ ∃ b o, A = some ⟨b, o, none⟩ ∧ DenR w ok b s o ys) :
    ∃ vs, DenF w ok s ys vs ∧ ∀ w', w'.heap = w.heap → (Builtin.firstCells s n (.slice A n c)).run P w' = .ok vs.toArray w' := by
  subst hn
  rcases h with rfl | ⟨b, o, rfl, h⟩
  · refine ⟨[], rfl, fun w' _ => ?_⟩
    cases A with
    | none => simp [Builtin.firstCells]
    | some a => simp [Builtin.firstCells, loadCells, loadCellsFrom]
  · obtain ⟨vs, hf, hc⟩ := DenF.ofRow ys o h
    refine ⟨vs, hf, fun w' hw => run_firstCells_some w' s ys.length ⟨b, o, none⟩ _ _ vs (DenF.length ys vs hf) (fun j v hj => ?_)⟩
    rw [Addr.add_none]
    have hlt : j < vs.length := (List.getElem?_eq_some_iff.1 hj).1
    rw [← hj, ← hc j hlt]
    simp [World.cell?, hw]
end
end Go.Proofs.YtcgjebaomhfbdaaGreat.Vm

/- Append. -/
namespace Go.Proofs.YtcgjebaomhfbdaaGreat.Vm
open Go
section
variable {P : Program} {g : Gh} {σ : St} {tmps : Array Value} {rts : Roots} {w : World}
theorem run_app_fits {t u ty e e' : TypeId} {i : TypeInfo} {A B : Option Addr} {n c m c' : Nat} {news : List Value} {w' : World}
    (ht : P.underlying t = some (.slice e)) (hu : P.underlying u = some (.slice e')) (hi : P.info? e = some i)
    (hB : (Builtin.firstCells i.size m (.slice B m c')).run P w = .ok news.toArray w) (hfit : n + m ≤ c)
    (hst : (match A with | some a => storeCells (a.add (n * i.size)) news | none => pure () : Sem Unit).run P w = .ok () w') :
    (Builtin.append_ #[t, u] ty #[.slice A n c, .slice B m c']).run P w = .ok (.slice A (n + m) c) w' := by
  cases A with
  | none =>
    simp at hst
    subst hst
    simp [Builtin.append_, run_underlying ht, run_underlying hu, sizeOf, typeInfo, hi, Builtin.lenOf, hfit, hB]
  | some a =>
    simp only at hst
    simp [Builtin.append_, run_underlying ht, run_underlying hu, sizeOf, typeInfo, hi, Builtin.lenOf, hfit, hB, hst]
theorem run_app_grow {t u ty e e' : TypeId} {i : TypeInfo} {z : Value} {A B : Option Addr} {n c m c' : Nat} {olds news : List Value}
    (ht : P.underlying t = some (.slice e)) (hu : P.underlying u = some (.slice e')) (hi : P.info? e = some i) (hz : i.zero = some z) (hb : i.bytes ≤ 32768)
    (hA : ∀ w', w'.heap = w.heap → (Builtin.firstCells i.size n (.slice A n c)).run P w' = .ok olds.toArray w')
    (hB : ∀ w', w'.heap = w.heap → (Builtin.firstCells i.size m (.slice B m c')).run P w' = .ok news.toArray w') (hfit : c < n + m) (hbig : n + m ≤ big) :
    (Builtin.append_ #[t, u] ty #[.slice A n c, .slice B m c']).run P w = .ok (.slice (some ⟨w.heap.size, 0, none⟩) (n + m) (grownCap w (n + m) c e))
      (World.withRow w.drew (olds ++ news ++ (Builtin.zeroCells z.cells (grownCap w (n + m) c e - (n + m))).toList).toArray e) := by
  have hbig' : n + m ≤ 4294967296 := hbig
  have hn : ¬ (n + m ≤ c) := by omega
  have h63 : ¬ (9223372036854775807 < ((n : Int) + (m : Int))) := by omega
  have hmul : (n + m) * i.bytes ≤ 4294967296 * 32768 := Nat.mul_le_mul hbig' hb
  have hfit := growslice_fits (need := n + m) (old := c) (bytes := i.bytes) (by omega) (by omega)
  have h48 : ¬ (281474976710656 < Builtin.nextslicecap (n + m) c * i.bytes) := by omega
  have harr : ∀ zs : Array Value, (olds ++ news ++ zs.toList).toArray = olds.toArray ++ (news.toArray ++ zs) := fun zs => by
    apply Array.ext'; simp [List.append_assoc]
  rw [harr]
  simp [Builtin.append_, run_underlying ht, run_underlying hu, sizeOf, typeInfo, zeroValue, hi, hz, Builtin.lenOf, hn, h63, h48, Question.forced, hA w.drew rfl, hB w.drew rfl, newRow, grownCap, World.withRow]
  rfl
/-- A new row without memory. -/
def Gh.nil (g : Gh) (a n : Nat) : Gh := { g with loc := fun c m => if c = a ∧ m = n then (0, 0, 0) else g.loc c m }
theorem Rel.newNil (h : Rel g σ tmps rts w) {n s : Nat} {gr : Bool} (hn : σ.obj 0 n = none) (A : Option Addr) :
    Rel (g.nil σ.up.length n) (σ.setObj 0 n (some (.rw s [] gr))) tmps rts w ∧ Keep (σ.up.length + 1) (fun _ _ => False) g w σ.O (g.nil σ.up.length n) w (σ.setObj 0 n (some (.rw s [] gr))).O ∧
      Adv g w (g.nil σ.up.length n) w ∧ VR (g.nil σ.up.length n) w (σ.setObj 0 n (some (.rw s [] gr))).O (σ.up.length + 1) (.row 0 n 0 0 s) (.slice A 0 0) := by
  have hO : ∀ a m, (σ.setObj 0 n (some (.rw s [] gr))).O a m = if a = σ.up.length ∧ m = n then some (.rw s [] gr) else σ.O a m := fun a m => by
    have := St.O_setObj σ 0 n (some (.rw s [] gr)) (Nat.zero_le _) a m
    simpa using this
  have hnone : σ.O σ.up.length n = none := by
    have := St.O_obj σ 0 n (Nat.zero_le _)
    simpa using this.trans hn
  have G : Grow (fun a m => a = σ.up.length ∧ m = n) g w σ.O (g.nil σ.up.length n) w (σ.setObj 0 n (some (.rw s [] gr))).O :=
    ⟨rfl, fun _ h => h, fun _ _ => rfl, fun _ _ _ _ hb => hb, fun a m hb => by simp only [Gh.nil]; rw [if_neg hb], fun a m hb => by rw [hO, if_neg hb]⟩
  have K := Keep.absent hnone (G.keep (D := σ.up.length + 1))
  refine ⟨Rel.over (a₀ := σ.up.length) (n₀ := n) h (by rfl) (fun i => St.get_setObj _ _ _ _ _) K (fun a m hx => G.obj a m hx) (fun a m hx => G.loc a m hx)
    (fun b a m _ hb => ⟨hb, rfl⟩) (fun o ho => ?_) h.own h.okb h.base, K, ⟨rfl, fun _ h => h, fun _ h => .inl h, fun _ h => .inl h, fun _ _ _ => rfl, Nat.le_refl _, rfl, rfl, rfl⟩, ?_⟩
  · rw [hO, if_pos ⟨rfl, rfl⟩] at ho
    cases ho
    exact .inl ⟨rfl, by simp [Gh.nil]⟩
  · refine ⟨by omega, A, 0, rfl, ?_⟩
    have e1 : σ.up.length + 1 - 1 - 0 = σ.up.length := by omega
    rw [e1]
    simp only [RowV, hO, and_self, if_true]
    exact ⟨by first | rfl | trivial, by simp, Nat.le_refl _, .inl (by first | rfl | trivial)⟩
/-- A row is marked as one that has grown. -/
theorem Rel.regr (h : Rel g σ tmps rts w) {l n s : Nat} {es : List T} {gr : Bool} (hl : l ≤ σ.up.length) (hO : σ.obj l n = some (.rw s es gr)) :
    Rel g (σ.setObj l n (some (.rw s es true))) tmps rts w ∧ Keep (σ.up.length + 1) (fun _ _ => False) g w σ.O g w (σ.setObj l n (some (.rw s es true))).O := by
  have hO' : σ.O (σ.up.length - l) n = some (.rw s es gr) := (St.O_obj σ l n hl).trans hO
  have hset := St.O_setObj σ l n (some (.rw s es true)) hl
  have K : Keep (σ.up.length + 1) (fun _ _ => False) g w σ.O g w (σ.setObj l n (some (.rw s es true))).O := by
    refine ⟨rfl, fun _ h => h, fun _ _ => rfl, fun a m lo len s' A c ha _ hv => ?_, fun a m i off v ha _ hv => ?_, fun a m off v ha _ hv => ?_⟩
    · by_cases hx : a = σ.up.length - l ∧ m = n
      · obtain ⟨rfl, rfl⟩ := hx
        simp only [RowV, hO'] at hv
        simp only [RowV, hset, and_self, if_true]
        obtain ⟨h1, h2, h3, h4⟩ := hv
        exact ⟨h1, h2, h3, h4.imp id fun ⟨b, o, hA, ho, hd, hy⟩ => ⟨b, o, hA, ho, hd, hy.imp id fun ⟨_, h5⟩ => ⟨(by first | rfl | trivial), h5⟩⟩⟩
      · unfold RowV at hv ⊢; rw [hset, if_neg hx]; exact hv
    · by_cases hx : a = σ.up.length - l ∧ m = n
      · obtain ⟨rfl, rfl⟩ := hx
        simp only [RelV, hO'] at hv
        simp only [RelV, hset, and_self, if_true]
        obtain ⟨b, o, e, us, hv, ho, he, hll, hc, hd, hg1, hg2⟩ := hv
        exact ⟨b, o, e, us, hv, ho, he, hll, hc, hd, fun hf => (by cases hf), hg2⟩
      · unfold RelV at hv ⊢; rw [hset, if_neg hx]; exact hv
    · by_cases hx : a = σ.up.length - l ∧ m = n
      · obtain ⟨rfl, rfl⟩ := hx; simp only [PtrV, hO'] at hv
      · unfold PtrV at hv ⊢; rw [hset, if_neg hx]; exact hv
  refine ⟨Rel.over (a₀ := σ.up.length - l) (n₀ := n) h (St.up_setObj σ l n _ hl) (fun i => St.get_setObj _ _ _ _ _) K (fun a m hx => by rw [hset, if_neg hx]) (fun _ _ _ => rfl)
    (fun b a m hx hb => ⟨hb, rfl⟩) (fun o ho => ?_) (fun b a m hb => h.own b a m hb) h.okb h.base, K⟩
  rw [hset, if_pos ⟨rfl, rfl⟩] at ho
  cases ho
  exact h.ob (σ.up.length - l) n _ (by omega) hO'
/-- A view of a whole row. -/
theorem VR.whole {w' : World} {O' : Obs} {D l n s b o c : Nat} {es : List T} {gr : Bool} {g' : Gh} (hl : l < D) (hO : O' (D - 1 - l) n = some (.rw s es gr)) (hown : g'.own b = some (D - 1 - l, n))
    (hb : (g'.loc (D - 1 - l) n).1 = b) (ho : (g'.loc (D - 1 - l) n).2.1 = o) (hc : c ≤ (g'.loc (D - 1 - l) n).2.2) (hlen : es.length ≤ c) (hd : DenR w' g'.ok b s o es) :
    VR g' w' O' D (.row l n 0 es.length s) (.slice (some ⟨b, o, none⟩) es.length c) := by
  refine ⟨hl, _, _, rfl, ?_⟩
  simp only [RowV, hO]
  refine ⟨by first | rfl | trivial, by omega, hlen, .inr ⟨b, o, rfl, hown, ?_, .inl ⟨hb.symm, by rw [ho]; omega, by omega⟩⟩⟩
  have : slice 0 es.length es = es := by simp [slice]
  rw [this]; exact hd
theorem Adv.drew : Adv g w g w.drew := ⟨rfl, fun _ h => h, fun _ h => .inl h, fun _ h => .inl h, fun _ _ _ => rfl, Nat.le_refl _, rfl, rfl, rfl⟩
theorem zeros_size (z : Array Value) (n : Nat) : (Builtin.zeroCells z n).toList.length = n * z.size := by simp [size_zeroCells]
end
end Go.Proofs.YtcgjebaomhfbdaaGreat.Vm

/- Append, as the machine says. -/
namespace Go.Proofs.YtcgjebaomhfbdaaGreat.Vm
open Go
section
variable {P : Program} {g : Gh} {σ : St} {tmps : Array Value} {rts : Roots} {w : World}
theorem new_some {σ' : St} {nm : Nat} {o : Ob} (h : σ.new nm o = some σ') : σ.obj 0 nm = none ∧ σ' = σ.setObj 0 nm (some o) := by
  unfold St.new at h
  split at h
  · rename_i ho; cases h; exact ⟨ho, rfl⟩
  · cases h
theorem newL_some {σ' : St} {l nm : Nat} {o : Ob} (h : σ.newL l nm o = some σ') : l ≤ σ.up.length ∧ σ.obj l nm = none ∧ σ' = σ.setObj l nm (some o) := by
  unfold St.newL at h
  split at h
  · rename_i hl
    split at h
    · rename_i ho; cases h; exact ⟨hl, ho, rfl⟩
    · cases h
  · cases h
theorem Rel.app (h : Rel g σ tmps rts w) {x y : V} {p q : Value} {t u ty e e' : TypeId} {i : TypeInfo} {z : Value} {d nm s : Nat} {σ' : St}
    (ht : P.underlying t = some (.slice e)) (hu : P.underlying u = some (.slice e')) (hi : P.info? e = some i) (hz : i.zero = some z) (hs : i.size = s) (hzs : z.cells.size = s) (hb : i.bytes ≤ 32768)
    (hx : VR g w σ.O (σ.up.length + 1) x p) (hy : VR g w σ.O (σ.up.length + 1) y q) (hd : d < tmps.size) (ha : σ.app d nm s x y = some σ') :
    ∃ g' w' v, (Builtin.append_ #[t, u] ty #[p, q]).run P w = .ok v w' ∧ Rel g' σ' (tmps.setIfInBounds d v) rts w' ∧ Adv g w g' w' ∧ σ'.up.length = σ.up.length := by
  subst hs
  unfold St.app at ha
  split at ha
  · cases ha
  · rename_i ys hys
    obtain ⟨B, c', rfl, hB⟩ := VR.els hys hy
    obtain ⟨news, hnf, hBr⟩ := run_cells (P := P) (c := c') rfl hB
    have hnl := DenF.length _ _ hnf
    have hn1 := DenF.one _ _ hnf
    have size_new : ∀ (k cap : Nat) (olds : List Value), olds.length = k * i.size → k + ys.length ≤ cap →
        cap * i.size ≤ (olds ++ news ++ (Builtin.zeroCells z.cells (cap - (k + ys.length))).toList).toArray.size := fun k cap olds ho hc => by
      simp only [List.size_toArray, List.length_append, zeros_size, ho, hnl, hzs, ← Nat.add_mul]
      exact Nat.mul_le_mul_right _ (by omega)
    have pre_new : ∀ (olds zs : List Value) (j : Nat), j < (olds ++ news).length → (olds ++ news ++ zs).toArray[j]? = (olds ++ news)[j]? := fun olds zs j hj => by
      simp only [List.getElem?_toArray]
      rw [List.getElem?_append_left hj]
    split at ha
    · -- nil
      rename_i s'
      split at ha
      · rename_i hc
        obtain ⟨rfl, hbig⟩ := hc
        obtain ⟨A, rfl⟩ := hx
        cases hnew : σ.new nm (.rw i.size ys true) with
        | none => rw [hnew] at ha; cases ha
        | some σ₁ =>
          rw [hnew] at ha
          simp only [Option.map_some, Option.some.injEq] at ha
          subst ha
          obtain ⟨hno, rfl⟩ := new_some hnew
          by_cases h0 : ys = []
          · subst h0
            have hn0 : news = [] := List.eq_nil_of_length_eq_zero (by simpa using hnl)
            subst hn0
            obtain ⟨R, K, Ad, hv⟩ := h.newNil (s := i.size) (gr := true) hno A
            refine ⟨_, w, .slice A 0 0, run_app_fits (w' := w) ht hu hi (hBr w rfl) (by simp) (by cases A <;> rfl), R.set hd ?_, Ad, by rfl⟩
            rw [St.up_setObj0]
            exact hv
          · have hpos : 0 < ys.length := List.length_pos_iff.2 h0
            have hr := run_app_grow (A := A) (n := 0) (c := 0) (ty := ty) (olds := []) (w := w) ht hu hi hz hb (fun w' _ => by
              cases A with
              | none => simp [Builtin.firstCells]
              | some a => simp [Builtin.firstCells, loadCells, loadCellsFrom]) hBr (by omega) (by omega)
            simp only [Nat.zero_add] at hr
            have hge := grownCap_ge w ys.length 0 e
            have hsz := size_new 0 (grownCap w ys.length 0 e) [] (by simp) (by omega)
            simp only [Nat.zero_add] at hsz
            obtain ⟨R, hv⟩ := Rel.newRow (w := w.drew) (n := nm) (gr := true) (e := e) (vs := news) (h.same rfl) hno (DenF.mono (w := w) (w' := w.drew) (fun _ _ => rfl) (fun _ h => h) _ _ hnf) (cells := _) (cap := grownCap w ys.length 0 e)
              (fun j hj => by have := pre_new [] (Builtin.zeroCells z.cells (grownCap w ys.length 0 e - ys.length)).toList j (by simpa using hj); simpa using this) hge hsz
            refine ⟨_, _, _, hr, R.set hd ?_, Adv.trans Adv.drew (Adv.withRow (σ := σ)), by rfl⟩
            rw [St.up_setObj0]
            exact hv
      · cases ha
    · -- a slice without spare room
      rename_i pp s' es
      split at ha
      · rename_i hc
        obtain ⟨rfl, hpos, hbig⟩ := hc
        cases hnew : σ.new nm (.rw i.size (es ++ ys) true) with
        | none => rw [hnew] at ha; cases ha
        | some σ₁ =>
          rw [hnew] at ha
          simp only [Option.map_some, Option.some.injEq] at ha
          subst ha
          obtain ⟨hno, rfl⟩ := new_some hnew
          have hxe : ∃ A, p = .slice A es.length es.length ∧ (es = [] ∨ ∃ b o, A = some ⟨b, o, none⟩ ∧ DenR w g.ok b i.size o es) := by
            have hx1 : VR g w σ.O (σ.up.length + 1) (.d pp (.lst i.size es)) p := by cases pp <;> exact hx.1
            obtain ⟨A, c, he, hd'⟩ := VR.els (σ := σ) (s := i.size) (ys := es) (by simp [St.els]) hx1
            obtain ⟨_, A', n, he'⟩ := hx
            subst he
            cases he'
            exact ⟨_, rfl, hd'⟩
          obtain ⟨A, rfl, hA⟩ := hxe
          obtain ⟨olds, hof, hAr⟩ := run_cells (P := P) (c := es.length) rfl hA
          have hol := DenF.length _ _ hof
          have hr := run_app_grow (ty := ty) (w := w) ht hu hi hz hb hAr hBr (by omega) (by omega)
          have hge := grownCap_ge w (es.length + ys.length) es.length e
          have hsz := size_new es.length (grownCap w (es.length + ys.length) es.length e) olds hol hge
          obtain ⟨R, hv⟩ := Rel.newRow (w := w.drew) (n := nm) (gr := true) (e := e) (vs := olds ++ news) (es := es ++ ys) (h.same rfl) hno
            (DenF.mono (w := w) (w' := w.drew) (fun _ _ => rfl) (fun _ h => h) _ _ (DenF.append _ _ _ _ hof hnf)) (cells := _) (cap := grownCap w (es.length + ys.length) es.length e)
            (fun j hj => pre_new olds (Builtin.zeroCells z.cells (grownCap w (es.length + ys.length) es.length e - (es.length + ys.length))).toList j hj) (by simpa using hge) hsz
          refine ⟨_, _, _, hr, R.set hd ?_, Adv.trans Adv.drew (Adv.withRow (σ := σ)), by rfl⟩
          rw [St.up_setObj0]
          simpa using hv
      · cases ha
    · -- a row
      rename_i l n lo len s'
      split at ha
      · rename_i hss
        subst hss
        split at ha
        · rename_i s' es gr hobj
          split at ha
          · rename_i hc
            obtain ⟨hlen, hbig, hlo⟩ := hc
            subst hlo
            cases ha
            obtain ⟨hl, A, c, rfl, hr⟩ := hx
            have e1 : σ.up.length + 1 - 1 - l = σ.up.length - l := by omega
            rw [e1] at hr
            have hO := St.O_obj σ l n (by omega)
            have hOO := hO.trans hobj
            simp only [RowV, hOO] at hr
            obtain ⟨rfl, _, hlc, hr⟩ := hr
            have hsl : slice 0 len es = es := by simp [slice, hlen]
            rw [hsl] at hr
            have hup := St.up_setObj σ l n (some (.rw i.size (es ++ ys) true)) (by omega : l ≤ σ.up.length)
            have hset := St.O_setObj σ l n (some (.rw i.size (es ++ ys) true)) (by omega : l ≤ σ.up.length) (σ.up.length - l) n
            simp only [and_self, if_true] at hset
            have ecells : es = [] ∨ ∃ b o, A = some ⟨b, o, none⟩ ∧ DenR w g.ok b i.size o es := by
              rcases hr with hr | ⟨b, o, hA, _, hd', _⟩
              · exact .inl (List.eq_nil_of_length_eq_zero (by omega))
              · exact .inr ⟨b, o, hA, hd'⟩
            have elen : (es ++ ys).length = len + ys.length := by simp [hlen]
            by_cases hfit : len + ys.length ≤ c
            · by_cases hc0 : c = 0
              · have h0 : ys = [] := List.eq_nil_of_length_eq_zero (by omega)
                have hes : es = [] := List.eq_nil_of_length_eq_zero (by omega)
                subst h0
                have hn0 : news = [] := List.eq_nil_of_length_eq_zero (by simpa using hnl)
                subst hn0
                obtain ⟨R, K⟩ := h.regr (by omega) hobj
                rw [List.append_nil] at hup hset ⊢
                refine ⟨g, w, .slice A (len + 0) c, run_app_fits (w' := w) ht hu hi (hBr w rfl) hfit (by cases A <;> rfl), R.set hd ?_, Adv.refl g w, hup⟩
                rw [hup]
                refine ⟨by omega, A, c, rfl, ?_⟩
                rw [e1]
                simp only [RowV, hset]
                exact ⟨by first | rfl | trivial, by simp; omega, by simp; omega, .inl hc0⟩
              · rcases hr with hr | ⟨b, o, rfl, hown, hden, hpos⟩
                · exact absurd hr hc0
                · have hpos : b = (g.loc (σ.up.length - l) n).1 ∧ o = (g.loc (σ.up.length - l) n).2.1 + 0 * i.size ∧ 0 + c ≤ (g.loc (σ.up.length - l) n).2.2 := by
                    rcases hpos with hpos | hpos
                    · exact hpos
                    · omega
                  obtain ⟨rfl, ho, hcap⟩ := hpos
                  have ho : o = (g.loc (σ.up.length - l) n).2.1 := by omega
                  subst ho
                  rcases h.ob _ n _ (by omega) hOO with hob | ⟨_, _, cells, el, hh, hroom, hden'⟩
                  · omega
                  · have hmul : len * i.size + news.length ≤ (g.loc (σ.up.length - l) n).2.2 * i.size := by
                      rw [hnl, ← Nat.add_mul]; exact Nat.mul_le_mul_right _ (by omega)
                    have hin : (g.loc (σ.up.length - l) n).2.1 + len * i.size + news.length ≤ cells.size := by omega
                    have hst := run_storeCells_at P (g.loc (σ.up.length - l) n).1 ((g.loc (σ.up.length - l) n).2.1 + len * i.size) el news 0 cells w hh (by simpa using hin) hn1
                    simp only [Nat.add_zero] at hst
                    generalize hcs : (cells.toList.take ((g.loc (σ.up.length - l) n).2.1 + len * i.size) ++ news ++ cells.toList.drop ((g.loc (σ.up.length - l) n).2.1 + len * i.size + news.length)).toArray = cells' at hst
                    have hsz : cells'.size = cells.size := by
                      rw [← hcs]; simp only [List.size_toArray, List.length_append, List.length_take, List.length_drop, Array.length_toList]; omega
                    have hh' := setRow_heap w _ _ cells' _ _ hh
                    have hrun := run_app_fits (A := some ⟨(g.loc (σ.up.length - l) n).1, (g.loc (σ.up.length - l) n).2.1, none⟩) (ty := ty) ht hu hi (hBr w rfl) hfit (by simp only [Addr.add_none]; exact hst)
                    have hdnew : DenR (w.setRow (g.loc (σ.up.length - l) n).1 cells') g.ok (g.loc (σ.up.length - l) n).1 i.size (g.loc (σ.up.length - l) n).2.1 (es ++ ys) := by
                      have hnok : ¬ g.ok (g.loc (σ.up.length - l) n).1 := (h.own _ _ _ hown).2.1
                      have hsok : ∀ b, g.ok b → (w.setRow (g.loc (σ.up.length - l) n).1 cells').heap[b]? = w.heap[b]? := fun b hb => setRow_other _ _ _ _ (by rintro rfl; exact hnok hb)
                      refine DenR.append es ys _ ?_ ?_
                      · refine DenR.of_cells hsok es _ _ (fun j hj => ?_) hden
                        rw [← hlen] at hj
                        simp only [World.cell?, hh', hh]
                        rw [← hcs]
                        simp only [List.getElem?_toArray, List.append_assoc]
                        rw [List.getElem?_append_left (by simp; omega), List.getElem?_take_of_lt (by omega)]
                        simp
                      · rw [← hlen]
                        refine DenF.row hsok ys news _ hnf (fun j hj => ?_)
                        simp only [World.cell?, hh']
                        rw [← hcs]
                        simp only [List.getElem?_toArray, List.append_assoc]
                        rw [List.getElem?_append_right (by simp; omega), List.getElem?_append_left (by simp; omega)]
                        rw [List.length_take, Array.length_toList, Nat.min_eq_left (by omega), Nat.add_sub_cancel_left]
                        rfl
                    refine ⟨g, _, _, hrun, (Rel.row (es' := es ++ ys) (gr' := true) (elem := el) h (by omega) hobj hown (by simp [World.setRow]) (fun c hc => setRow_other _ _ _ _ hc) hh' (by rw [hsz]; exact hroom)
                      (by rw [elen]; omega) (by simp) (fun _ => ⟨rfl, ys, rfl⟩) hdnew).set hd ?_, Adv.own hown (by simp [World.setRow]) (fun c hc => setRow_other _ _ _ _ hc) rfl rfl rfl, hup⟩
                    rw [hup, ← elen]
                    refine VR.whole (gr := true) (by omega) (by rw [e1]; exact hset) (by rw [e1]; exact hown) (by rw [e1]) (by rw [e1]) (by rw [e1]; omega) (by rw [elen]; exact hfit) hdnew
            · -- a new block
              obtain ⟨olds, hof, hAr⟩ := run_cells (P := P) (c := c) hlen.symm ecells
              have hol := DenF.length _ _ hof
              have hrun := run_app_grow (ty := ty) (w := w) ht hu hi hz hb hAr hBr (by omega) (by omega)
              have hge := grownCap_ge w (len + ys.length) c e
              have hsz := size_new len (grownCap w (len + ys.length) c e) olds (by rw [hol, hlen]) hge
              have hys : ys ≠ [] := fun h0 => by subst h0; simp at hfit; omega
              generalize hcs : (olds ++ news ++ (Builtin.zeroCells z.cells (grownCap w (len + ys.length) c e - (len + ys.length))).toList).toArray = cells' at hrun hsz
              have hdnew : DenR (World.withRow w.drew cells' e) g.ok w.heap.size i.size 0 (es ++ ys) := by
                refine DenF.row (w := w) (fun b hb => push_old (w := w) (w' := World.withRow w.drew cells' e) rfl (h.okb b hb)) _ _ 0 (DenF.append _ _ _ _ hof hnf) (fun j hj => ?_)
                rw [Nat.zero_add]
                have := withRow_cell (w := w.drew) cells' e j
                rw [show w.drew.heap.size = w.heap.size from rfl] at this
                rw [this, ← hcs]
                exact pre_new olds _ j hj
              have R := Rel.move (w' := World.withRow w.drew cells' e) (cap := grownCap w (len + ys.length) c e) h (by omega) hobj hys rfl (by rw [← hlen]; exact hge) hsz hdnew
              refine ⟨_, _, _, hrun, R.set hd ?_, Adv.move rfl rfl rfl rfl, hup⟩
              rw [hup, ← elen]
              exact VR.whole (gr := true) (by omega) (by rw [e1]; exact hset) (by rw [e1]; simp [Gh.new]) (by rw [e1]; simp [Gh.new]) (by rw [e1]; simp [Gh.new]) (by rw [e1]; simp [Gh.new]) (by rw [elen]; exact hge) hdnew
          · cases ha
        · cases ha
      · cases ha
    · cases ha
/-- Append to nothing, for a frame above. -/
theorem Rel.apl (h : Rel g σ tmps rts w) {x y : V} {p q : Value} {t u ty e e' : TypeId} {i : TypeInfo} {z : Value} {d l nm s : Nat} {σ' : St}
    (ht : P.underlying t = some (.slice e)) (hu : P.underlying u = some (.slice e')) (hi : P.info? e = some i) (hz : i.zero = some z) (hs : i.size = s) (hzs : z.cells.size = s) (hb : i.bytes ≤ 32768)
    (hx : VR g w σ.O (σ.up.length + 1) x p) (hy : VR g w σ.O (σ.up.length + 1) y q) (hd : d < tmps.size) (ha : σ.apl d l nm s x y = some σ') :
    ∃ g' w' v, (Builtin.append_ #[t, u] ty #[p, q]).run P w = .ok v w' ∧ Rel g' σ' (tmps.setIfInBounds d v) rts w' ∧ Adv g w g' w' ∧ σ'.up.length = σ.up.length := by
  unfold St.apl at ha
  split at ha
  · rename_i s'
    split at ha
    · cases ha
    · rename_i ys hys
      split at ha
      · rename_i hc
        obtain ⟨rfl, hpos, hbig⟩ := hc
        subst hs
        obtain ⟨B, c', rfl, hB⟩ := VR.els hys hy
        obtain ⟨news, hnf, hBr⟩ := run_cells (P := P) (c := c') rfl hB
        have hnl := DenF.length _ _ hnf
        obtain ⟨A, rfl⟩ := hx
        cases hnew : σ.newL l nm (.rw i.size ys true) with
        | none => rw [hnew] at ha; cases ha
        | some σ₁ =>
          rw [hnew] at ha
          simp only [Option.map_some, Option.some.injEq] at ha
          subst ha
          obtain ⟨hl, hno, rfl⟩ := newL_some hnew
          have hr := run_app_grow (A := A) (n := 0) (c := 0) (ty := ty) (olds := []) (w := w) ht hu hi hz hb (fun w' _ => by
            cases A with
            | none => simp [Builtin.firstCells]
            | some a => simp [Builtin.firstCells, loadCells, loadCellsFrom]) hBr (by omega) (by omega)
          simp only [Nat.zero_add] at hr
          have hge := grownCap_ge w ys.length 0 e
          have pre_new : ∀ (olds zs : List Value) (j : Nat), j < (olds ++ news).length → (olds ++ news ++ zs).toArray[j]? = (olds ++ news)[j]? := fun olds zs j hj => by
            simp only [List.getElem?_toArray]
            rw [List.getElem?_append_left hj]
          have hsz : grownCap w ys.length 0 e * i.size ≤ ([] ++ news ++ (Builtin.zeroCells z.cells (grownCap w ys.length 0 e - ys.length)).toList).toArray.size := by
            simp only [List.size_toArray, List.length_append, List.nil_append, zeros_size, hnl, hzs, ← Nat.add_mul]
            exact Nat.mul_le_mul_right _ (by omega)
          obtain ⟨R, hv⟩ := Rel.newRowU (w := w.drew) (l := l) (n := nm) (gr := true) (e := e) (vs := news) (h.same rfl) hl hno (DenF.mono (w := w) (w' := w.drew) (fun _ _ => rfl) (fun _ h => h) _ _ hnf) (cells := _) (cap := grownCap w ys.length 0 e)
            (fun j hj => by have := pre_new [] (Builtin.zeroCells z.cells (grownCap w ys.length 0 e - ys.length)).toList j (by simpa using hj); simpa using this) hge hsz
          refine ⟨_, _, _, hr, R.set hd ?_, Adv.trans Adv.drew Adv.withRowU, St.up_setObj _ _ _ _ hl⟩
          rw [St.up_setObj _ _ _ _ hl]
          exact hv
      · cases ha
  · exact Rel.app h ht hu hi hz hs hzs hb hx hy hd ha
  · cases ha
end
end Go.Proofs.YtcgjebaomhfbdaaGreat.Vm

/- Elements written, copies, clears, rows and structs made. -/
namespace Go.Proofs.YtcgjebaomhfbdaaGreat.Vm
open Go
section
variable {P : Program} {g : Gh} {σ : St} {tmps : Array Value} {rts : Roots} {w : World}
/-- The same object again. -/
theorem Rel.again (h : Rel g σ tmps rts w) {l n : Nat} {o : Option Ob} (hl : l ≤ σ.up.length) (ho : σ.obj l n = o) : Rel g (σ.setObj l n o) tmps rts w := by
  have hO : (σ.setObj l n o).O = σ.O := by
    funext a m
    rw [St.O_setObj σ l n o hl]
    split
    · rename_i hx; obtain ⟨rfl, rfl⟩ := hx
      rw [St.O_obj σ l m hl, ho]
    · rfl
  have hup := St.up_setObj σ l n o hl
  exact ⟨fun i => by rw [hO, hup, St.get_setObj]; exact h.sl i, fun a m o' ha hoo => by rw [hO] at hoo ⊢; rw [hup] at ha; exact h.ob a m o' ha hoo, fun r hr => by rw [hO, hup]; exact h.rt r hr,
    by rw [hup]; exact h.own, h.okb, h.base⟩
/-- A part of a row's cells is written: the row's elements afterwards. -/
theorem Rel.patch (h : Rel g σ tmps rts w) {l n s lo : Nat} {es new : List T} {nv : List Value} {cells : Array Value} {el : TypeId} (hl : l ≤ σ.up.length) (hobj : σ.obj l n = some (.rw s es false))
    (hown : g.own (g.loc (σ.up.length - l) n).1 = some (σ.up.length - l, n)) (hcap : es.length ≤ (g.loc (σ.up.length - l) n).2.2)
    (hh : w.heap[(g.loc (σ.up.length - l) n).1]? = some (.cells cells el (0, 0))) (hroom : (g.loc (σ.up.length - l) n).2.1 + (g.loc (σ.up.length - l) n).2.2 * s ≤ cells.size)
    (hden : DenR w g.ok (g.loc (σ.up.length - l) n).1 s (g.loc (σ.up.length - l) n).2.1 es) (hnf : DenF w g.ok s new nv) (hfit : lo + new.length ≤ es.length) :
    (storeCells ⟨(g.loc (σ.up.length - l) n).1, (g.loc (σ.up.length - l) n).2.1 + lo * s, none⟩ nv).run P w = .ok () (w.setRow (g.loc (σ.up.length - l) n).1 (put ((g.loc (σ.up.length - l) n).2.1 + lo * s) nv cells.toList).toArray) ∧
    Rel g (σ.setObj l n (some (.rw s (put lo new es) false))) tmps rts (w.setRow (g.loc (σ.up.length - l) n).1 (put ((g.loc (σ.up.length - l) n).2.1 + lo * s) nv cells.toList).toArray) ∧
    Adv g w g (w.setRow (g.loc (σ.up.length - l) n).1 (put ((g.loc (σ.up.length - l) n).2.1 + lo * s) nv cells.toList).toArray) := by
  have hnl := DenF.length _ _ hnf
  have hmul : (lo + new.length) * s ≤ (g.loc (σ.up.length - l) n).2.2 * s := Nat.mul_le_mul_right _ (by omega)
  rw [Nat.add_mul, ← hnl] at hmul
  have hin : (g.loc (σ.up.length - l) n).2.1 + lo * s + nv.length ≤ cells.size := by omega
  have hst := run_storeCells_at P (g.loc (σ.up.length - l) n).1 ((g.loc (σ.up.length - l) n).2.1 + lo * s) el nv 0 cells w hh (by simpa using hin) (DenF.one _ _ hnf)
  simp only [Nat.add_zero] at hst
  have hh' := setRow_heap w _ _ (put ((g.loc (σ.up.length - l) n).2.1 + lo * s) nv cells.toList).toArray _ _ hh
  have hsz : (put ((g.loc (σ.up.length - l) n).2.1 + lo * s) nv cells.toList).toArray.size = cells.size := by
    rw [List.size_toArray, put_length (by simpa using hin), Array.length_toList]
  have hnok : ¬ g.ok (g.loc (σ.up.length - l) n).1 := (h.own _ _ _ hown).2.1
  have hsok : ∀ b, g.ok b → (w.setRow (g.loc (σ.up.length - l) n).1 (put ((g.loc (σ.up.length - l) n).2.1 + lo * s) nv cells.toList).toArray).heap[b]? = w.heap[b]? :=
    fun b hb => setRow_other _ _ _ _ (by rintro rfl; exact hnok hb)
  obtain ⟨all, haf, hac⟩ := DenF.ofRow es _ hden
  have hal := DenF.length _ _ haf
  have hal2 : all.length ≤ (g.loc (σ.up.length - l) n).2.2 * s := by rw [hal]; exact Nat.mul_le_mul_right _ hcap
  have hlo : lo * s + nv.length ≤ all.length := by rw [hal, hnl, ← Nat.add_mul]; exact Nat.mul_le_mul_right _ hfit
  refine ⟨hst, Rel.row (elem := el) (gr := false) (gr' := false) h hl hobj hown (by simp [World.setRow]) (fun c hc => setRow_other _ _ _ _ hc) hh' (by rw [hsz]; exact hroom)
    (by rw [put_length hfit]; exact hcap) (by rw [put_length hfit]; exact Nat.le_refl _) (fun hf => by cases hf) ?_, Adv.own hown (by simp [World.setRow]) (fun c hc => setRow_other _ _ _ _ hc) rfl rfl rfl⟩
  refine DenF.row hsok _ (put (lo * s) nv all) _ (DenF.put haf hnf) (fun j hj => ?_)
  rw [put_length hlo] at hj
  have hcell : w.cell? ⟨(g.loc (σ.up.length - l) n).1, (g.loc (σ.up.length - l) n).2.1 + j, none⟩ = cells[(g.loc (σ.up.length - l) n).2.1 + j]? := by
    simp [World.cell?, hh]
  have hold := hac j hj
  rw [hcell] at hold
  simp only [World.cell?, hh']
  simp only [Option.isSome_none, Bool.false_eq_true, if_false, List.getElem?_toArray, put]
  generalize (g.loc (σ.up.length - l) n).2.1 = o at *
  simp only [List.append_assoc]
  by_cases h1 : j < lo * s
  · rw [List.getElem?_append_left (by simp; omega), List.getElem?_append_left (by simp; omega), List.getElem?_take_of_lt (by omega), List.getElem?_take_of_lt h1]
    simpa using hold
  · have e1 : (List.take (o + lo * s) cells.toList).length = o + lo * s := by rw [List.length_take, Array.length_toList, Nat.min_eq_left (by omega)]
    have e2 : (List.take (lo * s) all).length = lo * s := by rw [List.length_take, Nat.min_eq_left (by omega)]
    rw [List.getElem?_append_right (l₁ := List.take (o + lo * s) cells.toList) (by omega), List.getElem?_append_right (l₁ := List.take (lo * s) all) (by omega), e1, e2]
    have e3 : o + j - (o + lo * s) = j - lo * s := by omega
    rw [e3]
    by_cases h2 : j - lo * s < nv.length
    · rw [List.getElem?_append_left h2, List.getElem?_append_left h2]
    · rw [List.getElem?_append_right (by omega), List.getElem?_append_right (by omega), List.getElem?_drop, List.getElem?_drop]
      have e4 : o + lo * s + nv.length + (j - lo * s - nv.length) = o + j := by omega
      have e5 : lo * s + nv.length + (j - lo * s - nv.length) = j := by omega
      rw [e4, e5]
      simpa using hold
/-- a row that may be written -/
theorem Rel.mine (h : Rel g σ tmps rts w) {l n lo len s : Nat} {es : List T} {p : Value} (hx : VR g w σ.O (σ.up.length + 1) (.row l n lo len s) p) (hobj : σ.obj l n = some (.rw s es false)) (hfit : lo + len ≤ es.length) :
    l ≤ σ.up.length ∧ ∃ A c, p = .slice A len c ∧ (len = 0 ∨ A = some ⟨(g.loc (σ.up.length - l) n).1, (g.loc (σ.up.length - l) n).2.1 + lo * s, none⟩ ∧ g.own (g.loc (σ.up.length - l) n).1 = some (σ.up.length - l, n) ∧
      es.length ≤ (g.loc (σ.up.length - l) n).2.2 ∧ (∃ cells el, w.heap[(g.loc (σ.up.length - l) n).1]? = some (.cells cells el (0, 0)) ∧ (g.loc (σ.up.length - l) n).2.1 + (g.loc (σ.up.length - l) n).2.2 * s ≤ cells.size) ∧
      DenR w g.ok (g.loc (σ.up.length - l) n).1 s (g.loc (σ.up.length - l) n).2.1 es) := by
  obtain ⟨hl, A, c, rfl, hr⟩ := hx
  have e1 : σ.up.length + 1 - 1 - l = σ.up.length - l := by omega
  rw [e1] at hr
  have hO := (St.O_obj σ l n (by omega)).trans hobj
  simp only [RowV, hO] at hr
  obtain ⟨_, _, hlc, hr⟩ := hr
  refine ⟨by omega, A, c, rfl, ?_⟩
  rcases hr with hr | ⟨b, o, rfl, hown, _, hpos⟩
  · exact .inl (by omega)
  · rcases hpos with ⟨rfl, rfl, hcap⟩ | hpos
    · rcases h.ob _ n _ (by omega) hO with ⟨hes, _⟩ | ⟨_, h2, cells, el, h3, h4, h5⟩
      · subst hes; simp at hfit; exact .inl hfit.2
      · exact .inr ⟨rfl, hown, h2, ⟨cells, el, h3, h4⟩, h5⟩
    · cases hpos.1
theorem put_nil {α : Type} (o : Nat) (l : List α) : put o [] l = l := by simp [put]
/-- Copies. -/
theorem Rel.cpy (h : Rel g σ tmps rts w) {x y : V} {p q : Value} {t u ty e : TypeId} {d s : Nat} {σ' : St}
    (ht : P.underlying t = some (.slice e)) (hs : szOf P e = some s)
    (hx : VR g w σ.O (σ.up.length + 1) x p) (hy : VR g w σ.O (σ.up.length + 1) y q) (hd : d < tmps.size) (ha : σ.cpy d s x y = some σ') :
    ∃ w' v, (Builtin.copy_ #[t, u] ty #[p, q]).run P w = .ok v w' ∧ Rel g σ' (tmps.setIfInBounds d v) rts w' ∧ Adv g w g w' ∧ σ'.up.length = σ.up.length := by
  have hsz : (sizeOf e).run P w = .ok s w := by
    unfold szOf at hs
    cases hp : P.info? e with
    | none => rw [hp] at hs; cases hs
    | some inf => rw [hp] at hs; simp at hs; simp [sizeOf, typeInfo, hp, hs]
  unfold St.cpy at ha
  split at ha
  · rename_i ys l n lo len s' hys
    split at ha
    · rename_i hss; subst hss
      split at ha
      · rename_i s' es hobj
        split at ha
        · rename_i hfit
          cases ha
          obtain ⟨B, c', rfl, hB⟩ := VR.els hys hy
          have hsame : s' = s := by
            obtain ⟨hl, A, c, _, hr⟩ := hx
            have e1 : σ.up.length + 1 - 1 - l = σ.up.length - l := by omega
            rw [e1] at hr
            simp only [RowV, (St.O_obj σ l n (by omega)).trans hobj] at hr
            exact hr.1
          subst hsame
          obtain ⟨hl, A, c, rfl, hmine⟩ := h.mine hx hobj hfit
          have htk : (ys.take len).length = Nat.min ys.length len := by rw [List.length_take]; exact Nat.min_comm _ _
          obtain ⟨nv, hnf, hBr⟩ := run_cells (P := P) (w := w) (ys := ys.take len) (c := c') (A := B) rfl (by
            rcases hB with rfl | ⟨b, o, hA, hd⟩
            · exact .inl (by simp)
            · exact .inr ⟨b, o, hA, DenR.take _ _ _ hd⟩)
          have hBr := hBr w rfl
          have run0 : ∀ w', (match A with | some a => storeCells a nv | none => pure () : Sem Unit).run P w = .ok () w' →
              (Builtin.copy_ #[t, u] ty #[.slice A len c, .slice B ys.length c']).run P w = .ok (.int .i64 (ys.take len).length) w' := fun w' hst => by
            have hfc : (Builtin.firstCells s' (Nat.min ys.length len) (.slice B ys.length c')).run P w = .ok nv.toArray w := by
              rw [← htk]
              cases B <;> exact hBr
            rw [htk]
            cases A with
            | none =>
              simp at hst; subst hst
              simp [Builtin.copy_, run_underlying ht, hsz, Builtin.lenOf, goInt]
              simp only [Nat.min_def] at hfc ⊢
              simp [hfc]
            | some a =>
              simp only at hst
              simp [Builtin.copy_, run_underlying ht, hsz, Builtin.lenOf, goInt]
              simp only [Nat.min_def] at hfc ⊢
              simp [hfc, hst]
          have hlen : lo + (ys.take len).length ≤ es.length := by simp; omega
          have hup : ∀ o, (σ.setObj l n o).up.length = σ.up.length := fun o => St.up_setObj σ l n o hl
          rcases hmine with h0 | ⟨rfl, hown, hcap, ⟨cells, el, hh, hroom⟩, hden⟩
          · have hn0 : ys.take len = [] := List.eq_nil_of_length_eq_zero (by simp [h0])
            rw [hn0] at hnf run0 ⊢
            simp only [DenF] at hnf; subst hnf
            rw [put_nil]
            exact ⟨w, _, run0 w (by cases A <;> rfl), (h.again hl hobj).set hd (by rw [hup]; exact VR.dInt _ _), Adv.refl g w, by rw [St.up_set, hup]⟩
          · obtain ⟨hst, R, Ad⟩ := h.patch (P := P) (lo := lo) hl hobj hown hcap hh hroom hden hnf hlen
            exact ⟨_, _, run0 _ hst, R.set hd (by rw [hup]; exact VR.dInt _ _), Ad, by rw [St.up_set, hup]⟩
        · cases ha
      · cases ha
    · cases ha
  · cases ha
end
end Go.Proofs.YtcgjebaomhfbdaaGreat.Vm

/- Elements stored, rows cleared, rows and structs made. -/
namespace Go.Proofs.YtcgjebaomhfbdaaGreat.Vm
open Go
section
variable {P : Program} {g : Gh} {σ : St} {tmps : Array Value} {rts : Roots} {w : World}
theorem run_szOf {e : TypeId} {s : Nat} (hs : szOf P e = some s) : (sizeOf e).run P w = .ok s w := by
  unfold szOf at hs
  cases hp : P.info? e with
  | none => rw [hp] at hs; cases hs
  | some inf => rw [hp] at hs; simp at hs; simp [sizeOf, typeInfo, hp, hs]
theorem put_one {i : Nat} {es : List T} {t : T} (h : i < es.length) : put i [t] es = es.set i t := by
  simp only [put, List.length_singleton]
  rw [List.set_eq_take_append_cons_drop, if_pos h]
  simp
theorem Rel.storeRel (h : Rel g σ tmps rts w) {y : V} {p q : Value} {t : TypeId} {k l n i off : Nat} {σ' : St} (hk : wOf P t = some k) (hx : VR g w σ.O (σ.up.length + 1) (.rel l n i off) p)
    (hy : VR g w σ.O (σ.up.length + 1) y q) (hs : σ.store (.rel l n i off) y k = some σ') :
    ∃ g' w', (Instr.storeAt t p q).run P w = .ok () w' ∧ Rel g' σ' tmps rts w' ∧ Adv g w g' w' ∧ σ'.up.length = σ.up.length := by
  unfold St.store at hs
  split at hs
  · rename_i l' n' off' heq; cases heq
  · rename_i l' n' i' heq
    cases heq
    split at hs
    · rename_i t' ns ht
      obtain ⟨g1, R, K, Ad, _, hden⟩ := h.freeze ht hy
      have hx1 := VR.keep' K (Nat.le_refl _) hx
      have hup : (σ.frz ns).up.length = σ.up.length := by rw [St.up_frz]
      rw [← hup] at hx1
      simp only at hs
      split at hs
      · rename_i s es hobj
        split at hs
        · rename_i hc
          obtain ⟨hi, hcl, hw⟩ := hc
          cases hs
          generalize σ.frz ns = τ at *
          obtain ⟨hl, hr⟩ := hx1
          have e1 : τ.up.length + 1 - 1 - l = τ.up.length - l := by omega
          rw [e1] at hr
          have hO := (St.O_obj τ l n (by omega)).trans hobj
          simp only [RelV, hO] at hr
          obtain ⟨b, o, e, vs, rfl, hown, he, hvl, hvc, hve, hb, ho⟩ := hr
          have hb := hb (by first | rfl | trivial)
          subst hb
          have ho := ho rfl
          subst ho
          have hcs := Den.cells hden
          have hlen := DenC.length hcs
          rcases R.ob _ n _ (by omega) hO with ⟨hes, _⟩ | ⟨_, hcap, cells, el, hh, hroom, hdr⟩
          · subst hes; simp at hi
          · obtain ⟨hst, R', Ad'⟩ := R.patch (P := P) (lo := i) (new := [t']) (nv := q.cells.toList) (by omega) hobj hown hcap hh hroom hdr ⟨q.cells.toList, [], by simp, by rw [hlen, hcl], hcs, rfl⟩ (by simp only [List.length_singleton]; omega)
            rw [put_one hi] at R'
            refine ⟨g1, _, ?_, R', Ad.trans Ad', by rw [St.up_setObj _ _ _ _ (by omega), hup]⟩
            simp only [Instr.storeAt, Instr.sureAddr, Sem.run_bind, Sem.run_pure, Result.andThen_ok, Nat.add_zero]
            unfold storeVar
            obtain ⟨inf, hinf, hsz⟩ := wOf_size hk
            have hqs : q.cells.size = wid k := by rw [← Array.length_toList, hlen, hcl, hw]
            have hsz : (sizeOf t).run P w = .ok q.cells.size w := by simp [sizeOf, typeInfo, hinf, hsz, hqs]
            rw [Sem.run_bind, hsz]
            simp only [Result.andThen_ok, ne_eq, not_true_eq_false, if_false]
            first | exact hst | (simp only [Sem.run_bind, Sem.run_pure, Result.andThen_ok]; exact hst)
        · cases hs
      · cases hs
    · cases hs
  · cases hs
/-- Clears. -/
theorem Rel.clr (h : Rel g σ tmps rts w) {x : V} {p : Value} {t ty e : TypeId} {i : TypeInfo} {zv : Value} {z : T} {s : Nat} {σ' : St}
    (ht : P.underlying t = some (.slice e)) (hi : P.info? e = some i) (hz : i.zero = some zv) (hs : zv.cells.size = s) (hzd : DenC w g.ok z zv.cells.toList)
    (hx : VR g w σ.O (σ.up.length + 1) x p) (ha : σ.clr s x z = some σ') :
    ∃ w', (Builtin.clear_ #[t] ty #[p]).run P w = .ok (.tuple #[]) w' ∧ Rel g σ' tmps rts w' ∧ Adv g w g w' ∧ σ'.up.length = σ.up.length := by
  unfold St.clr at ha
  split at ha
  · rename_i l n lo len s'
    split at ha
    · rename_i hss; subst hss
      split at ha
      · rename_i s' es hobj
        split at ha
        · rename_i hfit
          cases ha
          have hsame : s' = s := by
            obtain ⟨hl, A, c, _, hr⟩ := hx
            have e1 : σ.up.length + 1 - 1 - l = σ.up.length - l := by omega
            rw [e1] at hr
            simp only [RowV, (St.O_obj σ l n (by omega)).trans hobj] at hr
            exact hr.1
          subst hsame
          obtain ⟨hl, A, c, rfl, hmine⟩ := h.mine hx hobj hfit
          by_cases h0 : len = 0
          · subst h0
            simp only [List.replicate_zero, put_nil]
            refine ⟨w, ?_, h.again hl hobj, Adv.refl g w, St.up_setObj _ _ _ _ hl⟩
            cases A <;> simp [Builtin.clear_, run_underlying ht]
          · rcases hmine with h0' | ⟨rfl, hown, hcap, ⟨cells, el, hh, hroom⟩, hden⟩
            · exact absurd h0' h0
            · have hzf := DenF.replicate (s := s') (by rw [Array.length_toList, hs]) hzd len
              have hze : (Builtin.zeroCells zv.cells len).toList = (List.replicate len zv.cells.toList).flatten := zeros_eq _ _
              obtain ⟨hst, R, Ad⟩ := h.patch (P := P) (lo := lo) hl hobj hown hcap hh hroom hden hzf (by simpa using hfit)
              refine ⟨_, ?_, R, Ad, St.up_setObj _ _ _ _ hl⟩
              rw [← hze] at hst
              obtain ⟨m, rfl⟩ : ∃ m, len = m + 1 := ⟨len - 1, by omega⟩
              simp [Builtin.clear_, run_underlying ht, zeroValue, typeInfo, hi, hz, hst]
              first | rfl | (rw [hze]; rfl) | (rw [hze])
        · cases ha
      · cases ha
    · cases ha
  · cases ha
    obtain ⟨A, rfl⟩ := hx
    refine ⟨w, ?_, h, Adv.refl g w, rfl⟩
    cases A <;> simp [Builtin.clear_, run_underlying ht]
  · cases ha
/-- Rows made. -/
theorem bnd_some {hi j : Nat} {v : V} {D : Nat} {O : Obs} {z : Value} (h : bnd hi v = some j) (hz : VR g w O D v z) : ∃ k n, z = .int k n ∧ 0 ≤ n ∧ n ≤ (hi : Int) ∧ n.toNat = j := by
  unfold bnd at h
  split at h
  · rename_i p k n
    split at h
    · rename_i hn
      cases h
      exact ⟨k, n, hz.int, hn.1, hn.2, rfl⟩
    · cases h
  · cases h
theorem Rel.mks (h : Rel g σ tmps rts w) {x y : V} {p q : Value} {t e : TypeId} {i : TypeInfo} {zv : Value} {z : T} {d nm s n c : Nat} {σ' : St}
    (ht : P.underlying t = some (.slice e)) (hi : P.info? e = some i) (hz : i.zero = some zv) (his : i.size = s) (hib : i.bytes ≤ 32768) (hs : zv.cells.size = s) (hzd : DenC w g.ok z zv.cells.toList)
    (hx : VR g w σ.O (σ.up.length + 1) x p) (hy : VR g w σ.O (σ.up.length + 1) y q) (hd : d < tmps.size) (hn : bnd big x = some n) (hc : bnd big y = some c) (hnc : n = c)
    (ha : ((σ.new nm (.rw s (List.replicate n z) false)).map fun σ => σ.set d (.row 0 nm 0 n s)) = some σ') :
    ∃ g' w' v, (Instr.makeSlice t p q).run P w = .ok v w' ∧ Rel g' σ' (tmps.setIfInBounds d v) rts w' ∧ Adv g w g' w' ∧ σ'.up.length = σ.up.length := by
  subst hnc
  obtain ⟨k1, a, rfl, h1, h2, h3⟩ := bnd_some hn hx
  obtain ⟨k2, b, rfl, h4, h5, h6⟩ := bnd_some hc hy
  have hab : a = b := by omega
  subst hab
  have hbig : a ≤ 4294967296 := h2
  cases hnew : σ.new nm (.rw s (List.replicate n z) false) with
  | none => rw [hnew] at ha; cases ha
  | some σ₁ =>
    rw [hnew] at ha
    simp only [Option.map_some, Option.some.injEq] at ha
    subst ha
    obtain ⟨hno, rfl⟩ := new_some hnew
    have hzf := DenF.replicate hs hzd n
    have hze : (Builtin.zeroCells zv.cells n).toList = (List.replicate n zv.cells.toList).flatten := zeros_eq _ _
    have hzl : (Builtin.zeroCells zv.cells n).toList.length = n * s := by rw [zeros_size, hs]
    rw [← hze] at hzf
    obtain ⟨R, hv⟩ := Rel.newRow (w := w) (n := nm) (gr := false) (e := e) (cap := n) (cells := Builtin.zeroCells zv.cells n) h hno hzf (fun j _ => by simp) (by simp) (by rw [← Array.length_toList, hzl]; exact Nat.le_refl _)
    rw [List.length_replicate] at hv
    refine ⟨_, _, _, ?_, R.set hd (by rw [St.up_setObj0]; exact hv), Adv.withRow (σ := σ), by rfl⟩
    have hw : IntKind.i64.wrap a = a := by
      rw [IntKind.wrap_i64]; omega
    have hmul : (i.bytes : Int) * a ≤ 32768 * 4294967296 := Int.mul_le_mul (by omega) hbig h1 (by omega)
    have hnot : ¬ (281474976710656 < (i.bytes : Int) * a) := by omega
    have hnot2 : ¬ a < 0 := by omega
    simp [Instr.makeSlice, run_underlying ht, asInt, asIntOf, typeInfo, hi, hw, hnot, hnot2, sizeOf, his, zeroValue, hz]
    rw [h3]
    by_cases h0 : n * s = 0
    · have : Builtin.zeroCells zv.cells n = #[] := by
        apply Array.ext'
        rw [Array.toList_empty]
        exact List.eq_nil_of_length_eq_zero (by rw [hzl]; exact h0)
      have e0 : Array.map (fun _ => (default : Value)) (Array.range 0) = #[] := by apply Array.ext'; simp
      rw [if_pos h0, h0, this, run_newRow, e0]
      rfl
    · rw [if_neg h0, run_newRow, ← hs]
      rfl
/-- for a frame above -/
theorem Rel.mkl (h : Rel g σ tmps rts w) {x y : V} {p q : Value} {t e : TypeId} {i : TypeInfo} {zv : Value} {z : T} {d l nm s n c : Nat} {σ' : St}
    (ht : P.underlying t = some (.slice e)) (hi : P.info? e = some i) (hz : i.zero = some zv) (his : i.size = s) (hib : i.bytes ≤ 32768) (hs : zv.cells.size = s) (hzd : DenC w g.ok z zv.cells.toList)
    (hx : VR g w σ.O (σ.up.length + 1) x p) (hy : VR g w σ.O (σ.up.length + 1) y q) (hd : d < tmps.size) (hn : bnd big x = some n) (hc : bnd big y = some c) (hnc : n = c)
    (ha : ((σ.newL l nm (.rw s (List.replicate n z) false)).map fun σ => σ.set d (.row l nm 0 n s)) = some σ') :
    ∃ g' w' v, (Instr.makeSlice t p q).run P w = .ok v w' ∧ Rel g' σ' (tmps.setIfInBounds d v) rts w' ∧ Adv g w g' w' ∧ σ'.up.length = σ.up.length := by
  subst hnc
  obtain ⟨k1, a, rfl, h1, h2, h3⟩ := bnd_some hn hx
  obtain ⟨k2, b, rfl, h4, h5, h6⟩ := bnd_some hc hy
  have hab : a = b := by omega
  subst hab
  have hbig : a ≤ 4294967296 := h2
  cases hnew : σ.newL l nm (.rw s (List.replicate n z) false) with
  | none => rw [hnew] at ha; cases ha
  | some σ₁ =>
    rw [hnew] at ha
    simp only [Option.map_some, Option.some.injEq] at ha
    subst ha
    obtain ⟨hl, hno, rfl⟩ := newL_some hnew
    have hzf := DenF.replicate hs hzd n
    have hze : (Builtin.zeroCells zv.cells n).toList = (List.replicate n zv.cells.toList).flatten := zeros_eq _ _
    have hzl : (Builtin.zeroCells zv.cells n).toList.length = n * s := by rw [zeros_size, hs]
    rw [← hze] at hzf
    obtain ⟨R, hv⟩ := Rel.newRowU (w := w) (l := l) (n := nm) (gr := false) (e := e) (cap := n) (cells := Builtin.zeroCells zv.cells n) h hl hno hzf (fun j _ => by simp) (by simp) (by rw [← Array.length_toList, hzl]; exact Nat.le_refl _)
    rw [List.length_replicate] at hv
    refine ⟨_, _, _, ?_, R.set hd (by rw [St.up_setObj _ _ _ _ hl]; exact hv), Adv.withRowU, St.up_setObj _ _ _ _ hl⟩
    have hw : IntKind.i64.wrap a = a := by
      rw [IntKind.wrap_i64]; omega
    have hmul : (i.bytes : Int) * a ≤ 32768 * 4294967296 := Int.mul_le_mul (by omega) hbig h1 (by omega)
    have hnot : ¬ (281474976710656 < (i.bytes : Int) * a) := by omega
    have hnot2 : ¬ a < 0 := by omega
    simp [Instr.makeSlice, run_underlying ht, asInt, asIntOf, typeInfo, hi, hw, hnot, hnot2, sizeOf, his, zeroValue, hz]
    rw [h3]
    by_cases h0 : n * s = 0
    · have : Builtin.zeroCells zv.cells n = #[] := by
        apply Array.ext'
        rw [Array.toList_empty]
        exact List.eq_nil_of_length_eq_zero (by rw [hzl]; exact h0)
      have e0 : Array.map (fun _ => (default : Value)) (Array.range 0) = #[] := by apply Array.ext'; simp
      rw [if_pos h0, h0, this, run_newRow, e0]
      rfl
    · rw [if_neg h0, run_newRow, ← hs]
      rfl
end
end Go.Proofs.YtcgjebaomhfbdaaGreat.Vm

/- Boxes, zero values, structs and slices built. -/
namespace Go.Proofs.YtcgjebaomhfbdaaGreat.Vm
open Go
def okZ : Z → Value → Bool
  | .k (.int k n), .int k' n' => decide (k = k') && decide (n = n')
  | .k (.bool b), .bool b' => b == b'
  | .n _, .slice none 0 0 => true
  | .r _ _, .slice none 0 0 => true
  | .u, x => x.oneCell'
  | _, _ => false
def okZs : List Z → List Value → Bool
  | [], [] => true
  | z :: zs, v :: vs => okZ z v && okZs zs vs
  | _, _ => false
/-- a zero as an element -/
def okT1 : T → Value → Bool
  | .int k n, .int k' n' => decide (k = k') && decide (n = n')
  | .bool b, .bool b' => b == b'
  | .lst _ [], .slice none 0 0 => true
  | _, _ => false
def okT1s : List T → List Value → Bool
  | [], [] => true
  | t :: ts, v :: vs => okT1 t v && okT1s ts vs
  | _, _ => false
def okZt (z : Z) (vs : List Value) : Bool := match z.t? with
  | some (.agg cs) => okT1s cs vs
  | some t => okT1s [t] vs
  | none => false
section
variable {P : Program} {g : Gh} {σ : St} {tmps : Array Value} {rts : Roots} {w : World}
theorem okZ.one {z : Z} {x : Value} (h : okZ z x = true) : x.oneCell' = true := by
  unfold okZ at h
  split at h <;> first | rfl | exact h | cases h
theorem okZ.rz {nm s : Nat} {x : Value} (h : okZ (.r nm s) x = true) : x = .slice none 0 0 := by
  unfold okZ at h
  split at h <;> first | rfl | (rename_i heq; cases heq; done) | (cases h; done)
theorem okZs.one : ∀ (zs : List Z) (vs : List Value), okZs zs vs = true → ∀ y ∈ vs, y.oneCell' = true
  | [], [], _ => by simp
  | [], _ :: _, h => by simp [okZs] at h
  | _ :: _, [], h => by simp [okZs] at h
  | z :: zs, v :: vs, h => by
    simp only [okZs, Bool.and_eq_true] at h
    intro y hy
    rcases List.mem_cons.1 hy with rfl | hy
    · exact okZ.one h.1
    · exact okZs.one zs vs h.2 y hy
theorem okZ.v {O : Obs} {D : Nat} {z : Z} {v : V} {x : Value} (h : okZ z x = true) (hv : z.v = some v) : VR g w O D v x := by
  unfold okZ at h
  split at h
  · simp only [Bool.and_eq_true, decide_eq_true_eq] at h; obtain ⟨rfl, rfl⟩ := h; simp [Z.v] at hv; subst hv; rfl
  · simp only [beq_iff_eq] at h; subst h; simp [Z.v] at hv; subst hv; rfl
  · simp [Z.v] at hv; subst hv; exact ⟨none, rfl⟩
  · simp [Z.v] at hv
  · simp [Z.v] at hv; subst hv; trivial
  · cases h
theorem okZs.v {O : Obs} {D : Nat} : ∀ (zs : List Z) (vs : List V) (xs : List Value), okZs zs xs = true → zs.mapM Z.v = some vs → VRs g w O D vs xs
  | [], vs, [], _, hv => by simp at hv; subst hv; rfl
  | [], _, _ :: _, h, _ => by simp [okZs] at h
  | _ :: _, _, [], h, _ => by simp [okZs] at h
  | z :: zs, vs, x :: xs, h, hv => by
    simp only [okZs, Bool.and_eq_true] at h
    simp only [List.mapM_cons, Option.bind_eq_bind, Option.pure_def] at hv
    cases h1 : z.v with
    | none => simp [h1] at hv
    | some v =>
      cases h2 : zs.mapM Z.v with
      | none => simp [h1, h2] at hv
      | some us =>
        simp [h1, h2] at hv
        subst hv
        exact ⟨x, xs, rfl, okZ.v h.1 h1, okZs.v zs us xs h.2 h2⟩
theorem okT1.den {ok : Nat → Prop} {t : T} {v : Value} (h : okT1 t v = true) : t.isCell = true ∧ DenC w ok t [v] := by
  unfold okT1 at h
  split at h
  · simp only [Bool.and_eq_true, decide_eq_true_eq] at h; obtain ⟨rfl, rfl⟩ := h; exact ⟨rfl, rfl⟩
  · simp only [beq_iff_eq] at h; subst h; exact ⟨rfl, rfl⟩
  · exact ⟨rfl, none, 0, rfl, by simp, .inl rfl⟩
  · cases h
theorem okT1s.den {ok : Nat → Prop} : ∀ (ts : List T) (vs : List Value), okT1s ts vs = true → DenL w ok ts vs
  | [], [], _ => rfl
  | [], _ :: _, h => by simp [okT1s] at h
  | _ :: _, [], h => by simp [okT1s] at h
  | t :: ts, v :: vs, h => by
    simp only [okT1s, Bool.and_eq_true] at h
    have h1 := okT1.den (w := w) (ok := ok) h.1
    exact ⟨v, vs, rfl, h1.1, h1.2, okT1s.den ts vs h.2⟩
theorem okZt.den {ok : Nat → Prop} {z : Z} {t : T} {vs : List Value} (h : okZt z vs = true) (hz : z.t? = some t) : DenC w ok t vs := by
  unfold okZt at h
  rw [hz] at h
  have one : ∀ t : T, okT1s [t] vs = true → DenC w ok t vs := fun t h => by
    obtain ⟨v, vs', rfl, _, h1, h2⟩ := okT1s.den (w := w) (ok := ok) [t] vs h
    simp only [DenL] at h2
    subst h2
    exact h1
  cases t with
  | agg cs => exact okT1s.den cs vs h
  | int k n => exact one _ h
  | bool b => exact one _ h
  | lst s es => exact one _ h
/-- zero cells, with new rows -/
theorem Rel.zcells : ∀ (zs : List Z) (xs : List Value) {g : Gh} {σ σ' : St} {vs : List V}, Rel g σ tmps rts w → okZs zs xs = true → zcells σ zs = some (vs, σ') →
    ∃ g', Rel g' σ' tmps rts w ∧ Adv g w g' w ∧ VRs g' w σ'.O (σ'.up.length + 1) vs xs ∧ σ'.up.length = σ.up.length
  | [], [], g, σ, σ', vs, h, _, e => by
    simp only [Vm.zcells, Option.some.injEq, Prod.mk.injEq] at e
    obtain ⟨rfl, rfl⟩ := e
    exact ⟨g, h, Adv.refl g w, rfl, rfl⟩
  | [], _ :: _, _, _, _, _, _, h, _ => by simp [okZs] at h
  | _ :: _, [], _, _, _, _, _, h, _ => by simp [okZs] at h
  | z :: zs, x :: xs, g, σ, σ', vs, h, hz, e => by
    simp only [okZs, Bool.and_eq_true] at hz
    simp only [Vm.zcells] at e
    split at e
    · cases e
    · rename_i us τ hu
      obtain ⟨g1, R, Ad, hv, hup⟩ := Rel.zcells zs xs h hz.2 hu
      have simple : ∀ v, z.v = some v → some (v :: us, τ) = some (vs, σ') → ∃ g', Rel g' σ' tmps rts w ∧ Adv g w g' w ∧ VRs g' w σ'.O (σ'.up.length + 1) vs (x :: xs) ∧ σ'.up.length = σ.up.length := fun v hv' e => by
        simp only [Option.some.injEq, Prod.mk.injEq] at e
        obtain ⟨rfl, rfl⟩ := e
        exact ⟨g1, R, Ad, ⟨x, xs, rfl, okZ.v hz.1 hv', hv⟩, hup⟩
      split at e
      · exact simple _ rfl e
      · exact simple _ rfl e
      · exact simple _ rfl e
      · rename_i nm s
        split at e
        · rename_i τ' hn
          simp only [Option.some.injEq, Prod.mk.injEq] at e
          obtain ⟨rfl, rfl⟩ := e
          obtain ⟨hno, rfl⟩ := new_some hn
          have hx : x = .slice none 0 0 := okZ.rz hz.1
          subst hx
          obtain ⟨R', K', Ad', hr⟩ := R.newNil (s := s) (gr := false) hno none
          refine ⟨_, R', Ad.trans Ad', ⟨_, xs, rfl, ?_, ?_⟩, by rw [St.up_setObj0]; exact hup⟩
          · rw [St.up_setObj0]; exact hr
          · rw [St.up_setObj0]; exact VRs.keep' K' (Nat.le_refl _) hv
        · cases e
theorem Rel.alloc (h : Rel g σ tmps rts w) {elem : TypeId} {i : TypeInfo} {zv : Value} {zs : List Z} {vs : List V} {d nm : Nat} {σ₁ σ' : St} (hi : P.info? elem = some i) (hz : i.zero = some zv)
    (hok : okZs zs zv.cells.toList = true) (hd : d < tmps.size) (e : Vm.zcells σ zs = some (vs, σ₁)) (ha : ((σ₁.new nm (.box vs)).map fun σ => σ.set d (.ptr 0 nm 0)) = some σ') :
    ∃ g' w' v, (Instr.alloc elem true (.tuple #[])).run P w = .ok v w' ∧ Rel g' σ' (tmps.setIfInBounds d v) rts w' ∧ Adv g w g' w' ∧ σ'.up.length = σ.up.length := by
  obtain ⟨g1, R, Ad, hv, hup⟩ := Rel.zcells zs _ h hok e
  cases hn : σ₁.new nm (.box vs) with
  | none => rw [hn] at ha; cases ha
  | some τ =>
    rw [hn] at ha
    simp only [Option.map_some, Option.some.injEq] at ha
    subst ha
    obtain ⟨hno, rfl⟩ := new_some hn
    obtain ⟨R', hr⟩ := Rel.newBox (e := elem) R hno hv (okZs.one _ _ hok)
    refine ⟨_, _, _, ?_, R'.set hd (by rw [St.up_setObj0]; exact hr), Ad.trans (Adv.withRow (σ := σ₁)), by rw [St.up_set, St.up_setObj0]; exact hup⟩
    simp only [Instr.alloc, zeroValue, typeInfo, Sem.run_bind, newVar]
    simp [hi, hz, run_newRow]
theorem Rel.box' (h : Rel g σ tmps rts w) {elem : TypeId} {x : V} {p : Value} {cs : List V} {k d nm : Nat} {σ' : St} (hx : VR g w σ.O (σ.up.length + 1) x p) (hc : cellsOf k x = some cs)
    (hd : d < tmps.size) (ha : ((σ.new nm (.box cs)).map fun σ => σ.set d (.ptr 0 nm 0)) = some σ') :
    ∃ g' w' v, (Instr.box elem p).run P w = .ok v w' ∧ Rel g' σ' (tmps.setIfInBounds d v) rts w' ∧ Adv g w g' w' ∧ σ'.up.length = σ.up.length := by
  cases hn : σ.new nm (.box cs) with
  | none => rw [hn] at ha; cases ha
  | some τ =>
    rw [hn] at ha
    simp only [Option.map_some, Option.some.injEq] at ha
    subst ha
    obtain ⟨hno, rfl⟩ := new_some hn
    obtain ⟨hv, h1, _⟩ := VR.cells hc hx
    obtain ⟨R', hr⟩ := Rel.newBox (e := elem) h hno hv h1
    refine ⟨_, _, _, ?_, R'.set hd (by rw [St.up_setObj0]; exact hr), Adv.withRow (σ := σ), by rfl⟩
    simp only [Instr.box, Sem.run_bind, newVar]
    simp [run_newRow]
/-! Parts of a value. -/
theorem run_part {t : TypeId} {k off : Nat} {vs : List Value} (hk : wOf P t = some k) (hfit : off + wid k ≤ vs.length) :
    (part t vs.toArray off).run P w = .ok (ofVals k (slice off (wid k) vs)) w := by
  unfold part
  rw [Sem.run_bind, run_isAgg hk]
  simp only [Result.andThen_ok]
  cases k with
  | zero =>
    simp only [wid] at hfit ⊢
    have : vs[off]? = some (vs[off]'(by omega)) := List.getElem?_eq_getElem _
    simp [this, ofVals]
    simp [slice, List.getElem?_drop, this]
  | succ k =>
    obtain ⟨i, hi, hs⟩ := wOf_size hk
    have hsz : (sizeOf t).run P w = .ok (wid (k + 1)) w := by simp [sizeOf, typeInfo, hi, hs]
    simp [hsz, ofVals]
    simp [slice, wid]
theorem VR.part {D : Nat} {O : Obs} {cs : List V} {v : V} {p : Value} {off k : Nat} (hx : VR g w O D (.ag cs) p) (hv : (sub? off (wid k) cs).bind (Vm.ofCells k) = some v) :
    ∃ vs, p = .agg vs.toArray ∧ off + wid k ≤ vs.length ∧ VR g w O D v (ofVals k (slice off (wid k) vs)) := by
  obtain ⟨vs, rfl, h, h1⟩ := hx
  unfold sub? at hv
  split at hv
  · rename_i hfit
    simp only [Option.bind_some] at hv
    have hl := VRs.length _ _ h
    exact ⟨vs, rfl, by omega, VR.ofCells hv (slice_length hfit) (VRs.slice h) (fun y hy => h1 y (mem_slice hy))⟩
  · cases hv
/-! Filling. -/
theorem fill_one {off : Nat} {v : Value} {cells : Array Value} (hfit : off + v.cells.size ≤ cells.size) :
    (v.cells.zipIdx.foldl (fun cs (c, j) => cs.setIfInBounds (off + j) c) cells).toList = put off v.cells.toList cells.toList := by
  rw [← Array.foldl_toList, Array.toList_zipIdx]
  obtain ⟨h1, h2⟩ := Go.Great.foldl_set off v.cells.toList 0 cells
  apply List.ext_getElem?
  intro k
  have h2 := h2 k
  rw [← Array.getElem?_toList] at h2
  rw [h2]
  simp only [put, Nat.add_zero, Array.length_toList, List.append_assoc]
  have e1 : (List.take off cells.toList).length = off := by rw [List.length_take, Array.length_toList, Nat.min_eq_left (by omega)]
  by_cases hk : k < off
  · rw [if_neg (by omega), List.getElem?_append_left (by omega), List.getElem?_take_of_lt hk]; simp
  · rw [List.getElem?_append_right (by omega), e1]
    by_cases hk2 : k - off < v.cells.size
    · rw [if_pos (by omega), List.getElem?_append_left (by simpa using hk2)]
    · rw [if_neg (by omega), List.getElem?_append_right (by simpa using hk2), List.getElem?_drop]
      simp only [Array.length_toList]
      have e2 : off + v.cells.size + (k - off - v.cells.size) = k := by omega
      rw [e2]; simp
def placesOf (P : Program) : TypeDesc → Option (Nat → Option (Nat × Nat))
  | .array _ e => (P.info? e).map fun ie i => some (i * ie.size, ie.size)
  | .struct fields => (fields.toList.mapM fun f => (P.info? f.type).map fun i => (f.offset, i.size)).map fun places i => places[i]?
  | _ => none
def okParts (place : Nat → Option (Nat × Nat)) : List (Nat × Nat × X) → List (Nat × Operand) → Bool
  | [], [] => true
  | (off, k, x) :: ps, (i, p) :: qs => decide (place i = some (off, wid k)) && okX x p && okParts place ps qs
  | _, _ => false
def okBld (P : Program) (t : TypeId) (z : List Z) (ps : List (Nat × Nat × X)) (parts : List (Nat × Operand)) : Bool :=
  match P.info? t, P.underlying t with
  | some it, some d => match it.zero, placesOf P d with
    | some zv, some place => okZs z zv.cells.toList && okParts place ps parts
    | _, _ => false
  | _, _ => false
theorem Rel.fill (h : Rel g σ tmps rts w) {place : Nat → Option (Nat × Nat)} : ∀ (ps : List (Nat × Nat × X)) (parts : List (Nat × Operand)) (cs cs' : List V) (cells : Array Value), okParts place ps parts = true →
    VRs g w σ.O (σ.up.length + 1) cs cells.toList → (∀ y ∈ cells.toList, y.oneCell' = true) → Vm.fill cs (ps.map fun (o, w, x) => (o, w, σ.val x)) = some cs' →
    ∃ r, Instr.fill place cells (parts.map fun (i, x) => (i, evalT tmps x)) = some r ∧ VRs g w σ.O (σ.up.length + 1) cs' r.toList ∧ ∀ y ∈ r.toList, y.oneCell' = true
  | [], [], cs, cs', cells, _, hv, h1, e => by
    simp only [List.map_nil, Vm.fill, Option.some.injEq] at e; subst e
    exact ⟨cells, rfl, hv, h1⟩
  | [], _ :: _, _, _, _, ho, _, _, _ => by simp [okParts] at ho
  | _ :: _, [], _, _, _, ho, _, _, _ => by simp [okParts] at ho
  | (off, k, x) :: ps, (i, p) :: qs, cs, cs', cells, ho, hv, h1, e => by
    simp only [okParts, Bool.and_eq_true, decide_eq_true_eq] at ho
    simp only [List.map_cons, Vm.fill] at e
    split at e
    · rename_i new hc
      split at e
      · rename_i hfit
        obtain ⟨hn, hn1, hsz⟩ := VR.cells hc (h.val ho.1.2)
        have hnl := VRs.length _ _ hn
        have hcl := VRs.length _ _ hv
        have hfit' : off + (evalT tmps p).cells.size ≤ cells.size := by rw [← Array.length_toList, ← hnl, ← Array.length_toList, ← hcl]; exact hfit
        have hput := fill_one hfit'
        obtain ⟨r, hr, hrv, hr1⟩ := Rel.fill h ps qs _ cs' ((evalT tmps p).cells.zipIdx.foldl (fun cs (c, j) => cs.setIfInBounds (off + j) c) cells) ho.2 (by rw [hput]; exact VRs.put hv hn)
          (fun y hy => by rw [hput] at hy; rcases mem_put hy with hy | hy; exact hn1 y hy; exact h1 y hy) e
        refine ⟨r, ?_, hrv, hr1⟩
        simp only [List.map_cons]
        unfold Instr.fill
        simp only [ho.1.1, hsz]
        rw [if_neg (by rw [hsz] at hfit'; simp; omega)]
        exact hr
      · cases e
    · cases e
theorem Rel.bld (h : Rel g σ tmps rts w) {t : TypeId} {zs : List Z} {ps : List (Nat × Nat × X)} {parts : Array (Nat × Operand)} {cs cs' : List V} (hok : okBld P t zs ps parts.toList = true)
    (hz : zs.mapM Z.v = some cs) (hf : Vm.fill cs (ps.map fun (o, w, x) => (o, w, σ.val x)) = some cs') :
    ∃ v, (Instr.build t (parts.map fun (i, x) => (i, evalT tmps x))).run P w = .ok v w ∧ VR g w σ.O (σ.up.length + 1) (.ag cs') v := by
  unfold okBld at hok
  split at hok
  · rename_i it d hit hu
    split at hok
    · rename_i zv place hzv hpl
      simp only [Bool.and_eq_true] at hok
      obtain ⟨r, hr, hrv, hr1⟩ := h.fill ps parts.toList cs cs' zv.cells hok.2 (okZs.v _ _ _ hok.1 hz) (okZs.one _ _ hok.1) hf
      refine ⟨.agg r, run_build w t _ r ?_, r.toList, by simp, hrv, hr1⟩
      rw [Array.toList_map]
      unfold Program.built
      simp only [hit, hu]
      cases d <;> try (simp [placesOf] at hpl; done)
      case array n e =>
        simp only [placesOf, Option.map_eq_some_iff] at hpl
        obtain ⟨ie, hie, rfl⟩ := hpl
        simp only [hzv, hie]
        exact hr
      case struct fields =>
        simp only [placesOf, Option.map_eq_some_iff] at hpl
        obtain ⟨places, hp, rfl⟩ := hpl
        simp only [hzv, hp]
        simpa using hr
    · cases hok
  · cases hok
end
end Go.Proofs.YtcgjebaomhfbdaaGreat.Vm

/- Slices cut and built; rows settled. -/
namespace Go.Proofs.YtcgjebaomhfbdaaGreat.Vm
open Go
section
variable {P : Program} {g : Gh} {σ : St} {tmps : Array Value} {rts : Roots} {w : World}
theorem slice_slice {α : Type} {lo len a k : Nat} {es : List α} (h : a + k ≤ len) : slice a k (slice lo len es) = slice (lo + a) k es := by
  simp only [slice, List.drop_take, List.drop_drop, List.take_take]
  rw [Nat.min_eq_left (by omega)]
def okV (g : Gh) (w : World) (O : Obs) (D : Nat) : Option V → Option Value → Prop
  | some v, some z => VR g w O D v z
  | none, none => True
  | _, _ => False
theorem run_bound {D : Nat} {O : Obs} {hi j : Nat} {v : V} {z : Value} {code : BoundsCode} {y : Nat} (h : bnd hi v = some j) (hz : VR g w O D v z) (hy : hi ≤ y) :
    (Instr.sliceBound z y code).run P w = .ok j w ∧ j ≤ hi := by
  obtain ⟨k, n, rfl, h0, h1, rfl⟩ := bnd_some h hz
  refine ⟨?_, by omega⟩
  simp only [Instr.sliceBound, asIntOf, Sem.run_bind, Sem.run_pure, Result.andThen_ok]
  rw [if_pos ⟨h0, by omega⟩]
  rfl
theorem run_bounds {D : Nat} {O : Obs} {len cap l h : Nat} {lo hi : Option V} {zl zh : Option Value} (hc : cut lo hi len = some (l, h)) (hcap : len ≤ cap)
    (hl : okV g w O D lo zl) (hh : okV g w O D hi zh) :
    (Instr.sliceBounds true len cap zl zh none).run P w = .ok (l, h, cap) w ∧ l ≤ h ∧ h ≤ len := by
  unfold cut at hc
  split at hc
  · rename_i h' hh'
    split at hc
    · rename_i l' hl'
      simp only [Option.some.injEq, Prod.mk.injEq] at hc
      obtain ⟨rfl, rfl⟩ := hc
      have hi' : h' ≤ len ∧ (match zh with | some v => Instr.sliceBound v cap .sliceAcap | none => pure len : Sem Nat).run P w = .ok h' w := by
        cases hi with
        | none =>
          simp only [Option.some.injEq] at hh'; subst hh'
          cases zh with
          | none => exact ⟨Nat.le_refl _, rfl⟩
          | some z => exact hh.elim
        | some v =>
          cases zh with
          | none => exact hh.elim
          | some z =>
            have := run_bound (P := P) (code := .sliceAcap) (y := cap) hh' hh hcap
            exact ⟨this.2, this.1⟩
      have lo' : l' ≤ h' ∧ (match zl with | some v => Instr.sliceBound v h' .sliceB | none => pure 0 : Sem Nat).run P w = .ok l' w := by
        cases lo with
        | none =>
          simp only [Option.some.injEq] at hl'; subst hl'
          cases zl with
          | none => exact ⟨Nat.zero_le _, rfl⟩
          | some z => exact hl.elim
        | some v =>
          cases zl with
          | none => exact hl.elim
          | some z =>
            have := run_bound (P := P) (code := .sliceB) (y := h') hl' hl (Nat.le_refl _)
            exact ⟨this.2, this.1⟩
      refine ⟨?_, lo'.1, hi'.1⟩
      have r1 := hi'.2
      have r2 := lo'.2
      unfold Instr.sliceBounds
      cases zh with
      | none =>
        cases zl with
        | none => simp at r1 r2 ⊢; exact ⟨r2, r1⟩
        | some z => simp at r1 r2 ⊢; subst r1; simp [r2]
      | some z' =>
        cases zl with
        | none => simp at r1 r2 ⊢; simp [r1, r2]
        | some z => simp at r1 r2 ⊢; simp [r1, r2]
    · cases hc
  · cases hc
theorem run_bounds3 {D : Nat} {O : Obs} {len cap l h m : Nat} {lo hi : Option V} {v : V} {z : Value} {zl zh : Option Value} (hc : cut lo hi len = some (l, h)) (hcap : len ≤ cap) (hhi : hi ≠ none)
    (hm : bnd len v = some m) (hmh : m = h) (hz : VR g w O D v z)
    (hl : okV g w O D lo zl) (hh : okV g w O D hi zh) :
    (Instr.sliceBounds true len cap zl zh (some z)).run P w = .ok (l, h, h) w ∧ l ≤ h ∧ h ≤ len := by
  subst hmh
  unfold cut at hc
  split at hc
  · rename_i h' hh'
    split at hc
    · rename_i l' hl'
      simp only [Option.some.injEq, Prod.mk.injEq] at hc
      obtain ⟨rfl, rfl⟩ := hc
      cases hi with
      | none => exact absurd rfl hhi
      | some vh =>
        cases zh with
        | none => exact hh.elim
        | some y =>
          have r0 := run_bound (P := P) (code := .slice3Acap) (y := cap) hm hz hcap
          have hh'' : bnd len vh = some h' := hh'
          obtain ⟨kk, nn, rfl, n0, n1, n2⟩ := bnd_some hh'' hh
          have r1 : (Instr.sliceBound (.int kk nn) h' .slice3B).run P w = .ok h' w := by
            simp only [Instr.sliceBound, asIntOf, Sem.run_bind, Sem.run_pure, Result.andThen_ok]
            rw [if_pos ⟨n0, by omega⟩, n2]
            rfl
          have lo' : l' ≤ h' ∧ (match zl with | some v => Instr.sliceBound v h' .slice3C | none => pure 0 : Sem Nat).run P w = .ok l' w := by
            cases lo with
            | none =>
              simp only [Option.some.injEq] at hl'; subst hl'
              cases zl with
              | none => exact ⟨Nat.zero_le _, rfl⟩
              | some z => exact hl.elim
            | some v =>
              cases zl with
              | none => exact hl.elim
              | some z =>
                have := run_bound (P := P) (code := .slice3C) (y := h') hl' hl (Nat.le_refl _)
                exact ⟨this.2, this.1⟩
          refine ⟨?_, lo'.1, r0.2⟩
          have r2 := lo'.2
          unfold Instr.sliceBounds
          cases zl with
          | none => simp at r2 ⊢; simp [r0.1, r1, r2]
          | some z => simp at r2 ⊢; simp [r0.1, r1, r2]
    · cases hc
  · cases hc
theorem run_bounds3u {D : Nat} {O : Obs} {len cap l h m : Nat} {lo hi : Option V} {v : V} {z : Value} {zl zh : Option Value} (hc : cut lo hi len = some (l, h)) (hcap : len ≤ cap) (hhi : hi ≠ none)
    (hm : bnd len v = some m) (hmh : h ≤ m) (hz : VR g w O D v z)
    (hl : okV g w O D lo zl) (hh : okV g w O D hi zh) :
    (Instr.sliceBounds true len cap zl zh (some z)).run P w = .ok (l, h, m) w ∧ l ≤ h ∧ h ≤ len := by
  unfold cut at hc
  split at hc
  · rename_i h' hh'
    split at hc
    · rename_i l' hl'
      simp only [Option.some.injEq, Prod.mk.injEq] at hc
      obtain ⟨rfl, rfl⟩ := hc
      cases hi with
      | none => exact absurd rfl hhi
      | some vh =>
        cases zh with
        | none => exact hh.elim
        | some y =>
          have r0 := run_bound (P := P) (code := .slice3Acap) (y := cap) hm hz hcap
          have hh'' : bnd len vh = some h' := hh'
          obtain ⟨kk, nn, rfl, n0, n1, n2⟩ := bnd_some hh'' hh
          have r1 : (Instr.sliceBound (.int kk nn) m .slice3B).run P w = .ok h' w := by
            simp only [Instr.sliceBound, asIntOf, Sem.run_bind, Sem.run_pure, Result.andThen_ok]
            rw [if_pos ⟨n0, by omega⟩, n2]
            rfl
          have lo' : l' ≤ h' ∧ (match zl with | some v => Instr.sliceBound v h' .slice3C | none => pure 0 : Sem Nat).run P w = .ok l' w := by
            cases lo with
            | none =>
              simp only [Option.some.injEq] at hl'; subst hl'
              cases zl with
              | none => exact ⟨Nat.zero_le _, rfl⟩
              | some z => exact hl.elim
            | some v =>
              cases zl with
              | none => exact hl.elim
              | some z =>
                have := run_bound (P := P) (code := .slice3C) (y := h') hl' hl (Nat.le_refl _)
                exact ⟨this.2, this.1⟩
          refine ⟨?_, lo'.1, by omega⟩
          have r2 := lo'.2
          unfold Instr.sliceBounds
          cases zl with
          | none => simp at r2 ⊢; simp [r0.1, r1, r2]
          | some z => simp at r2 ⊢; simp [r0.1, r1, r2]
    · cases hc
  · cases hc
theorem run_slice {t e : TypeId} {s len cap l h m : Nat} {A : Option Addr} {zl zh zm : Option Value} (ht : P.underlying t = some (.slice e)) (hs : szOf P e = some s)
    (hb : (Instr.sliceBounds true len cap zl zh zm).run P w = .ok (l, h, m) w) :
    (Instr.sliceAt t (.slice A len cap) zl zh zm).run P w = .ok (.slice (if m = l then A else A.map (·.add (l * s))) (h - l) (m - l)) w := by
  have hsz := run_szOf (P := P) (w := w) hs
  simp [Instr.sliceAt, Instr.slice, run_underlying ht, hb, hsz]
theorem VR.ofRows {D : Nat} {O : Obs} {p : Bool} {s n c : Nat} {es : List T} {A : Option Addr} (hn : es.length = n) (hc : n ≤ c) (h : es = [] ∨ ∃ b o, A = some ⟨b, o, none⟩ ∧ (g.ok b ∨ (p = false ∧ b < g.base)) ∧ DenR w g.ok b s o es) :
    VR g w O D (.d p (.lst s es)) (.slice A n c) := by
  subst hn
  cases p with
  | true => exact ⟨A, c, rfl, hc, h.imp id fun ⟨b, o, hA, hb, hr⟩ => ⟨b, o, hA, hb.elim id (fun hh => by cases hh.1), hr⟩⟩
  | false => exact ⟨A, c, rfl, hc, h.imp id fun ⟨b, o, hA, hb, hr⟩ => ⟨b, o, hA, hb.imp id And.right, hr⟩⟩
theorem VR.rows {D : Nat} {O : Obs} {p : Bool} {s : Nat} {es : List T} {x : Value} (h : VR g w O D (.d p (.lst s es)) x) :
    ∃ A c, x = .slice A es.length c ∧ es.length ≤ c ∧ (es = [] ∨ ∃ b o, A = some ⟨b, o, none⟩ ∧ (g.ok b ∨ (p = false ∧ b < g.base)) ∧ DenR w g.ok b s o es) := by
  cases p with
  | true =>
    obtain ⟨A, c, hv, hc, hd⟩ := h
    simp only [List.cons.injEq, and_true] at hv
    exact ⟨A, c, hv, hc, hd.imp id fun ⟨b, o, hA, hb, hr⟩ => ⟨b, o, hA, .inl hb, hr⟩⟩
  | false =>
    obtain ⟨A, c, hv, hc, hd⟩ := h
    exact ⟨A, c, hv, hc, hd.imp id fun ⟨b, o, hA, hb, hr⟩ => ⟨b, o, hA, hb.imp id (fun h => ⟨rfl, h⟩), hr⟩⟩
/-- data cut -/
theorem VR.cutD {D : Nat} {O : Obs} {p : Bool} {s l h m : Nat} {es : List T} {A : Option Addr} (hlh : l ≤ h) (hh : h ≤ es.length) (hm : h ≤ m)
    (hd : es = [] ∨ ∃ b o, A = some ⟨b, o, none⟩ ∧ (g.ok b ∨ (p = false ∧ b < g.base)) ∧ DenR w g.ok b s o es) :
    VR g w O D (.d p (.lst s (slice l (h - l) es))) (.slice (if m = l then A else A.map (·.add (l * s))) (h - l) (m - l)) := by
  have hlen : (slice l (h - l) es).length = h - l := slice_length (by omega)
  refine VR.ofRows hlen (by omega) ?_
  by_cases he : h - l = 0
  · exact .inl (List.eq_nil_of_length_eq_zero (by rw [hlen]; exact he))
  · rcases hd with rfl | ⟨b, o, rfl, hb, hr⟩
    · simp at hh; omega
    · refine .inr ⟨b, o + l * s, ?_, hb, hr.slice⟩
      rw [if_neg (by omega)]
      simp [Addr.add_none]
theorem Rel.slc {x v : V} {p : Value} {t e : TypeId} {s : Nat} {lo hi mx : Option V} {zl zh zm : Option Value} (ht : P.underlying t = some (.slice e)) (hs : szOf P e = some s)
    (hx : VR g w σ.O (σ.up.length + 1) x p) (hl : okV g w σ.O (σ.up.length + 1) lo zl) (hh : okV g w σ.O (σ.up.length + 1) hi zh) (hm : okV g w σ.O (σ.up.length + 1) mx zm) (hmx : mx ≠ none → hi ≠ none)
    (hv : St.slc s x lo hi mx = some v) : ∃ u, (Instr.sliceAt t p zl zh zm).run P w = .ok u w ∧ VR g w σ.O (σ.up.length + 1) v u := by
  unfold St.slc at hv
  split at hv
  · rename_i pp s' es
    split at hv
    · rename_i hss; subst hss
      cases hc : cut lo hi es.length with
      | none => rw [hc] at hv; cases hv
      | some lh =>
        obtain ⟨l, h⟩ := lh
        rw [hc] at hv
        simp only at hv
        obtain ⟨A, c, rfl, hlc, hd⟩ := VR.rows hx
        cases mx with
        | none =>
          cases zm with
          | some z => exact hm.elim
          | none =>
            simp only [Option.some.injEq] at hv
            subst hv
            obtain ⟨hb, h1, h2⟩ := run_bounds (P := P) hc hlc hl hh
            exact ⟨_, run_slice ht hs hb, VR.cutD h1 h2 (by omega) hd⟩
        | some vm =>
          cases zm with
          | none => exact hm.elim
          | some z =>
            simp only at hv
            cases hb : bnd es.length vm with
            | none => rw [hb] at hv; cases hv
            | some m =>
              rw [hb] at hv
              simp only at hv
              split at hv
              · rename_i hmh
                obtain ⟨hb3, h1, h2⟩ := run_bounds3 (P := P) hc hlc (hmx (by simp)) hb hmh hm hl hh
                cases m with
                | zero =>
                simp only [Option.some.injEq] at hv
                subst hv
                subst hmh
                have hl0 : l = 0 := by omega
                subst hl0
                exact ⟨_, run_slice ht hs hb3, _, rfl⟩
                | succ m =>
                simp only [Option.some.injEq] at hv
                subst hv
                have := VR.cutD (O := σ.O) (D := σ.up.length + 1) h1 h2 (Nat.le_refl h) hd
                refine ⟨_, run_slice ht hs hb3, ?_, ⟨_, _, rfl⟩⟩
                cases pp <;> exact this
              · split at hv
                · rename_i hmu
                  simp only [Option.some.injEq] at hv
                  subst hv
                  obtain ⟨hb3, _, _⟩ := run_bounds3u (P := P) hc hlc (hmx (by simp)) hb hmu hm hl hh
                  exact ⟨_, run_slice ht hs hb3, trivial⟩
                · cases hv
    · cases hv
  · rename_i s'
    cases hc : cut lo hi 0 with
    | none => rw [hc] at hv; cases hv
    | some lh =>
      obtain ⟨l, h⟩ := lh
      rw [hc] at hv
      cases mx with
      | some m => cases hv
      | none =>
        simp only [Option.some.injEq] at hv
        subst hv
        cases zm with
        | some z => exact hm.elim
        | none =>
          obtain ⟨A, rfl⟩ := hx
          obtain ⟨hb, h1, h2⟩ := run_bounds (P := P) hc (Nat.le_refl 0) hl hh
          have : l = 0 := by omega
          subst this
          have : h = 0 := by omega
          subst this
          exact ⟨_, run_slice ht hs hb, _, rfl⟩
  · rename_i l n lo' len s'
    split at hv
    · rename_i hss; subst hss
      cases hc : cut lo hi len with
      | none => rw [hc] at hv; cases hv
      | some lh =>
        obtain ⟨a, h⟩ := lh
        rw [hc] at hv
        obtain ⟨hlt, A, c, rfl, hr⟩ := hx
        have hlc : len ≤ c := by
          unfold RowV at hr
          split at hr
          · exact hr.2.2.1
          · exact hr.2.2.1
          · exact hr
          · exact hr.2.1
          · exact hr.elim
        have part : ∀ m, a ≤ h → h ≤ len → h ≤ m → m ≤ c → RowV g w σ.O (σ.up.length + 1 - 1 - l) n (lo' + a) (h - a) s' (if m = a then A else A.map (·.add (a * s'))) (m - a) := by
          intro m h1 h2 h3 h4
          unfold RowV at hr ⊢
          split at hr
          · rename_i s1 es1 gr1 heq1
            obtain ⟨rfl, hfit, _, hr⟩ := hr
            refine ⟨rfl, by omega, by omega, ?_⟩
            by_cases hca : m = a
            · exact .inl (by omega)
            · rw [if_neg hca]
              rcases hr with hr | ⟨b, o, rfl, hown, hden, hpos⟩
              · exact .inl (by omega)
              · refine .inr ⟨b, o + a * s1, by simp [Addr.add_none], hown, ?_, ?_⟩
                · have := hden.slice (lo := a) (len := h - a)
                  rwa [slice_slice (by omega)] at this
                · rcases hpos with ⟨hb1, hb2, hb3⟩ | ⟨hg, hlt', hb1⟩
                  · exact .inl ⟨hb1, by rw [hb2, Nat.add_mul]; omega, by omega⟩
                  · exact .inr ⟨hg, by omega, hb1⟩
          · rename_i s1 es1 heq1
            obtain ⟨rfl, hfit, _, hr⟩ := hr
            refine ⟨rfl, by omega, by omega, ?_⟩
            by_cases hha : h - a = 0
            · exact .inl hha
            · rw [if_neg (by omega)]
              rcases hr with hr | ⟨b, o, rfl, hown, hden⟩
              · exact .inl (by omega)
              · refine .inr ⟨b, o + a * s1, by simp [Addr.add_none], hown, ?_⟩
                have := hden.slice (lo := a) (len := h - a)
                rwa [slice_slice (by omega)] at this
          · show h - a ≤ m - a; omega
          · obtain ⟨rfl, h5, h8, h6⟩ := hr
            refine ⟨rfl, by omega, by omega, ?_⟩
            by_cases hca : m = a
            · exact .inl (by omega)
            · rw [if_neg hca]
              rcases h6 with h6 | ⟨rfl, h7⟩
              · exact .inl (by omega)
              · exact .inr ⟨by simp [Addr.add_none], by omega⟩
          · exact hr.elim
        cases mx with
        | some vm =>
          cases zm with
          | none => exact hm.elim
          | some z =>
            simp only at hv
            cases hb : bnd len vm with
            | none => rw [hb] at hv; cases hv
            | some m =>
              rw [hb] at hv
              simp only at hv
              split at hv
              · rename_i hmh
                simp only [Option.some.injEq] at hv
                subst hv
                obtain ⟨hb3, h1, h2⟩ := run_bounds3 (P := P) hc hlc (hmx (by simp)) hb hmh hm hl hh
                exact ⟨_, run_slice ht hs hb3, hlt, _, _, rfl, part h h1 h2 (Nat.le_refl h) (by omega)⟩
              · split at hv
                · rename_i hmu
                  simp only [Option.some.injEq] at hv
                  subst hv
                  obtain ⟨hb3, _, _⟩ := run_bounds3u (P := P) hc hlc (hmx (by simp)) hb hmu hm hl hh
                  exact ⟨_, run_slice ht hs hb3, trivial⟩
                · cases hv
        | none =>
          simp only [Option.some.injEq] at hv
          subst hv
          cases zm with
          | some z => exact hm.elim
          | none =>
            obtain ⟨hb, h1, h2⟩ := run_bounds (P := P) hc hlc hl hh
            exact ⟨_, run_slice ht hs hb, hlt, _, _, rfl, part c h1 h2 (by omega) (Nat.le_refl c)⟩
    · cases hv
  · cases hv
end
end Go.Proofs.YtcgjebaomhfbdaaGreat.Vm

/- Slices built; rows settled; small operations. -/
namespace Go.Proofs.YtcgjebaomhfbdaaGreat.Vm
open Go
def okPs : List (Nat × X) → List (Nat × Operand) → Bool
  | [], [] => true
  | (i, x) :: ps, (j, p) :: qs => decide (i = j) && okX x p && okPs ps qs
  | _, _ => false
section
variable {P : Program} {g : Gh} {σ : St} {tmps : Array Value} {rts : Roots} {w : World}
theorem okPs.vals : ∀ (ps : List (Nat × X)) (qs : List (Nat × Operand)), okPs ps qs = true → okXs (ps.map (·.2)) (qs.map (·.2)) = true ∧ ps.map (·.1) = qs.map (·.1)
  | [], [], _ => ⟨rfl, rfl⟩
  | [], _ :: _, h => by simp [okPs] at h
  | _ :: _, [], h => by simp [okPs] at h
  | (i, x) :: ps, (j, p) :: qs, h => by
    simp only [okPs, Bool.and_eq_true, decide_eq_true_eq] at h
    have := okPs.vals ps qs h.2
    exact ⟨by simp [okXs, h.1.2, this.1], by simp [h.1.1, this.2]⟩
theorem fillT_run {ok : Nat → Prop} {s : Nat} : ∀ (is : List Nat) (ts : List T) (xs : List Value) (es es' : List T) (cells : Array Value), is.length = ts.length → ts.length = xs.length →
    (∀ (i : Nat) (t : T), ts[i]? = some t → ∃ x, xs[i]? = some x ∧ Den w ok t x) → DenF w ok s es cells.toList → fillT es s (is.zip ts) = some es' →
    ∃ r, Instr.fill (fun i => some (i * s, s)) cells (is.zip xs) = some r ∧ DenF w ok s es' r.toList ∧ es'.length = es.length
  | [], _, _, es, es', cells, _, _, _, hd, e => by
    simp only [List.zip_nil_left, Vm.fillT, Option.some.injEq] at e; subst e
    exact ⟨cells, rfl, hd, rfl⟩
  | i :: is, [], _, _, _, _, h, _, _, _, _ => by simp at h
  | i :: is, t :: ts, [], _, _, _, _, h, _, _, _ => by simp at h
  | i :: is, t :: ts, x :: xs, es, es', cells, h1, h2, hx, hd, e => by
    simp only [List.zip_cons_cons, Vm.fillT] at e
    split at e
    · rename_i hc
      obtain ⟨x', hx', hdx⟩ := hx 0 t (by simp)
      simp only [List.getElem?_cons_zero, Option.some.injEq] at hx'
      subst hx'
      have hcs := Den.cells hdx
      have hxl := DenC.length hcs
      have hxs : x.cells.size = s := by rw [← Array.length_toList, hxl, hc.2]
      have hcl := DenF.length _ _ hd
      have hmul : (i + 1) * s ≤ es.length * s := Nat.mul_le_mul_right _ (by omega)
      rw [Nat.add_mul, Nat.one_mul] at hmul
      have hfit : i * s + x.cells.size ≤ cells.size := by rw [hxs, ← Array.length_toList, hcl]; exact hmul
      have hput := fill_one hfit
      have hd' : DenF w ok s (es.set i t) (x.cells.zipIdx.foldl (fun cs (c, j) => cs.setIfInBounds (i * s + j) c) cells).toList := by
        rw [hput]
        exact DenF.set (by rw [hxl, hc.2]) hcs _ _ _ hd hc.1
      obtain ⟨r, hr, hrd, hrl⟩ := fillT_run is ts xs _ es' _ (by simpa using h1) (by simpa using h2) (fun j u hu => by
        obtain ⟨y, hy, hyd⟩ := hx (j + 1) u (by simpa using hu); exact ⟨y, by simpa using hy, hyd⟩) hd' e
      refine ⟨r, ?_, hrd, by rw [hrl]; simp⟩
      simp only [List.zip_cons_cons]
      unfold Instr.fill
      simp only [hxs]
      rw [if_neg (by rw [hxs] at hfit; simp; omega)]
      exact hr
    · cases e
theorem zip_map_fst {α β γ : Type} (f : β → γ) : ∀ (l : List (α × β)), (l.map (·.1)).zip (l.map fun p => f p.2) = l.map fun p => (p.1, f p.2)
  | [] => rfl
  | a :: l => by simp [zip_map_fst f l]
/-- what is not the machine's changes -/
theorem Rel.world (h : Rel g σ tmps rts w) {w' : World} (hh : ∀ x, g.ok x ∨ x < g.base ∨ g.own x ≠ none → w'.heap[x]? = w.heap[x]?) (hs : w.heap.size ≤ w'.heap.size) : Rel g σ tmps rts w' := by
  have G : Grow (fun _ _ => False) g w σ.O g w' σ.O := ⟨rfl, fun _ h => h, hh, fun _ _ _ _ h => h, fun _ _ _ => rfl, fun _ _ _ => rfl⟩
  have K : ∀ D, Keep D (fun _ _ => False) g w σ.O g w' σ.O := fun D => G.keep
  refine ⟨fun i => VR.keep' (K _) (Nat.le_refl _) (h.sl i), fun a n o ha ho => ?_, fun r hr => ⟨(h.rt r hr).1, VR.keep' (K _) (Nat.le_refl _) (h.rt r hr).2⟩, fun x a n hx => ?_, fun x hx => ?_, Nat.le_trans h.base hs⟩
  · have hold := h.ob a n o ha ho
    cases o with
    | box cs =>
      obtain ⟨h1, vs, rest, el, h2, h3, h4⟩ := hold
      exact ⟨h1, vs, rest, el, by rw [hh _ (.inr (.inr (by rw [h1]; simp)))]; exact h2, VRs.keep' (K _) (Nat.le_refl _) h3, h4⟩
    | rw s es gr =>
      rcases hold with hold | ⟨h1, h2, cs, el, h3, h4, h5⟩
      · exact .inl hold
      · have hne1 := hh _ (.inr (.inr (by rw [h1]; simp)))
        refine .inr ⟨h1, h2, cs, el, by rw [hne1]; exact h3, h4, ?_⟩
        exact DenR.mono (fun x hx => hh x (.inl hx)) (fun _ h => h) _ _ hne1 _ _ h5
    | fz s es => trivial
    | gone => trivial
  · have := h.own x a n hx
    exact ⟨Nat.lt_of_lt_of_le this.1 hs, this.2⟩
  · exact Nat.lt_of_lt_of_le (h.okb x hx) hs
/-- a block more that nobody has -/
theorem Rel.row0 (h : Rel g σ tmps rts w) (cells : Array Value) (e : TypeId) : Rel g σ tmps rts (World.withRow w cells e) ∧ Adv g w g (World.withRow w cells e) := by
  have hp : ∀ x, x < w.heap.size → (World.withRow w cells e).heap[x]? = w.heap[x]? := fun x hx => by
    show (w.heap.push _)[x]? = _
    rw [Array.getElem?_push, if_neg (by omega)]
  have hs : w.heap.size ≤ (World.withRow w cells e).heap.size := by
    show _ ≤ (w.heap.push _).size
    simp
  refine ⟨h.world (fun x hx => hp x ?_) hs, ⟨rfl, fun _ h => h, fun _ h => .inl h, fun _ h => .inl h, fun x hx _ => hp x hx, hs, rfl, rfl, rfl⟩⟩
  rcases hx with hx | hx | hx
  · exact h.okb x hx
  · exact Nat.lt_of_lt_of_le hx h.base
  · cases ho : g.own x with
    | none => exact absurd ho hx
    | some y => exact (h.own x y.1 y.2 ho).1
/-- a slice of no elements -/
theorem Rel.bsl0 (h : Rel g σ tmps rts w) {t e : TypeId} {i : TypeInfo} {zv : Value} {parts : Array (Nat × Operand)} (ht : P.underlying t = some (.slice e)) (hi : P.info? e = some i) (hz : i.zero = some zv) (hp : parts.size = 0) :
    ∃ w' A, (Instr.buildSlice t 0 (parts.map fun (i, x) => (i, evalT tmps x))).run P w = .ok (.slice A 0 0) w' ∧ Rel g σ tmps rts w' ∧ Adv g w g w' := by
  obtain ⟨R, A⟩ := h.row0 #[] e
  have : parts = #[] := Array.eq_empty_of_size_eq_zero hp
  subst this
  refine ⟨_, some ⟨w.heap.size, 0, none⟩, ?_, R, A⟩
  simp [Instr.buildSlice, run_underlying ht, sizeOf, typeInfo, zeroValue, hi, hz, Instr.fill, run_newRow]
  congr 1
  apply Array.ext'; simp
theorem Rel.bsl (h : Rel g σ tmps rts w) {t e : TypeId} {i : TypeInfo} {zv : Value} {zt : T} {ps : List (Nat × X)} {parts : Array (Nat × Operand)} {ts : List T} {ns : List Nat} {es : List T} {d nm s n : Nat} {σ' : St}
    (ht : P.underlying t = some (.slice e)) (hi : P.info? e = some i) (hz : i.zero = some zv) (his : i.size = s) (hzs : zv.cells.size = s) (hsmall : n * s ≤ 16777216)
    (hzt : DenC w g.ok zt zv.cells.toList) (hps : okPs ps parts.toList = true) (hd : d < tmps.size)
    (e1 : σ.toTs (ps.map fun p => σ.val p.2) = some (ts, ns)) (e2 : fillT (List.replicate n zt) s ((ps.map (·.1)).zip ts) = some es)
    (ha : (((σ.frz ns).new nm (.rw s es false)).map fun σ => σ.set d (.row 0 nm 0 n s)) = some σ') :
    ∃ g' w' v, (Instr.buildSlice t n (parts.map fun (i, x) => (i, evalT tmps x))).run P w = .ok v w' ∧ Rel g' σ' (tmps.setIfInBounds d v) rts w' ∧ Adv g w g' w' ∧ σ'.up.length = σ.up.length := by
  obtain ⟨hxs, hidx⟩ := okPs.vals _ _ hps
  have hvals := h.vals hxs
  have hvals' : VRs g w σ.O (σ.up.length + 1) (ps.map fun p => σ.val p.2) ((parts.toList.map (·.2)).map (evalT tmps)) := by
    have e0 : σ.vals (ps.map (·.2)) = ps.map fun p => σ.val p.2 := by simp [St.vals]
    rw [← e0]; exact hvals
  obtain ⟨g1, R, K, Ad, _, hts, hlen⟩ := h.freezes e1 hvals'
  have hup : (σ.frz ns).up.length = σ.up.length := by rw [St.up_frz]
  have hze : (Builtin.zeroCells zv.cells n).toList = (List.replicate n zv.cells.toList).flatten := zeros_eq _ _
  have hzf : DenF w g1.ok s (List.replicate n zt) (Builtin.zeroCells zv.cells n).toList := by
    rw [hze]; exact DenF.replicate (by rw [Array.length_toList, hzs]) (DenC.mono (fun _ _ => rfl) Ad.ok _ _ hzt) n
  have hl1 : (ps.map (·.1)).length = ts.length := by rw [hlen, ← VRs.length _ _ hvals']; simp
  obtain ⟨r, hr, hrd, hrl⟩ := fillT_run _ _ _ _ _ _ hl1 hlen hts hzf e2
  have hrl2 : es.length = n := by rw [hrl, List.length_replicate]
  have hrs : r.size = n * s := by rw [← Array.length_toList, DenF.length _ _ hrd, hrl2]
  generalize σ.frz ns = τ at *
  cases hn : τ.new nm (.rw s es false) with
  | none => rw [hn] at ha; cases ha
  | some τ' =>
    rw [hn] at ha
    simp only [Option.map_some, Option.some.injEq] at ha
    subst ha
    obtain ⟨hno, rfl⟩ := new_some hn
    obtain ⟨R', hv⟩ := Rel.newRow (n := nm) (gr := false) (e := e) (cap := n) (cells := r) R hno hrd (fun j _ => by simp) (by omega) (by omega)
    rw [hrl2] at hv
    refine ⟨_, _, _, ?_, R'.set hd (by rw [St.up_setObj0]; exact hv), Ad.trans (Adv.withRow (σ := τ)), by rw [St.up_set, St.up_setObj0, hup]⟩
    have hparts : (parts.map fun (i, x) => (i, evalT tmps x)).toList = (ps.map (·.1)).zip ((parts.toList.map (·.2)).map (evalT tmps)) := by
      rw [hidx, Array.toList_map, List.map_map]
      exact (zip_map_fst (evalT tmps) parts.toList).symm
    by_cases h0 : n * s = 0
    · have hz0 : Builtin.zeroCells zv.cells n = #[] := by
        apply Array.ext'
        rw [Array.toList_empty]
        exact List.eq_nil_of_length_eq_zero (by rw [zeros_size, hzs]; exact h0)
      rw [hz0] at hr
      have e0 : Array.map (fun _ => (default : Value)) (Array.range 0) = #[] := by apply Array.ext'; simp
      simp [Instr.buildSlice, run_underlying ht, sizeOf, typeInfo, zeroValue, hi, hz, his, h0]
      have hparts' := hparts
      simp only [Array.toList_map] at hparts'
      rw [hparts', e0, hr]
      simp [run_newRow]
    · have hgt : ¬ 16777216 < n * s := by omega
      simp [Instr.buildSlice, run_underlying ht, sizeOf, typeInfo, zeroValue, hi, hz, his, h0, hgt]
      have hparts' := hparts
      simp only [Array.toList_map] at hparts'
      have hzc : Array.map (fun x => zv.cells[x % zv.cells.size]!) (Array.range (n * s)) = Builtin.zeroCells zv.cells n := by
        rw [← hzs]; rfl
      rw [hparts', hzc, hr]
      simp [run_newRow]
end
end Go.Proofs.YtcgjebaomhfbdaaGreat.Vm

/- Rows settled. -/
namespace Go.Proofs.YtcgjebaomhfbdaaGreat.Vm
open Go
section
variable {P : Program} {g : Gh} {σ : St} {tmps : Array Value} {rts : Roots} {w : World}
/-- what settling does to the objects -/
structure Settled (m s : Nat) (es : List T) (top : Nat) (O O' : Obs) : Prop where
  it : (∃ gr, O top m = some (.rw s es gr)) ∧ O' top m = some (.rw s es false)
  row : ∀ a n s' es' gr, ¬ (a = top ∧ n = m) → O a n = some (.rw s' es' gr) → O' a n = some (.rw s' es' gr)
  fz : ∀ a n s' es', O a n = some (.fz s' es') → O' a n = some (.fz s' es')
  box : ∀ a n cs, O a n = some (.box cs) → ∃ cs', cs'.length = cs.length ∧ O' a n = some (.box cs')
  gone : ∀ a n, O a n = some .gone → O' a n = some .gone
theorem V.settles_length (m k : Nat) : ∀ cs : List V, (V.settles m k cs).length = cs.length
  | [] => rfl
  | c :: cs => by simp only [V.settles, List.length_cons, V.settles_length m k cs]
section
variable {m s top : Nat} {es : List T} {O O' : Obs} (S : Settled m s es top O O')
theorem Settled.rowV (S : Settled m s es top O O') {a n lo len s' : Nat} {A : Option Addr} {c : Nat} (hx : ¬ (a = top ∧ n = m)) (h : RowV g w O a n lo len s' A c) : RowV g w O' a n lo len s' A c := by
  unfold RowV at h ⊢
  split at h
  · rename_i heq; rw [S.row _ _ _ _ _ hx heq]; exact h
  · rename_i heq; rw [S.fz _ _ _ _ heq]; exact h
  · rename_i heq; rw [S.gone _ _ heq]; exact h
  · rename_i heq; obtain ⟨cs', hl, hb⟩ := S.box _ _ _ heq; rw [hb]; simp only [hl]; exact h
  · exact h.elim
theorem Settled.relV (S : Settled m s es top O O') {a n i off : Nat} {v : Value} (hx : ¬ (a = top ∧ n = m)) (h : RelV g w O a n i off v) : RelV g w O' a n i off v := by
  unfold RelV at h ⊢
  split at h
  · rename_i heq; rw [S.row _ _ _ _ _ hx heq]; exact h
  · rename_i heq; rw [S.fz _ _ _ _ heq]; exact h
  · rename_i heq; rw [S.gone _ _ heq]; exact h
  · exact h.elim
theorem Settled.ptrV (S : Settled m s es top O O') {a n off : Nat} {v : Value} (h : PtrV g O a n off v) : PtrV g O' a n off v := by
  unfold PtrV at h ⊢
  split at h
  · rename_i heq; obtain ⟨cs', _, hb⟩ := S.box _ _ _ heq; rw [hb]; exact h
  · rename_i heq; rw [S.gone _ _ heq]; exact h
  · rename_i heq; rw [S.fz _ _ _ _ heq]; exact h
  · exact h.elim
theorem Settled.whole (S : Settled m s es top O O') {lo len s' : Nat} {A : Option Addr} {c : Nat} (hx : lo + len = es.length) (h : RowV g w O top m lo len s' A c) : RowV g w O' top m lo len s' A c := by
  obtain ⟨⟨gr, h1⟩, h2⟩ := S.it
  simp only [RowV, h1] at h
  simp only [RowV, h2]
  obtain ⟨h3, h4, h5, h6⟩ := h
  refine ⟨h3, h4, h5, h6.imp id fun ⟨b, o, hA, ho, hd, hy⟩ => ⟨b, o, hA, ho, hd, .inl ?_⟩⟩
  rcases hy with hy | hy
  · exact hy
  · omega
mutual
theorem VR.settle (S : Settled m s es top O O') : ∀ (v : V) (x : Value), VR g w O (top + 1) v x → VR g w O' (top + 1) (V.settle m es.length v) x
  | .row 0 n lo len s', x, h => by
    obtain ⟨hl, A, c, rfl, hr⟩ := h
    have e1 : top + 1 - 1 - 0 = top := by omega
    rw [e1] at hr
    simp only [V.settle]
    split
    · rename_i hnm
      subst hnm
      split
      · rename_i hw
        exact ⟨hl, A, c, rfl, by rw [e1]; exact S.whole hw hr⟩
      · trivial
    · rename_i hnm
      exact ⟨hl, A, c, rfl, by rw [e1]; exact S.rowV (fun hh => hnm hh.2) hr⟩
  | .row (l + 1) n lo len s', x, h => by
    obtain ⟨hl, A, c, rfl, hr⟩ := h
    exact ⟨hl, A, c, rfl, S.rowV (fun hh => by omega) hr⟩
  | .ptr l n off, x, h => ⟨h.1, S.ptrV h.2⟩
  | .rel 0 n i off, x, h => by
    have e1 : top + 1 - 1 - 0 = top := by omega
    simp only [V.settle]
    split
    · trivial
    · rename_i hnm
      exact ⟨h.1, S.relV (fun hh => hnm hh.2) h.2⟩
  | .rel (l + 1) n i off, x, h => ⟨h.1, S.relV (fun hh => by have := h.1; omega) h.2⟩
  | .ag cs, x, h => by
    obtain ⟨vs, hv, h, h1⟩ := h
    exact ⟨vs, hv, VRs.settle S cs vs h, h1⟩
  | .tp cs, x, h => by
    obtain ⟨vs, hv, h⟩ := h
    exact ⟨vs, hv, VRs.settle S cs vs h⟩
  | .cl f cs, x, h => by
    obtain ⟨vs, hv, h⟩ := h
    exact ⟨vs, hv, VRs.settle S cs vs h⟩
  | .d true t, x, h => h
  | .d false t, x, h => h
  | .dx true t, x, h => h
  | .dx false t, x, h => h
  | .nil _, x, h => h
  | .pd t, x, h => h
  | .u, x, h => trivial
theorem VRs.settle (S : Settled m s es top O O') : ∀ (vs : List V) (xs : List Value), VRs g w O (top + 1) vs xs → VRs g w O' (top + 1) (V.settles m es.length vs) xs
  | [], xs, h => h
  | v :: vs, _, h => by
    obtain ⟨x, xs, rfl, h1, h2⟩ := h
    exact ⟨x, xs, rfl, VR.settle S v x h1, VRs.settle S vs xs h2⟩
end
mutual
theorem V.clean_top {d : Nat} (hd : d ≤ top) : ∀ v : V, V.clean d (fun y n => y = top ∧ n = m) v
  | .row .. | .ptr .. | .rel .. => fun hl hb => by omega
  | .ag cs | .tp cs | .cl _ cs => V.cleans_top hd cs
  | .d .. | .dx .. | .nil .. | .pd .. | .u => trivial
theorem V.cleans_top {d : Nat} (hd : d ≤ top) : ∀ vs : List V, V.cleans d (fun y n => y = top ∧ n = m) vs
  | [] => trivial
  | v :: vs => ⟨V.clean_top hd v, V.cleans_top hd vs⟩
end
theorem Settled.keep (S : Settled m s es top O O') {D : Nat} : Keep D (fun y n => y = top ∧ n = m) g w O g w O' :=
  ⟨rfl, fun _ h => h, fun _ _ => rfl, fun _ _ _ _ _ _ _ _ hx h => S.rowV hx h, fun _ _ _ _ _ _ hx h => S.relV hx h, fun _ _ _ _ _ _ h => S.ptrV h⟩
end
theorem Rel.settle (h : Rel g σ tmps rts w) {m : Nat} {σ' : St} (e : σ.settle m = some σ') : Rel g σ' tmps rts w ∧ σ'.up.length = σ.up.length := by
  unfold St.settle at e
  split at e
  · rename_i s es gr hobj
    · cases e
      have hob0 : ∀ n, gt none ((st none σ.ob m (some (.rw s es false))).map (Option.map (Ob.settle m es.length))) n = (if n = m then some (.rw s es false) else σ.obj 0 n).map (Ob.settle m es.length) := fun n => by
        rw [gt_map (d := none) (e := none) (Option.map (Ob.settle m es.length)) (by rfl)]
        have : gt none (st none σ.ob m (some (Ob.rw s es false))) n = if n = m then some (.rw s es false) else σ.obj 0 n := by
          rw [gt_st]
          simp only [St.obj, eq_comm]
        rw [this]
      have hO : ∀ a n, (St.O { σ with sl := σ.sl.map (V.settle m es.length), ob := (st none σ.ob m (some (.rw s es false))).map (Option.map (Ob.settle m es.length)) }) a n =
          if a = σ.up.length then (if n = m then some (.rw s es false) else σ.O a n).map (Ob.settle m es.length) else σ.O a n := fun a n => by
        show (if a < σ.up.length + 1 then _ else none) = _
        simp only [St.O]
        by_cases ha : a = σ.up.length
        · subst ha
          simp only [Nat.lt_succ_self, if_true, Nat.sub_self]
          exact hob0 n
        · rw [if_neg ha]
          obtain hk | ⟨k, hk⟩ : ¬ a < σ.up.length + 1 ∨ ∃ k, σ.up.length - a = k + 1 := by
            by_cases hlt : a < σ.up.length + 1
            · exact .inr ⟨σ.up.length - a - 1, by omega⟩
            · exact .inl hlt
          · simp [hk]
          · rw [hk]; rfl
      have hOm : σ.O σ.up.length m = some (.rw s es gr) := by
        have := St.O_obj σ 0 m (Nat.zero_le _)
        rw [← hobj]; simpa using this
      generalize hτ : ({ σ with sl := σ.sl.map (V.settle m es.length), ob := (st none σ.ob m (some (.rw s es false))).map (Option.map (Ob.settle m es.length)) } : St) = τ at hO
      have hup : τ.up = σ.up := by rw [← hτ]
      have hget : ∀ i, τ.get i = V.settle m es.length (σ.get i) := fun i => by
        rw [← hτ]; exact gt_map (V.settle m es.length) (by simp only [V.settle]) _ _
      have S : Settled m s es σ.up.length σ.O τ.O := by
        refine ⟨⟨⟨gr, hOm⟩, by rw [hO, if_pos rfl, if_pos rfl]; rfl⟩, fun a n s' es' gr' hx ho => ?_, fun a n s' es' ho => ?_, fun a n cs ho => ?_, fun a n ho => ?_⟩
        · rw [hO]
          by_cases ha : a = σ.up.length
          · rw [if_pos ha, if_neg (fun hn => hx ⟨ha, hn⟩), ho]; rfl
          · rw [if_neg ha]; exact ho
        · rw [hO]
          by_cases ha : a = σ.up.length
          · rw [if_pos ha, if_neg (fun hn => by subst ha; subst hn; rw [hOm] at ho; cases ho), ho]; rfl
          · rw [if_neg ha]; exact ho
        · rw [hO]
          by_cases ha : a = σ.up.length
          · rw [if_pos ha, if_neg (fun hn => by subst ha; subst hn; rw [hOm] at ho; cases ho), ho]; exact ⟨_, V.settles_length m es.length cs, rfl⟩
          · rw [if_neg ha]; exact ⟨cs, rfl, ho⟩
        · rw [hO]
          by_cases ha : a = σ.up.length
          · rw [if_pos ha, if_neg (fun hn => by subst ha; subst hn; rw [hOm] at ho; cases ho), ho]; rfl
          · rw [if_neg ha]; exact ho
      have K : ∀ D, Keep D (fun y n => y = σ.up.length ∧ n = m) g w σ.O g w τ.O := fun D => S.keep
      refine ⟨⟨fun i => ?_, fun a n o ha ho => ?_, fun r hr => ?_, by rw [hup]; exact h.own, h.okb, h.base⟩, by rw [hup]⟩
      · rw [hup, hget]; exact VR.settle S _ _ (h.sl i)
      · rw [hup] at ha
        rw [hO] at ho
        by_cases haa : a = σ.up.length
        · subst haa
          rw [if_pos rfl] at ho
          by_cases hn : n = m
          · subst hn
            rw [if_pos rfl] at ho
            cases ho
            exact h.ob _ n _ ha hOm
          · rw [if_neg hn] at ho
            cases hoo : σ.O σ.up.length n with
            | none => rw [hoo] at ho; cases ho
            | some o' =>
              rw [hoo] at ho
              cases ho
              have hold := h.ob _ n o' ha hoo
              cases o' with
              | box cs =>
                obtain ⟨h1, vs, rest, el, h2, h3, h4⟩ := hold
                exact ⟨h1, vs, rest, el, h2, VRs.settle S _ _ h3, h4⟩
              | rw s es gr => exact hold
              | fz s es => trivial
              | gone => trivial
        · rw [if_neg haa] at ho
          have hold := h.ob a n o ha ho
          cases o with
          | box cs =>
            obtain ⟨h1, vs, rest, el, h2, h3, h4⟩ := hold
            exact ⟨h1, vs, rest, el, h2, VRs.keep (K _) _ (Nat.le_refl _) _ _ (V.cleans_top (by omega) cs) h3, h4⟩
          | rw s es gr => exact hold
          | fz s es => trivial
          | gone => trivial
      · rw [hup]
        have := h.rt r hr
        exact ⟨this.1, VR.keep (K _) _ (Nat.le_refl _) _ _ (V.clean_top this.1 _) this.2⟩
  · cases e
end
end Go.Proofs.YtcgjebaomhfbdaaGreat.Vm

/- Rows of slots: boxes that grow, and views of them. -/
namespace Go.Proofs.YtcgjebaomhfbdaaGreat.Vm
open Go
section
variable {P : Program} {g : Gh} {σ : St} {tmps : Array Value} {rts : Roots} {w w' : World}
/-- nobody's memory -/
def Gh.free (g : Gh) (a n : Nat) : Gh := { g with own := fun b => if g.own b = some (a, n) then none else g.own b }
theorem Gh.free_own {g : Gh} {a₀ n₀ b a m : Nat} (hx : ¬ (a = a₀ ∧ m = n₀)) (hb : g.own b = some (a, m)) : (g.free a₀ n₀).own b = some (a, m) := by
  simp only [Gh.free]
  rw [if_neg (fun e => by rw [hb] at e; cases e; exact hx ⟨rfl, rfl⟩)]
  exact hb
theorem Rel.goneB (h : Rel g σ tmps rts w) {n : Nat} {cs : List V} (hO : σ.obj 0 n = some (.box cs)) :
    Rel (g.free σ.up.length n) (σ.setObj 0 n (some .gone)) tmps rts w ∧ Keep (σ.up.length + 1) (fun _ _ => False) g w σ.O (g.free σ.up.length n) w (σ.setObj 0 n (some .gone)).O := by
  have hO' : σ.O σ.up.length n = some (.box cs) := by have := St.O_obj σ 0 n (Nat.zero_le _); simpa using this.trans hO
  have hset : ∀ a m, (σ.setObj 0 n (some .gone)).O a m = if a = σ.up.length ∧ m = n then some .gone else σ.O a m := fun a m => by
    have := St.O_setObj σ 0 n (some .gone) (Nat.zero_le _) a m
    simpa using this
  have hown : ∀ b a m, ¬ (a = σ.up.length ∧ m = n) → g.own b = some (a, m) → (g.free σ.up.length n).own b = some (a, m) := fun b a m hx hb => Gh.free_own hx hb
  have K : Keep (σ.up.length + 1) (fun _ _ => False) g w σ.O (g.free σ.up.length n) w (σ.setObj 0 n (some .gone)).O := by
    refine ⟨rfl, fun _ h => h, fun _ _ => rfl, fun a m lo len s' A c _ _ hv => ?_, fun a m i off v _ _ hv => ?_, fun a m off v _ _ hv => ?_⟩
    · by_cases hx : a = σ.up.length ∧ m = n
      · obtain ⟨rfl, rfl⟩ := hx
        simp only [RowV, hO'] at hv
        simp only [RowV, hset, and_self, if_true]
        exact hv.2.1
      · unfold RowV at hv ⊢
        rw [hset, if_neg hx]
        split at hv
        · obtain ⟨h1, h2, h3, h4⟩ := hv
          exact ⟨h1, h2, h3, h4.imp id fun ⟨b, o, hA, ho, hd⟩ => ⟨b, o, hA, hown b a m hx ho, hd⟩⟩
        · exact hv
        · exact hv
        · exact hv
        · exact hv
    · by_cases hx : a = σ.up.length ∧ m = n
      · obtain ⟨rfl, rfl⟩ := hx
        simp only [RelV, hO'] at hv
      · unfold RelV at hv ⊢
        rw [hset, if_neg hx]
        split at hv
        · obtain ⟨b, o, e, vs, hv, ho, hd⟩ := hv
          exact ⟨b, o, e, vs, hv, hown b a m hx ho, hd⟩
        · exact hv
        · exact hv
        · exact hv
    · by_cases hx : a = σ.up.length ∧ m = n
      · obtain ⟨rfl, rfl⟩ := hx
        have := hv.box hO'
        simp only [PtrV, hset, and_self, if_true]
        exact ⟨_, 0, by rw [Nat.zero_add]; exact this⟩
      · unfold PtrV at hv ⊢; rw [hset, if_neg hx]; exact hv
  refine ⟨Rel.over (a₀ := σ.up.length) (n₀ := n) h (by rfl) (fun i => St.get_setObj _ _ _ _ _) K (fun a m hx => by rw [hset, if_neg hx]) (fun _ _ _ => rfl)
    (fun b a m hx hb => ⟨hown b a m hx hb, rfl⟩) (fun o ho => ?_) (fun b a m hb => ?_) h.okb h.base, K⟩
  · rw [hset, if_pos ⟨rfl, rfl⟩] at ho
    cases ho
    trivial
  · simp only [Gh.free] at hb
    split at hb
    · cases hb
    · exact h.own b a m hb
/-- a change to memory that is nobody's -/
theorem Rel.wild (h : Rel g σ tmps rts w) {b : Nat} (ho : g.own b = none) (hk : ¬ g.ok b) (hb : g.base ≤ b) (hsz : w'.heap.size = w.heap.size) (hother : ∀ d, d ≠ b → w'.heap[d]? = w.heap[d]?) :
    Rel g σ tmps rts w' ∧ Keep (σ.up.length + 1) (fun _ _ => False) g w σ.O g w' σ.O := by
  have hs : ∀ d, g.ok d ∨ d < g.base ∨ g.own d ≠ none → w'.heap[d]? = w.heap[d]? := fun d hd => hother d (by
    rintro rfl
    rcases hd with hd | hd | hd
    · exact hk hd
    · omega
    · exact hd ho)
  have G : Grow (fun _ _ => False) g w σ.O g w' σ.O := ⟨rfl, fun _ h => h, hs, fun _ _ _ _ h => h, fun _ _ _ => rfl, fun _ _ _ => rfl⟩
  have K : ∀ D, Keep D (fun _ _ => False) g w σ.O g w' σ.O := fun _ => G.keep
  refine ⟨⟨fun i => VR.keep' (K _) (Nat.le_refl _) (h.sl i), fun a m o ha hoo => ?_, fun r hr => ⟨(h.rt r hr).1, VR.keep' (K _) (Nat.le_refl _) (h.rt r hr).2⟩, fun d a m hd => by rw [hsz]; exact h.own d a m hd,
    fun d hd => by rw [hsz]; exact h.okb d hd, by rw [hsz]; exact h.base⟩, K _⟩
  have hold := h.ob a m o ha hoo
  cases o with
  | box cs =>
    obtain ⟨h1, vs, rest, el, h2, h3, h4⟩ := hold
    exact ⟨h1, vs, rest, el, by rw [hs _ (.inr (.inr (by rw [h1]; simp)))]; exact h2, VRs.keep' (K _) (Nat.le_refl _) h3, h4⟩
  | rw s es gr =>
    rcases hold with hold | ⟨h1, h2, cs, el, h3, h4, h5⟩
    · exact .inl hold
    · have e := hs _ (.inr (.inr (by rw [h1]; simp)))
      exact .inr ⟨h1, h2, cs, el, by rw [e]; exact h3, h4, DenR.mono (fun d hd => hs d (.inl hd)) (fun _ h => h) _ _ e _ _ h5⟩
  | fz s es => trivial
  | gone => trivial
/-- memory that is nobody's becomes a box -/
theorem Rel.seizeB (h : Rel g σ tmps rts w) {b cap nm : Nat} {cs : List V} {vs rest : List Value} {el : TypeId} (hno : σ.obj 0 nm = none) (ho : g.own b = none) (hk : ¬ g.ok b) (hb : g.base ≤ b)
    (hh : w.heap[b]? = some (.cells (vs ++ rest).toArray el (0, 0))) (hv : VRs g w σ.O (σ.up.length + 1) cs vs) (h1 : ∀ x ∈ vs ++ rest, x.oneCell' = true) (hroom : cap ≤ vs.length + rest.length) :
    Rel (g.new b σ.up.length nm cap) (σ.setObj 0 nm (some (.box cs))) tmps rts w ∧
      ∀ c, cs.length ≤ c → c ≤ cap → VR (g.new b σ.up.length nm cap) w (σ.setObj 0 nm (some (.box cs))).O (σ.up.length + 1) (.row 0 nm 0 cs.length 1) (.slice (some ⟨b, 0, none⟩) cs.length c) := by
  have hlt : b < w.heap.size := by
    have := (Array.getElem?_eq_some_iff.1 hh).1
    exact this
  have hset : ∀ a m, (σ.setObj 0 nm (some (.box cs))).O a m = if a = σ.up.length ∧ m = nm then some (.box cs) else σ.O a m := fun a m => by
    have := St.O_setObj σ 0 nm (some (.box cs)) (Nat.zero_le _) a m
    simpa using this
  have hnone : σ.O σ.up.length nm = none := by
    have := St.O_obj σ 0 nm (Nat.zero_le _)
    simpa using this.trans hno
  have hne : ∀ d a m, g.own d = some (a, m) → d ≠ b := fun d a m hd e => by rw [e, ho] at hd; cases hd
  have G : Grow (fun a m => a = σ.up.length ∧ m = nm) g w σ.O (g.new b σ.up.length nm cap) w (σ.setObj 0 nm (some (.box cs))).O :=
    ⟨rfl, fun _ h => h, fun _ _ => rfl, fun d a m _ hd => by simp only [Gh.new]; rw [if_neg (hne d a m hd)]; exact hd, fun a m hx => by simp only [Gh.new]; rw [if_neg hx], fun a m hx => by rw [hset, if_neg hx]⟩
  have K : Keep (σ.up.length + 1) (fun _ _ => False) g w σ.O (g.new b σ.up.length nm cap) w (σ.setObj 0 nm (some (.box cs))).O := Keep.absent hnone G.keep
  have hloc : (g.new b σ.up.length nm cap).loc σ.up.length nm = (b, 0, cap) := by simp [Gh.new]
  refine ⟨Rel.over (a₀ := σ.up.length) (n₀ := nm) h (by rfl) (fun i => St.get_setObj _ _ _ _ _) K (fun a m hx => by rw [hset, if_neg hx]) (fun a m hx => G.loc a m hx)
    (fun d a m hx hd => ⟨G.own d a m hx hd, rfl⟩) (fun o hoo => ?_) (fun d a m hd => ?_) h.okb h.base, fun c hc1 hc2 => ⟨by omega, _, _, rfl, ?_⟩⟩
  · rw [hset, if_pos ⟨rfl, rfl⟩] at hoo
    cases hoo
    exact ⟨by rw [hloc]; simp [Gh.new], vs, rest, el, by rw [hloc]; exact hh, VRs.keep' K (Nat.le_refl _) hv, h1, by rw [hloc]; exact hroom⟩
  · simp only [Gh.new] at hd
    by_cases hdb : d = b
    · subst hdb
      simp only [if_true, Option.some.injEq, Prod.mk.injEq] at hd
      exact ⟨hlt, hk, hb, by omega⟩
    · rw [if_neg hdb] at hd
      exact h.own d a m hd
  · rw [show σ.up.length + 1 - 1 - 0 = σ.up.length by omega]
    simp only [RowV, hset, and_self, if_true]
    exact ⟨trivial, hc1, by omega, .inr ⟨by rw [hloc], by rw [hloc]; show 0 + c ≤ cap; omega⟩⟩
/-- a new block becomes a box -/
theorem Rel.newVs (h : Rel g σ tmps rts w) {nm cap : Nat} {cs : List V} {vs rest : List Value} {e : TypeId} (hn : σ.obj 0 nm = none) (hv : VRs g w σ.O (σ.up.length + 1) cs vs) (h1 : ∀ y ∈ vs ++ rest, y.oneCell' = true) (hroom : cap ≤ vs.length + rest.length) :
    Rel (g.new w.heap.size σ.up.length nm cap) (σ.setObj 0 nm (some (.box cs))) tmps rts (World.withRow w (vs ++ rest).toArray e) ∧
      ∀ c, cs.length ≤ c → c ≤ cap → VR (g.new w.heap.size σ.up.length nm cap) (World.withRow w (vs ++ rest).toArray e) (σ.setObj 0 nm (some (.box cs))).O (σ.up.length + 1) (.row 0 nm 0 cs.length 1) (.slice (some ⟨w.heap.size, 0, none⟩) cs.length c) := by
  have hw : (World.withRow w (vs ++ rest).toArray e).heap = w.heap.push (.cells (vs ++ rest).toArray e (0, 0)) := rfl
  have hloc : (g.new w.heap.size σ.up.length nm cap).loc σ.up.length nm = (w.heap.size, 0, cap) := by simp [Gh.new]
  have hO : (σ.setObj 0 nm (some (.box cs))).O σ.up.length nm = some (.box cs) := by
    have := St.O_setObj σ 0 nm (some (.box cs)) (Nat.zero_le _) σ.up.length nm
    simpa using this
  have R := Rel.new (cap := cap) (o := .box cs) h hn hw (fun g' O' hg' hO' K => by
    subst hg'; subst hO'
    exact ⟨by rw [hloc]; simp [Gh.new], vs, rest, e, by rw [hloc]; exact push_new hw, VRs.keep' K (Nat.le_refl _) hv, h1, by rw [hloc]; exact hroom⟩)
  refine ⟨R.1, fun c hc1 hc2 => ⟨by omega, _, _, rfl, ?_⟩⟩
  rw [show σ.up.length + 1 - 1 - 0 = σ.up.length by omega]
  simp only [RowV, hO]
  exact ⟨trivial, hc1, by omega, .inr ⟨by rw [hloc], by rw [hloc]; show 0 + c ≤ cap; omega⟩⟩
end
end Go.Proofs.YtcgjebaomhfbdaaGreat.Vm

/- Rows of slots: an element's cell, a row of one, rows joined. -/
namespace Go.Proofs.YtcgjebaomhfbdaaGreat.Vm
open Go
section
variable {P : Program} {g : Gh} {σ : St} {tmps : Array Value} {rts : Roots} {w w' : World}
theorem Rel.ixv {x i v : V} {y z : Value} {t e : TypeId} (ht : P.underlying t = some (.slice e)) (hs : szOf P e = some 1)
    (hx : VR g w σ.O (σ.up.length + 1) x y) (hi : VR g w σ.O (σ.up.length + 1) i z) (hv : σ.ixv x i = some v) :
    ∃ u, (Instr.indexAt t y z).run P w = .ok u w ∧ VR g w σ.O (σ.up.length + 1) v u := by
  unfold St.ixv at hv
  split at hv
  · rename_i l n lo len s
    split at hv
    · rename_i h1
      subst h1
      split at hv
      · rename_i j cs hj hobj
        split at hv
        · rename_i hfit
          cases hv
          obtain ⟨hl, A, c, rfl, hr⟩ := hx
          have e1 : σ.up.length + 1 - 1 - l = σ.up.length - l := by omega
          rw [e1] at hr
          have hO := (St.O_obj σ l n (by omega)).trans hobj
          simp only [RowV, hO] at hr
          obtain ⟨_, hlc, _, hr⟩ := hr
          obtain ⟨k, m, rfl, h0, h1, rfl⟩ := natOf_some hj hi
          rcases hr with hr | ⟨rfl, hcap⟩
          · omega
          · refine ⟨_, ?_, hl, by rw [e1]; exact PtrV.of hO rfl⟩
            have hsz := run_szOf (P := P) (w := w) hs
            simp [Instr.indexAt, asIntOf, run_underlying ht, hsz, h0, h1, Addr.add_none]
        · cases hv
      · cases hv
    · cases hv
  · cases hv
theorem put_put {α : Type} {k : Nat} {a b l : List α} (ha : a.length = 1) (h : k + 1 + b.length ≤ l.length) : put (k + 1) b (put k a l) = put k (a ++ b) l := by
  unfold put
  have h1 : (l.take k ++ a).length = k + 1 := by rw [List.length_append, List.length_take, ha]; omega
  rw [ha, show l.take k ++ a ++ l.drop (k + 1) = (l.take k ++ a) ++ l.drop (k + 1) from rfl, List.take_append_of_le_length (by omega), List.take_of_length_le (by omega), List.drop_append, h1,
    List.drop_eq_nil_of_le (by omega), List.nil_append, List.drop_drop, List.length_append, ha]
  rw [show k + 1 + (k + 1 + b.length - (k + 1)) = k + (1 + b.length) by omega]
  simp
theorem fillB : ∀ (qs : List Value) (k : Nat) (cells : Array Value), (∀ q ∈ qs, q.cells.size = 1) → k + qs.length ≤ cells.size →
    ∃ r, Instr.fill (fun i => some (i * 1, 1)) cells ((List.range' k qs.length).zip qs) = some r ∧ r.toList = put k (qs.flatMap fun q => q.cells.toList) cells.toList
  | [], k, cells, _, _ => ⟨cells, rfl, by simp [put]⟩
  | q :: qs, k, cells, h, hk => by
    have hq := h q (by simp)
    rw [List.length_cons] at hk
    have hfit : k * 1 + q.cells.size ≤ cells.size := by omega
    have hput := fill_one hfit
    have hsz : (q.cells.zipIdx.foldl (fun cs (c, j) => cs.setIfInBounds (k * 1 + j) c) cells).size = cells.size := by
      rw [← Array.length_toList, hput, put_length (by rw [Array.length_toList, Array.length_toList]; exact hfit), Array.length_toList]
    have hlen : (qs.flatMap fun q => q.cells.toList).length = qs.length := by
      clear hput hsz hfit hk hq
      induction qs with
      | nil => rfl
      | cons p ps ih =>
        rw [List.flatMap_cons, List.length_append, List.length_cons, ih (fun q hq => h q (by rcases List.mem_cons.1 hq with e | e <;> simp [e])), Array.length_toList, h p (by simp)]
        omega
    obtain ⟨r, hr, hrl⟩ := fillB qs (k + 1) _ (fun p hp => h p (by simp [hp])) (by rw [hsz]; omega)
    refine ⟨r, ?_, ?_⟩
    · rw [List.length_cons, List.range'_succ, List.zip_cons_cons]
      unfold Instr.fill
      simp only
      rw [if_neg (by rw [hq]; simp; omega)]
      exact hr
    · have hpp := put_put (k := k) (a := q.cells.toList) (b := qs.flatMap fun q => q.cells.toList) (l := cells.toList) (by rw [Array.length_toList]; exact hq) (by have e1 : cells.toList.length = cells.size := Array.length_toList; rw [hlen, e1]; omega)
      rw [hrl, hput, Nat.mul_one, hpp, List.flatMap_cons]
theorem ones_cells : ∀ (vs : List V) (qs : List Value), VRs g w σ.O (σ.up.length + 1) vs qs → vs.all isOne = true →
    VRs g w σ.O (σ.up.length + 1) vs (qs.flatMap fun q => q.cells.toList) ∧ (∀ q ∈ qs, q.cells.size = 1) ∧ ∀ y ∈ qs.flatMap (fun q => q.cells.toList), y.oneCell' = true
  | [], _, h, _ => by
    simp only [VRs] at h; subst h
    exact ⟨rfl, by simp, by simp⟩
  | v :: vs, _, h, ha => by
    obtain ⟨q, qs, rfl, h1, h2⟩ := h
    simp only [List.all_cons, Bool.and_eq_true] at ha
    obtain ⟨cs, hc⟩ := Option.isSome_iff_exists.1 ha.1
    have hcv : cs = [v] := by
      unfold cellsOf at hc
      split at hc <;> first | (cases hc; done) | (cases hc; rfl) | (rename_i e; cases e)
    subst hcv
    obtain ⟨k1, k2, k3⟩ := VR.cells hc h1
    obtain ⟨i1, i2, i3⟩ := ones_cells vs qs h2 ha.2
    rw [List.flatMap_cons]
    refine ⟨VRs.append [v] vs _ _ k1 i1, fun p hp => ?_, fun y hy => ?_⟩
    · rcases List.mem_cons.1 hp with rfl | hp
      · exact k3
      · exact i2 p hp
    · rcases List.mem_append.1 hy with hy | hy
      · exact k2 y hy
      · exact i3 y hy
theorem Rel.bsv (h : Rel g σ tmps rts w) {vs : List V} {qs : List Value} {t e : TypeId} {i : TypeInfo} {zv : Value} {d nm n : Nat} {σ' : St}
    (ht : P.underlying t = some (.slice e)) (hi : P.info? e = some i) (hz : i.zero = some zv) (his : i.size = 1) (hzs : zv.cells.size = 1)
    (hx : VRs g w σ.O (σ.up.length + 1) vs qs) (hn : vs.length = n) (hn0 : 0 < n) (hsm : n ≤ 16777216) (hone : vs.all isOne = true) (hd : d < tmps.size) (ha : ((σ.new nm (.box vs)).map fun σ => σ.set d (.row 0 nm 0 n 1)) = some σ') :
    ∃ g' w' v, (Instr.buildSlice t n ((List.range n).zip qs).toArray).run P w = .ok v w' ∧ Rel g' σ' (tmps.setIfInBounds d v) rts w' ∧ Adv g w g' w' ∧ σ'.up.length = σ.up.length := by
  obtain ⟨hv, hsz, h1⟩ := ones_cells vs qs hx hone
  have hlen := VRs.length _ _ hv
  have hql := VRs.length _ _ hx
  obtain ⟨σ₁, hnew, rfl⟩ := Option.map_eq_some_iff.1 ha
  obtain ⟨hno, rfl⟩ := new_some hnew
  obtain ⟨R, hr⟩ := Rel.newVs (e := e) (rest := []) (cap := n) h hno hv (by rw [List.append_nil]; exact h1) (by rw [← hlen, hn]; exact Nat.le_refl _)
  have hvr := hr n (by omega) (Nat.le_refl _)
  rw [hn] at hvr
  rw [List.append_nil] at R hvr
  refine ⟨_, _, _, ?_, R.set hd (by rw [St.up_setObj0]; exact hvr), Adv.withRow (σ := σ), by rw [St.up_set, St.up_setObj0]⟩
  have hzc : Array.map (fun x => zv.cells[x % zv.cells.size]!) (Array.range n) = Builtin.zeroCells zv.cells n := by
    show _ = Array.map _ (Array.range (n * zv.cells.size))
    rw [hzs, Nat.mul_one]
  have hzl : (Builtin.zeroCells zv.cells n).size = n := by rw [← Array.length_toList, zeros_size, hzs, Nat.mul_one]
  obtain ⟨r, hfill, hrl⟩ := fillB qs 0 (Builtin.zeroCells zv.cells n) hsz (by rw [hzl]; omega)
  have hr2 : r.toList = qs.flatMap fun q => q.cells.toList := by
    rw [hrl]
    unfold put
    rw [List.take_zero, List.nil_append, List.drop_eq_nil_of_le (by rw [zeros_size, hzs, ← hlen]; omega), List.append_nil]
  have hra : (qs.flatMap fun q => q.cells.toList).toArray = r := by rw [← hr2]
  rw [List.range_eq_range', show n = qs.length by omega, ← show n = qs.length by omega]
  rw [← List.range_eq_range'] at hfill
  simp only [Nat.mul_one] at hfill
  rw [show qs.length = n by omega] at hfill
  have hne : ¬ n = 0 := by omega
  have hgt : ¬ 16777216 < n := by omega
  simp [Instr.buildSlice, run_underlying ht, sizeOf, typeInfo, zeroValue, hi, hz, his, hne, hgt]
  rw [hzc]
  rw [← List.range_eq_range', hfill]
  simp [run_newRow, hra]
theorem Adv.free {a n : Nat} : Adv g w (g.free a n) w := ⟨rfl, fun _ h => h, fun _ h => .inl h, fun b h => .inl fun e => h (by simp only [Gh.free]; rw [e]; split <;> rfl), fun _ _ _ => rfl, Nat.le_refl _, rfl, rfl, rfl⟩
theorem run_firstBox {b off s n c : Nat} {m : Nat} {vs rest : List Value} {el : TypeId} (hs : s = 1) (ho : off = 0) (hn : n = vs.length) (hh : w.heap[b]? = some (.cells (vs ++ rest).toArray el (0, 0))) :
    ∀ w', w'.heap = w.heap → (Builtin.firstCells s n (.slice (some ⟨b, off, none⟩) m c)).run P w' = .ok vs.toArray w' := fun w' hw => by
  subst hs; subst ho
  refine run_firstCells_some w' 1 n ⟨b, 0, none⟩ _ _ vs (by omega) (fun j v hj => ?_)
  rw [Addr.add_none]
  have hlt : j < vs.length := (List.getElem?_eq_some_iff.1 hj).1
  simp only [World.cell?, hw, hh, Nat.zero_add]
  simp only [List.getElem?_toArray]
  rw [List.getElem?_append_left hlt]; exact hj
theorem Rel.apv (h : Rel g σ tmps rts w) {x y : V} {p q : Value} {t u ty e e' : TypeId} {i : TypeInfo} {z : Value} {d nm : Nat} {σ' : St}
    (ht : P.underlying t = some (.slice e)) (hu : P.underlying u = some (.slice e')) (hi : P.info? e = some i) (hz : i.zero = some z) (hs : i.size = 1) (hzs : z.cells.size = 1) (hz1 : ∀ y ∈ z.cells.toList, y.oneCell' = true) (hb : i.bytes ≤ 32768)
    (hx : VR g w σ.O (σ.up.length + 1) x p) (hy : VR g w σ.O (σ.up.length + 1) y q) (hd : d < tmps.size) (ha : σ.apv d nm x y = some σ') :
    ∃ g' w' v, (Builtin.append_ #[t, u] ty #[p, q]).run P w = .ok v w' ∧ Rel g' σ' (tmps.setIfInBounds d v) rts w' ∧ Adv g w g' w' ∧ σ'.up.length = σ.up.length := by
  have hzo : ∀ n, ∀ y ∈ (Builtin.zeroCells z.cells n).toList, y.oneCell' = true := fun n y hy => by
    have e0 : (Builtin.zeroCells z.cells n).toList = (List.replicate n z.cells.toList).flatten := zeros_eq _ _
    rw [e0, List.mem_flatten] at hy
    obtain ⟨l, hl, hy⟩ := hy
    rw [(List.mem_replicate.1 hl).2] at hy
    exact hz1 y hy
  have hzn : ∀ n, (Builtin.zeroCells z.cells n).toList.length = n := fun n => by rw [zeros_size, hzs, Nat.mul_one]
  unfold St.apv at ha
  split at ha
  · rename_i l m lo k s
    split at ha
    · rename_i hc0
      obtain ⟨rfl, rfl, rfl⟩ := hc0
      split at ha
      · rename_i ds hm
        split at ha
        · rename_i hc1
          obtain ⟨hdk, hk0, hkb⟩ := hc1
          -- what is appended
          obtain ⟨_, B, c', rfl, hrB⟩ := hy
          have e1 : σ.up.length + 1 - 1 - 0 = σ.up.length := by omega
          rw [e1] at hrB
          have hOm : σ.O σ.up.length m = some (.box ds) := by have := St.O_obj σ 0 m (Nat.zero_le _); simpa using this.trans hm
          simp only [RowV, hOm] at hrB
          obtain ⟨_, hkc, _, hrB⟩ := hrB
          have hrB := hrB.resolve_left (by omega)
          obtain ⟨rfl, hcapm⟩ := hrB
          obtain ⟨hownm, us, rest2, el2, hhm, hus, hone2, hroom2⟩ := h.ob σ.up.length m _ (by omega) hOm
          have hul := VRs.length _ _ hus
          have hBr := run_firstBox (P := P) (c := c') (m := k) hs rfl (by omega : k = us.length) hhm
          have hn1 : ∀ y ∈ us, y.oneCell' = true := fun y hy => hone2 y (List.mem_append_left _ hy)
          split at ha
          · -- to nothing
            rename_i s
            split at ha
            · rename_i hs1
              obtain ⟨A, rfl⟩ := hx
              obtain ⟨σ₁, hn, rfl⟩ := Option.map_eq_some_iff.1 ha
              obtain ⟨hno, rfl⟩ := new_some hn
              have hr := run_app_grow (A := A) (n := 0) (c := 0) (ty := ty) (olds := []) (w := w) ht hu hi hz hb (fun w' _ => by
                cases A with
                | none => simp [Builtin.firstCells]
                | some a => simp [Builtin.firstCells, loadCells, loadCellsFrom]) hBr (by omega) (by omega)
              simp only [Nat.zero_add, List.nil_append] at hr
              have hge := grownCap_ge w k 0 e
              obtain ⟨R, hv⟩ := Rel.newVs (w := w.drew) (e := e) (cap := grownCap w k 0 e) (rest := (Builtin.zeroCells z.cells (grownCap w k 0 e - k)).toList) (h.same rfl) hno (VRs.keep' (Keep.same (w := w) (w' := w.drew) rfl) (Nat.le_refl _) hus)
                (fun y hy => (List.mem_append.1 hy).elim (hn1 y) (hzo _ y)) (by rw [hzn]; omega)
              have hvr := hv (grownCap w k 0 e) (by omega) (Nat.le_refl _)
              rw [hdk] at hvr
              refine ⟨_, _, _, hr, R.set hd (by rw [St.up_setObj0]; exact hvr), Adv.trans Adv.drew (Adv.withRow (σ := σ)), by rw [St.up_set, St.up_setObj0]⟩
            · cases ha
          · -- to a row
            rename_i l n lo len s
            split at ha
            · rename_i hc2
              obtain ⟨rfl, rfl, rfl, hnm, hnn⟩ := hc2
              split at ha
              · rename_i cs hn
                split at ha
                · rename_i hc3
                  obtain ⟨hcl, hl0, hbig⟩ := hc3
                  obtain ⟨σ₁, hnew, rfl⟩ := Option.map_eq_some_iff.1 ha
                  obtain ⟨hno, rfl⟩ := new_some hnew
                  obtain ⟨_, A, c, rfl, hr⟩ := hx
                  rw [e1] at hr
                  have hOn : σ.O σ.up.length n = some (.box cs) := by have := St.O_obj σ 0 n (Nat.zero_le _); simpa using this.trans hn
                  simp only [RowV, hOn] at hr
                  obtain ⟨_, hlc, _, hr⟩ := hr
                  have hr := hr.resolve_left (by omega)
                  obtain ⟨rfl, hcap⟩ := hr
                  obtain ⟨hown, vs, rest, el, hh, hvs, hone, hroom⟩ := h.ob σ.up.length n _ (by omega) hOn
                  have hvl := VRs.length _ _ hvs
                  have hAr := run_firstBox (P := P) (c := c) (m := len) hs rfl (by omega : len = vs.length) hh
                  have hnok := (h.own _ _ _ hown).2.1
                  have hbase := (h.own _ _ _ hown).2.2.1
                  obtain ⟨R1, K1⟩ := h.goneB hn
                  have hup1 : (σ.setObj 0 n (some .gone)).up.length = σ.up.length := by rw [St.up_setObj0]
                  have hlen2 : (cs ++ ds).length = len + k := by rw [List.length_append]; omega
                  by_cases hfit : len + k ≤ c
                  · -- in place
                    have hin : 0 + len * 1 + us.length ≤ (vs ++ rest).toArray.size := by simp only [List.size_toArray, List.length_append]; omega
                    have hst := run_storeCells_at P (g.loc σ.up.length n).1 (0 + len * 1) el us 0 (vs ++ rest).toArray w hh (by simpa using hin) hn1
                    simp only [Nat.add_zero] at hst
                    have hcells : ((vs ++ rest).toArray.toList.take (0 + len * 1) ++ us ++ (vs ++ rest).toArray.toList.drop (0 + len * 1 + us.length)) = (vs ++ us) ++ rest.drop us.length := by
                      have ht1 : 0 + len * 1 = vs.length := by omega
                      rw [ht1]
                      simp only [List.take_left', List.drop_append]
                      rw [List.drop_eq_nil_of_le (by omega)]
                      simp
                    rw [hcells] at hst
                    have hrun := run_app_fits (A := some ⟨(g.loc σ.up.length n).1, 0, none⟩) (ty := ty) (n := len) (c := c) ht hu hi (hBr w rfl) hfit (by simp only [Addr.add_none, hs]; exact hst)
                    have hfree : (g.free σ.up.length n).own (g.loc σ.up.length n).1 = none := by simp only [Gh.free]; rw [if_pos hown]
                    have hother : ∀ d, d ≠ (g.loc σ.up.length n).1 → (w.setRow (g.loc σ.up.length n).1 ((vs ++ us) ++ rest.drop us.length).toArray).heap[d]? = w.heap[d]? := fun d hd => setRow_other _ _ _ _ hd
                    obtain ⟨R2, K2⟩ := R1.wild (w' := w.setRow (g.loc σ.up.length n).1 ((vs ++ us) ++ rest.drop us.length).toArray) hfree hnok hbase (by simp [World.setRow]) hother
                    have hv1 : VRs (g.free σ.up.length n) (w.setRow (g.loc σ.up.length n).1 ((vs ++ us) ++ rest.drop us.length).toArray) (σ.setObj 0 n (some .gone)).O (σ.up.length + 1) (cs ++ ds) (vs ++ us) :=
                      VRs.keep' K2 (by rw [hup1]; exact Nat.le_refl _) (VRs.keep' K1 (Nat.le_refl _) (VRs.append _ _ _ _ hvs hus))
                    have hh2 := setRow_heap w (g.loc σ.up.length n).1 _ ((vs ++ us) ++ rest.drop us.length).toArray _ _ hh
                    obtain ⟨R3, hv3⟩ := R2.seizeB (nm := nm) (cap := (g.loc σ.up.length n).2.2) (cs := cs ++ ds) (vs := vs ++ us) (rest := rest.drop us.length) hno hfree hnok hbase hh2 (by rw [hup1]; exact hv1) (fun y hy => by
                      rcases List.mem_append.1 hy with hy | hy
                      · rcases List.mem_append.1 hy with hy | hy
                        · exact hone y (List.mem_append_left _ hy)
                        · exact hn1 y hy
                      · exact hone y (List.mem_append_right _ (List.mem_of_mem_drop hy))) (by rw [List.length_append, List.length_drop]; omega)
                    have hvr := hv3 c (by omega) (by omega)
                    rw [hlen2] at hvr
                    refine ⟨_, _, _, hrun, R3.set hd (by rw [St.up_setObj0]; exact hvr), ?_, by rw [St.up_set, St.up_setObj0, hup1]⟩
                    refine ⟨rfl, fun _ h => h, fun _ h => .inl h, fun b hb => ?_, fun b hb hbo => hother b (fun e => by rw [e, hown] at hbo; cases hbo), by simp [World.setRow], rfl, rfl, rfl⟩
                    left
                    simp only [Gh.new] at hb
                    by_cases hbe : b = (g.loc σ.up.length n).1
                    · rw [hbe, hown]; simp
                    · rw [if_neg hbe] at hb
                      simp only [Gh.free] at hb
                      split at hb
                      · exact absurd rfl hb
                      · exact hb
                  · -- a new block
                    have hrun := run_app_grow (ty := ty) (w := w) ht hu hi hz hb hAr hBr (by omega) hbig
                    have hge := grownCap_ge w (len + k) c e
                    obtain ⟨R3, hv3⟩ := Rel.newVs (w := w.drew) (e := e) (nm := nm) (cap := grownCap w (len + k) c e) (cs := cs ++ ds) (vs := vs ++ us) (rest := (Builtin.zeroCells z.cells (grownCap w (len + k) c e - (len + k))).toList) (R1.same rfl) hno
                      (by rw [hup1]; exact VRs.keep' (Keep.same (w := w) (w' := w.drew) rfl) (Nat.le_refl _) (VRs.keep' K1 (Nat.le_refl _) (VRs.append _ _ _ _ hvs hus)))
                      (fun y hy => by
                        rcases List.mem_append.1 hy with hy | hy
                        · rcases List.mem_append.1 hy with hy | hy
                          · exact hone y (List.mem_append_left _ hy)
                          · exact hn1 y hy
                        · exact hzo _ y hy) (by rw [hzn, List.length_append]; omega)
                    have hvr := hv3 (grownCap w (len + k) c e) (by omega) (Nat.le_refl _)
                    rw [hlen2] at hvr
                    refine ⟨_, _, _, hrun, R3.set hd (by rw [St.up_setObj0]; exact hvr), Adv.trans Adv.free (Adv.trans Adv.drew (Adv.withRow (σ := σ.setObj 0 n (some .gone)))), by rw [St.up_set, St.up_setObj0, hup1]⟩
                · cases ha
              · cases ha
            · cases ha
          · cases ha
        · cases ha
      · cases ha
    · cases ha
  · cases ha
end
end Go.Proofs.YtcgjebaomhfbdaaGreat.Vm

/- An operation of the machine and one of Go: when they are the same. -/
namespace Go.Proofs.YtcgjebaomhfbdaaGreat.Vm
open Go
/-- the facts on a slice type's elements: size, bytes, zero -/
def elOk (P : Program) (t : TypeId) (s : Nat) : Bool := match P.underlying t with
  | some (.slice e) => match P.info? e with
    | some i => decide (i.size = s) && decide (i.bytes ≤ 32768) && (match i.zero with | some z => decide (z.cells.size = s) | none => false)
    | none => false
  | _ => false
def zOk (P : Program) (t : TypeId) (z : Z) : Bool := match P.underlying t with
  | some (.slice e) => match P.info? e with
    | some i => match i.zero with
      | some zv => okZt z zv.cells.toList
      | none => false
    | none => false
  | _ => false
def isSl (P : Program) (t : TypeId) : Bool := match P.underlying t with
  | some (.slice _) => true
  | _ => false
def slSz (P : Program) (t : TypeId) (s : Nat) : Bool := match P.underlying t with
  | some (.slice e) => decide (szOf P e = some s)
  | _ => false
def fieldOk (P : Program) (t : TypeId) (f off : Nat) (k : Option Nat) : Bool := match P.underlying t with
  | some (.struct fs) => match fs[f]? with
    | some F => decide (F.offset = off) && (match k with
      | some k => isW P F.type k
      | none => match szOf P F.type with
        | some 0 | none => false
        | some _ => true)
    | none => false
  | _ => false
/-- a struct of numbers and truth values, cell by cell -/
def eqFs (P : Program) : Nat → List Bool → List Field → Bool
  | _, [], [] => true
  | n, k :: ks, f :: fs => decide (f.offset = n) && f.name != "_" && (match P.underlying f.type with | some (.int _) => k | some .bool => !k | _ => false) && isW P f.type 0 && eqFs P (n + 1) ks fs
  | _, _, _ => false
def eqTy (P : Program) (t : TypeId) (ks : List Bool) : Bool := match P.underlying t with
  | some (.struct fs) => !P.stoodInHeld t && !P.eqGuardType P.depth t && eqFs P 0 ks fs.toList
  | _ => false
def okI (P : Program) (nt : Nat) (i : I) (o : Oper) : Bool :=
  (match i.dst with | some d => decide (o.dst = some d) && decide (d < nt) | none => decide (o.dst = none)) &&
  match i, o.op with
  | .mv _ x, .move p | .mv _ x, .assign p => okX x p
  | .mv _ (.c (.nil s)), .buildSlice t len parts => decide (len = 0) && decide (parts.size = 0) && elOk P t s
  | .nilr _ _ _, .move (.const (.slice none 0 0)) | .nilr _ _ _, .assign (.const (.slice none 0 0)) => true
  | .pick _ c a b, .pick p q r => okX c p && okX a q && okX b r
  | .bin _ op x y, .binOp op' _ p q _ => decide (op = op') && okX x p && okX y q
  | .beq _ ne x y, .binOp op t p q _ => (match ne, op with | true, .neq | false, .eql => true | _, _ => false) && okX x p && okX y q && (match P.underlying t with | some .bool => true | _ => false)
  | .eqs _ ne ks x y, .binOp op t p q _ => (match ne, op with | true, .neq | false, .eql => true | _, _ => false) && okX x p && okX y q && eqTy P t ks
  | .un _ op x, .unOp op' _ p => decide (op = op') && okX x p
  | .cvt _ k x, .convert a b p => okX x p && (match P.underlying a, P.underlying b with | some _, some (.int k') => decide (k = k') | _, _ => false)
  | .alloc _ _ z, .alloc e => match P.info? e with
    | some i => match i.zero with
      | some zv => okZs z zv.cells.toList
      | none => false
    | none => false
  | .box _ _ x _, .box _ p => okX x p
  | .load _ x k, .load t p => isW P t k && okX x p
  | .store x y k, .store t p q => isW P t k && okX x p && okX y q
  | .fad _ x off _, .fieldAddr t p f => okX x p && fieldOk P t f off none
  | .fval _ x off k, .field t p f => okX x p && fieldOk P t f off (some k)
  | .ix _ x j s, .indexAddr t p q => okX x p && okX j q && slSz P t s
  | .ixb _ x j n s, .indexAddr t p q => okX x p && okX j q && (match P.underlying t with | some (.array m e) => decide (m = n) && decide (szOf P e = some s) | _ => false)
  | .ixa _ x j n k, .index t p q => okX x p && okX j q && (match P.underlying t with | some (.array m e) => decide (m = n) && isW P e k | _ => false)
  | .stx _ bs j, .index t (.const (.string s)) q => okX j q && decide (s.data.toList.map UInt8.toNat = bs) && (match P.underlying t with | some .string => true | _ => false)
  | .bld _ z ps, .build t parts => okBld P t z ps parts.toList
  | .bsl _ _ s n z ps, .buildSlice t len parts => decide (len = n) && decide (n * s ≤ 16777216) && elOk P t s && zOk P t z && okPs ps parts.toList
  | .mks _ _ s x y z, .makeSlice t p q => okX x p && okX y q && elOk P t s && zOk P t z
  | .slc _ s x lo hi mx, .slice t p l h m => okX x p && okXo lo l && okXo hi h && okXo mx m && slSz P t s && (mx.isNone || hi.isSome)
  | .len _ x, .call ⟨.builtin .len, as, ts⟩ => match as.toList, ts.toList with
    | [p], [t] => okX x p && isSl P t
    | _, _ => false
  | .mx _ x xs, .call ⟨.builtin .max, as, _⟩ | .mn _ x xs, .call ⟨.builtin .min, as, _⟩ => okXs (x :: xs) as.toList
  | .app _ _ s x y, .call ⟨.builtin .append, as, ts⟩ => match as.toList, ts.toList with
    | [p, q], [t, u] => okX x p && okX y q && elOk P t s && isSl P u
    | _, _ => false
  | .cpy _ s x y, .call ⟨.builtin .copy, as, ts⟩ => match as.toList, ts.toList with
    | [p, q], [t, _] => okX x p && okX y q && slSz P t s
    | _, _ => false
  | .clr s x z, .call ⟨.builtin .clear, as, ts⟩ => match as.toList, ts.toList with
    | [p], [t] => okX x p && elOk P t s && zOk P t z
    | _, _ => false
  | .xt _ x j, .extract p k => okX x p && decide (j = k)
  | .fn _ f xs, .makeFunc (.func h) first caps => (decide (f = h) && decide (f < bndF) && decide (first.size = 0) && okXs xs caps.toList) || (decide (f = h + bndF) && decide (h < bndF) && decide (caps.size = 0) && okXs xs first.toList)
  | .chk _ x, .nilCheck p => okX x p
  | .ixv _ x j, .indexAddr t p q => okX x p && okX j q && slSz P t 1
  | .bsv _ _ xs, .buildSlice t len parts => elOk P t 1 && decide (len = xs.length) && decide (0 < xs.length) && decide (xs.length ≤ 16777216) && decide (parts.toList.map (·.1) = List.range xs.length) && okXs xs (parts.toList.map (·.2))
  | .apv _ _ x y, .call ⟨.builtin .append, as, ts⟩ => match as.toList, ts.toList with
    | [p, q], [t, u] => okX x p && okX y q && elOk P t 1 && isSl P u && zOk P t (.n 1)
    | _, _ => false
  | .mkl _ _ _ s x y z, .makeSlice t p q => okX x p && okX y q && elOk P t s && zOk P t z
  | .apl _ _ _ s x y, .call ⟨.builtin .append, as, ts⟩ => match as.toList, ts.toList with
    | [p, q], [t, u] => okX x p && okX y q && elOk P t s && isSl P u
    | _, _ => false
  | _, _ => false
section
variable {P : Program} {g : Gh} {σ : St} {tmps : Array Value} {rts : Roots} {w : World}
theorem Done.of {o : Oper} {d : Nat} {v : Value} {w' : World} {g' : Gh} {σ' : St} (hd : o.dst = some d) (hr : (execOp (evalT tmps) o).run P w = .ok (.value v) w')
    (R : Rel g' σ' (tmps.setIfInBounds d v) rts w') (Ad : Adv g w g' w') (hup : σ'.up.length = σ.up.length) : Done P g σ tmps rts w o σ' :=
  ⟨g', w', v, .inl hr, by rw [hd]; exact R, Ad, hup⟩
theorem elOk.facts {t : TypeId} {s : Nat} (h : elOk P t s = true) : ∃ e i z, P.underlying t = some (.slice e) ∧ P.info? e = some i ∧ i.size = s ∧ i.bytes ≤ 32768 ∧ i.zero = some z ∧ z.cells.size = s := by
  unfold elOk at h
  split at h
  · rename_i e hu
    split at h
    · rename_i i hi
      simp only [Bool.and_eq_true, decide_eq_true_eq] at h
      obtain ⟨⟨h1, h2⟩, h3⟩ := h
      split at h3
      · rename_i z hz
        exact ⟨e, i, z, hu, hi, h1, h2, hz, of_decide_eq_true h3⟩
      · cases h3
    · cases h
  · cases h
theorem zOk.facts {t e : TypeId} {i : TypeInfo} {zv : Value} {z : Z} (h : zOk P t z = true) (hu : P.underlying t = some (.slice e)) (hi : P.info? e = some i) (hz : i.zero = some zv) : okZt z zv.cells.toList = true := by
  unfold zOk at h
  simpa [hu, hi, hz] using h
theorem slSz.facts {t : TypeId} {s : Nat} (h : slSz P t s = true) : ∃ e, P.underlying t = some (.slice e) ∧ szOf P e = some s := by
  unfold slSz at h
  split at h
  · rename_i e hu; exact ⟨e, hu, of_decide_eq_true h⟩
  · cases h
theorem isSl.facts {t : TypeId} (h : isSl P t = true) : ∃ e, P.underlying t = some (.slice e) := by
  unfold isSl at h
  split at h
  · rename_i e hu; exact ⟨e, hu⟩
  · cases h
theorem Array.of_toList2 {α : Type} {a : Array α} {x y : α} (h : a.toList = [x, y]) : a = #[x, y] := by apply Array.ext'; simpa using h
theorem Array.of_toList1 {α : Type} {a : Array α} {x : α} (h : a.toList = [x]) : a = #[x] := by apply Array.ext'; simpa using h
theorem map_some {α β : Type} {f : α → β} {a : Option α} {b : β} (h : a.map f = some b) : ∃ x, a = some x ∧ f x = b := by
  cases a with
  | none => cases h
  | some x => exact ⟨x, rfl, by simpa using h⟩
theorem run_max {gr : Bool} : ∀ (xs : List V) (zs : List Value) (v v' : V) (z : Value), VR g w σ.O (σ.up.length + 1) v z → VRs g w σ.O (σ.up.length + 1) xs zs → maxOf gr v xs = some v' →
    ∃ y, ((match gr with | true => zs.foldlM Builtin.max2 z | false => zs.foldlM Builtin.min2 z : Sem Value).run P w = .ok y w) ∧ VR g w σ.O (σ.up.length + 1) v' y
  | [], zs, v, v', z, hv, hx, e => by
    simp only [VRs] at hx; subst hx
    simp only [maxOf, Option.some.injEq] at e; subst e
    exact ⟨z, by cases gr <;> rfl, hv⟩
  | x :: xs, _, v, v', z, hv, hx, e => by
    obtain ⟨y, ys, rfl, h1, h2⟩ := hx
    simp only [maxOf] at e
    cases hm : max2 gr v x with
    | none => rw [hm] at e; cases e
    | some m =>
      rw [hm] at e
      simp only [Option.bind_some] at e
      unfold max2 at hm
      split at hm
      · rename_i p k a q k' b
        split at hm
        · rename_i hk
          subst hk
          simp only [Option.some.injEq] at hm
          have hz := hv.int
          have hy := h1.int
          subst hz; subst hy
          have hmv : VR g w σ.O (σ.up.length + 1) m (.int k (if (if gr then decide (b > a) else decide (b < a)) then b else a)) := by rw [← hm]; rfl
          obtain ⟨y', hr, hvv⟩ := run_max xs ys m v' _ hmv h2 e
          refine ⟨y', ?_, hvv⟩
          cases gr with
          | true => simp [List.foldlM_cons, Builtin.max2] at hr ⊢; exact hr
          | false => simp [List.foldlM_cons, Builtin.min2] at hr ⊢; exact hr
        · cases hm
      · cases hm
end
end Go.Proofs.YtcgjebaomhfbdaaGreat.Vm

/- One operation of the machine is one operation of Go. -/
namespace Go.Proofs.YtcgjebaomhfbdaaGreat.Vm
open Go
section
variable {P : Program} {g : Gh} {σ : St} {tmps : Array Value} {rts : Roots} {w : World}
theorem okXo.v (h : Rel g σ tmps rts w) {x : Option X} {p : Option Operand} (hx : okXo x p = true) : okV g w σ.O (σ.up.length + 1) (x.map σ.val) (p.map (evalT tmps)) := by
  cases x <;> cases p <;> simp [okXo] at hx
  · trivial
  · exact h.val hx
theorem Done.map (h : Rel g σ tmps rts w) {o : Oper} {d : Nat} {a : Option V} {σ' : St} (hd : o.dst = some d) (hs : d < tmps.size) (e : a.map (σ.set d) = some σ')
    (hr : ∀ v, a = some v → ∃ x, (execOp (evalT tmps) o).run P w = .ok (.value x) w ∧ VR g w σ.O (σ.up.length + 1) v x) : Done P g σ tmps rts w o σ' := by
  obtain ⟨v, hv, rfl⟩ := map_some e
  obtain ⟨x, hx, hvx⟩ := hr v hv
  exact Done.value h hd hs hx hvx
theorem run_eq_bool {t : TypeId} {a b : Bool} (hu : P.underlying t = some .bool) : (Op.equal t (.bool a) (.bool b)).run P w = .ok (a == b) w := by
  show (Op.equalIn (9999 + 1) t (.bool a) (.bool b)).run P w = _
  rw [Op.equalIn]
  simp only [Sem.run_bind, run_underlying hu, Result.andThen_ok]
  rfl
theorem run_beq {t : TypeId} {a b : Bool} {ne : Bool} {p q : Operand} (hu : P.underlying t = some .bool) :
    (do eqGuard (if ne then .neq else .eql) t p q (.bool a) (.bool b); Go.binOp (if ne then .neq else .eql) t (.bool a) (.bool b) : Sem Value).run P w = .ok (.bool ((a == b) != ne)) w := by
  cases ne with
  | true =>
    show (do eqGuard .neq t p q (.bool a) (.bool b); (do pure (.bool (!(← Op.equal t (.bool a) (.bool b))))) : Sem Value).run P w = _
    have hg : (eqGuard .neq t p q (.bool a) (.bool b)).run P w = .ok () w := by rfl
    simp only [Sem.run_bind, hg, Result.andThen_ok, run_eq_bool hu, Sem.run_pure]
    cases a <;> cases b <;> rfl
  | false =>
    show (do eqGuard .eql t p q (.bool a) (.bool b); (do pure (.bool (← Op.equal t (.bool a) (.bool b)))) : Sem Value).run P w = _
    have hg : (eqGuard .eql t p q (.bool a) (.bool b)).run P w = .ok () w := by rfl
    simp only [Sem.run_bind, hg, Result.andThen_ok, run_eq_bool hu, Sem.run_pure]
    cases a <;> cases b <;> rfl
theorem run_eqFs {D : Nat} {O : Obs} {d : Nat} : ∀ (ks : List Bool) (fs : List Field) (n : Nat) (as bs : List V) (xs ys : List Value) (r : Bool), eqFs P n ks fs = true → VRs g w O D as (xs.drop n) → VRs g w O D bs (ys.drop n) → eqs ks as bs = some r →
    (Op.eqFields (d + 1) xs.toArray ys.toArray fs).run P w = .ok r w
  | [], [], n, as, bs, xs, ys, r, _, ha, hb, e => by
    cases as with
    | cons a as => cases bs <;> simp [eqs] at e
    | nil =>
      cases bs with
      | cons b bs => simp [eqs] at e
      | nil =>
        simp only [eqs, Option.some.injEq] at e; subst e
        simp [Op.eqFields]
  | [], _ :: _, _, _, _, _, _, _, h, _, _, _ => by simp [eqFs] at h
  | _ :: _, [], _, _, _, _, _, _, h, _, _, _ => by simp [eqFs] at h
  | k :: ks, f :: fs, n, as, bs, xs, ys, r, h, ha, hb, e => by
    simp only [eqFs, Bool.and_eq_true, decide_eq_true_eq] at h
    obtain ⟨⟨⟨⟨ho, hn⟩, ht⟩, hw⟩, hr⟩ := h
    subst ho
    cases as with
    | nil => cases bs <;> simp [eqs] at e
    | cons a as =>
      cases bs with
      | nil => simp [eqs] at e
      | cons b bs =>
        obtain ⟨x, xs', hx, hax, has⟩ := ha
        obtain ⟨y, ys', hy, hby, hbs⟩ := hb
        have hxg : xs[f.offset]? = some x := by
          have := congrArg (·[0]?) hx
          simpa [List.getElem?_drop] using this
        have hyg : ys[f.offset]? = some y := by
          have := congrArg (·[0]?) hy
          simpa [List.getElem?_drop] using this
        have hxd : xs.drop (f.offset + 1) = xs' := by
          have := congrArg List.tail hx
          simpa [List.tail_drop] using this
        have hyd : ys.drop (f.offset + 1) = ys' := by
          have := congrArg List.tail hy
          simpa [List.tail_drop] using this
        have hk := of_decide_eq_true hw
        have px : (part f.type xs.toArray f.offset).run P w = .ok x w := by
          unfold part
          rw [Sem.run_bind, run_isAgg hk]
          simp [hxg]
        have py : (part f.type ys.toArray f.offset).run P w = .ok y w := by
          unfold part
          rw [Sem.run_bind, run_isAgg hk]
          simp [hyg]
        have hn' : f.name ≠ "_" := by simpa using hn
        simp only [eqs] at e
        have key : ∀ c, eqFlat k a b = some c → (Op.equalIn (d + 1) f.type x y).run P w = .ok c w := fun c hc => by
          unfold eqFlat at hc
          split at hc
          · rename_i pa ka na pb kb nb
            split at hc
            · rename_i hkk
              cases hc
              obtain ⟨hk1, rfl⟩ := hkk
              have hx := hax.int
              have hy := hby.int
              subst hx; subst hy
              split at ht
              · rename_i hu
                rw [Op.equalIn]
                simp [run_underlying hu]
              · rw [hk1] at ht; cases ht
              · cases ht
            · cases hc
          · rename_i pa ba pb bb
            split at hc
            · cases hc
            · rename_i hkk
              cases hc
              have hx := hax.bool
              have hy := hby.bool
              subst hx; subst hy
              split at ht
              · exact absurd ht hkk
              · rename_i hu
                rw [Op.equalIn]
                simp [run_underlying hu]
              · cases ht
          · cases hc
        rw [Op.eqFields]
        simp only [if_pos hn', Sem.run_bind, px, py, Result.andThen_ok]
        split at e
        · rename_i hc
          rw [key _ hc]
          simp only [Result.andThen_ok]
          have := run_eqFs (d := d) ks fs (f.offset + 1) as bs xs ys r hr (by rw [hxd]; exact has) (by rw [hyd]; exact hbs) e
          simpa using this
        · rename_i hc
          cases e
          rw [key _ hc]
          simp
        · cases e
theorem run_eqs {t : TypeId} {ne : Bool} {op : BinOp} {ks : List Bool} {as bs : List V} {xs ys : List Value} {r : Bool} {p q : Operand} (hne : (match ne, op with | true, .neq | false, .eql => true | _, _ => false) = true) (hty : eqTy P t ks = true)
    (ha : VRs g w σ.O (σ.up.length + 1) as xs) (hb : VRs g w σ.O (σ.up.length + 1) bs ys) (e : eqs ks as bs = some r) :
    (do eqGuard op t p q (.agg xs.toArray) (.agg ys.toArray); Go.binOp op t (.agg xs.toArray) (.agg ys.toArray) : Sem Value).run P w = .ok (.bool (r != ne)) w := by
  unfold eqTy at hty
  split at hty
  · rename_i fs hu
    simp only [Bool.and_eq_true, Bool.not_eq_true'] at hty
    obtain ⟨⟨hst, hgd⟩, hfs⟩ := hty
    have hff : P.fieldsOf t = fs := by simp [Program.fieldsOf, hu]
    have hrun := run_eqFs (D := σ.up.length + 1) (O := σ.O) (d := 9998) ks fs.toList 0 as bs xs ys r hfs (by simpa using ha) (by simpa using hb) e
    have heq : (Op.equalIn 10000 t (.agg xs.toArray) (.agg ys.toArray)).run P w = .ok r w := by
      rw [show (10000 : Nat) = 9999 + 1 from rfl, run_equalIn_agg w 9999 t _ _ (by rw [hff]; exact hu) hst, hff]
      exact hrun
    rw [Sem.run_bind, run_eqGuard_agg w op t p q _ _ hgd]
    simp only [Result.andThen_ok]
    split at hne
    · rw [run_neq_struct, heq]; cases r <;> rfl
    · rw [run_eql_struct, heq]; cases r <;> rfl
    · cases hne
  · cases hty
theorem VR.len {D : Nat} {O : Obs} {v : V} {x : Value} {n : Nat} (h : VR g w O D v x) (hl : lenOf v = some n) : ∃ A c, x = .slice A n c := by
  unfold lenOf at hl
  split at hl
  · cases hl
    obtain ⟨A, c, hx, _⟩ := VR.rows h
    exact ⟨A, c, hx⟩
  · rename_i p s es
    cases hl
    have h1 : VR g w O D (.d p (.lst s es)) x := by cases p <;> exact h.1
    obtain ⟨A, c, hx, _⟩ := VR.rows h1
    exact ⟨A, c, hx⟩
  · cases hl
    obtain ⟨A, rfl⟩ := h
    exact ⟨A, 0, rfl⟩
  · cases hl
    obtain ⟨_, A, c, hx, _⟩ := h
    exact ⟨A, c, hx⟩
  · cases hl
theorem run_call {o : Oper} {b : Builtin} {as : Array Operand} {ts : Array TypeId} (hop : o.op = .call ⟨.builtin b, as, ts⟩) :
    ∃ cs, (execOp (evalT tmps) o).run P w = (builtin b ts o.type cs (as.map (evalT tmps))).run P w := by
  refine ⟨as.map fun | .const _ => true | _ => false, ?_⟩
  unfold execOp
  simp only [hop]
  rfl
theorem step_sound {nt : Nat} {i : I} {o : Oper} {σ' : St} (hok : okI P nt i o = true) (h : Rel g σ tmps rts w) (hnt : tmps.size = nt) (hs : step σ i = some σ') : Done P g σ tmps rts w o σ' := by
  subst hnt
  unfold okI at hok
  simp only [Bool.and_eq_true] at hok
  obtain ⟨hdst, hok⟩ := hok
  split at hok
  · -- mv, move
    rename_i d x p hop
    simp only [I.dst, Bool.and_eq_true, decide_eq_true_eq] at hdst
    simp only [step, Option.some.injEq] at hs; subst hs
    exact Done.value h hdst.1 hdst.2 (by unfold execOp; simp only [hop]; rfl) (h.val hok)
  · rename_i d x p hop
    simp only [I.dst, Bool.and_eq_true, decide_eq_true_eq] at hdst
    simp only [step, Option.some.injEq] at hs; subst hs
    exact Done.value h hdst.1 hdst.2 (by unfold execOp; simp only [hop]; rfl) (h.val hok)
  · -- a literal of no elements
    rename_i d s t len parts hop
    simp only [I.dst, Bool.and_eq_true, decide_eq_true_eq] at hdst hok
    obtain ⟨⟨rfl, hp⟩, hel⟩ := hok
    simp only [step, Option.some.injEq] at hs; subst hs
    obtain ⟨e, i, zv, hu, hi, his, hib, hz, hzs⟩ := elOk.facts hel
    obtain ⟨w', A, hr, R, Ad⟩ := h.bsl0 hu hi hz hp
    exact Done.of hdst.1 (by unfold execOp; simp only [hop]; rw [Sem.run_bind, hr]; rfl) (R.set hdst.2 ⟨A, rfl⟩) Ad (by rfl)
  · -- nilr
    rename_i d nm s hop
    simp only [I.dst, Bool.and_eq_true, decide_eq_true_eq] at hdst
    simp only [step] at hs
    obtain ⟨τ, hn, rfl⟩ := map_some hs
    obtain ⟨hno, rfl⟩ := new_some hn
    obtain ⟨R, K, Ad, hv⟩ := h.newNil (s := s) (gr := false) hno none
    exact Done.of hdst.1 (v := .slice none 0 0) (by unfold execOp; simp only [hop]; rfl) (R.set hdst.2 (by rw [St.up_setObj0]; exact hv)) Ad (by rfl)
  · rename_i d nm s hop
    simp only [I.dst, Bool.and_eq_true, decide_eq_true_eq] at hdst
    simp only [step] at hs
    obtain ⟨τ, hn, rfl⟩ := map_some hs
    obtain ⟨hno, rfl⟩ := new_some hn
    obtain ⟨R, K, Ad, hv⟩ := h.newNil (s := s) (gr := false) hno none
    exact Done.of hdst.1 (v := .slice none 0 0) (by unfold execOp; simp only [hop]; rfl) (R.set hdst.2 (by rw [St.up_setObj0]; exact hv)) Ad (by rfl)
  · -- pick
    rename_i d c a b p q r hop
    simp only [I.dst, Bool.and_eq_true, decide_eq_true_eq] at hdst hok
    simp only [step] at hs
    split at hs
    · rename_i pp t hc
      cases hs
      have hcv := h.val hok.1.1
      rw [hc] at hcv
      have hb := hcv.bool
      refine Done.value h hdst.1 hdst.2 (x := if t then evalT tmps q else evalT tmps r) (by unfold execOp; simp only [hop]; rw [hb]; rfl) ?_
      cases t with
      | true => exact h.val hok.1.2
      | false => exact h.val hok.2
    · cases hs
  · -- bin
    rename_i d op x y op' t p q fl hop
    simp only [I.dst, Bool.and_eq_true, decide_eq_true_eq] at hdst hok
    obtain ⟨⟨rfl, hp⟩, hq⟩ := hok
    refine Done.map h hdst.1 hdst.2 hs (fun v hv => ?_)
    have h1 := h.val hp
    have h2 := h.val hq
    unfold Vm.bin at hv
    split at hv
    · rename_i pa k a pb k' b e1 e2
      rw [e1] at h1; rw [e2] at h2
      split at hv
      · rename_i hk
        obtain ⟨t', ha, rfl⟩ := map_some hv
        have := run_arith (P := P) (w := w) (xt := t) (p := p) (q := q) hk ha
        refine ⟨t'.val, ?_, VR.flat this.2⟩
        unfold execOp; simp only [hop]
        rw [h1.int, h2.int, Sem.run_bind, this.1]
        rfl
      · cases hv
    · cases hv
  · -- beq
    rename_i d ne x y op t p q fl hop
    simp only [I.dst, Bool.and_eq_true, decide_eq_true_eq] at hdst hok
    obtain ⟨⟨⟨hne, hp⟩, hq⟩, hty⟩ := hok
    refine Done.map h hdst.1 hdst.2 hs (fun v hv => ?_)
    have h1 := h.val hp
    have h2 := h.val hq
    unfold Vm.beq at hv
    split at hv
    · rename_i pa a pb b e1 e2
      rw [e1] at h1; rw [e2] at h2
      cases hv
      split at hty
      · rename_i hu
        refine ⟨.bool ((a == b) != ne), ?_, VR.dBool _⟩
        unfold execOp; simp only [hop]
        rw [h1.bool, h2.bool]
        split at hne
        · have := run_beq (P := P) (w := w) (a := a) (b := b) (ne := true) (p := p) (q := q) hu
          simp only [if_true] at this
          rw [Sem.run_bind, this]; rfl
        · have := run_beq (P := P) (w := w) (a := a) (b := b) (ne := false) (p := p) (q := q) hu
          simp only [Bool.false_eq_true, if_false] at this
          rw [Sem.run_bind, this]; rfl
        · cases hne
      · cases hty
    · cases hv
  · -- eqs
    rename_i d ne ks x y op t p q fl hop
    simp only [I.dst, Bool.and_eq_true, decide_eq_true_eq] at hdst hok
    obtain ⟨⟨⟨hne, hp⟩, hq⟩, hty⟩ := hok
    have h1 := h.val hp
    have h2 := h.val hq
    simp only [step] at hs
    split at hs
    · rename_i as bs e1 e2
      obtain ⟨r, hr, rfl⟩ := map_some hs
      rw [e1] at h1; rw [e2] at h2
      obtain ⟨xs, hx, hxs, _⟩ := h1
      obtain ⟨ys, hy, hys, _⟩ := h2
      refine Done.value h hdst.1 hdst.2 (x := .bool (r != ne)) ?_ (VR.dBool _)
      unfold execOp; simp only [hop]
      rw [hx, hy, Sem.run_bind, run_eqs hne hty hxs hys hr]
      rfl
    · cases hs
  · -- un
    rename_i d op x op' t p hop
    simp only [I.dst, Bool.and_eq_true, decide_eq_true_eq] at hdst hok
    obtain ⟨rfl, hp⟩ := hok
    refine Done.map h hdst.1 hdst.2 hs (fun v hv => ?_)
    have h1 := h.val hp
    unfold Vm.un at hv
    split at hv
    · rename_i pa b e1
      rw [e1] at h1
      split at hv
      · cases hv
        exact ⟨.bool !b, by unfold execOp; simp only [hop]; rw [h1.bool]; rfl, VR.dBool _⟩
      · cases hv
    · rename_i pa k n e1
      rw [e1] at h1
      split at hv
      · cases hv
        exact ⟨.int k (k.wrap (0 - n)), by unfold execOp; simp only [hop]; rw [h1.int]; rfl, VR.dInt _ _⟩
      · cases hv
    · cases hv
  · -- cvt
    rename_i d k x a b p hop
    simp only [I.dst, Bool.and_eq_true, decide_eq_true_eq] at hdst hok
    obtain ⟨hp, hty⟩ := hok
    simp only [step] at hs
    split at hs
    · rename_i pp k0 n e1
      cases hs
      have h1 := h.val hp
      rw [e1] at h1
      split at hty
      · rename_i da k' hua hub
        have := of_decide_eq_true hty
        subst this
        refine Done.value h hdst.1 hdst.2 (x := .int k (k.wrap n)) ?_ (VR.dInt _ _)
        unfold execOp; simp only [hop]; rw [h1.int]
        simp [convert, run_underlying hua, run_underlying hub, Conv.intToInt]
      · cases hty
    · cases hs
  · -- alloc
    rename_i d nm z e hop
    simp only [I.dst, Bool.and_eq_true, decide_eq_true_eq] at hdst
    split at hok
    · rename_i i hi
      split at hok
      · rename_i zv hz
        simp only [step] at hs
        split at hs
        · rename_i cs τ hzc
          obtain ⟨g', w', v, hr, R, Ad, hup⟩ := h.alloc hi hz hok hdst.2 hzc hs
          exact Done.of hdst.1 (by unfold execOp; simp only [hop]; rw [Sem.run_bind, hr]; rfl) R Ad hup
        · cases hs
      · cases hok
    · cases hok
  · -- box
    rename_i d nm x k t p hop
    simp only [I.dst, Bool.and_eq_true, decide_eq_true_eq] at hdst
    simp only [step] at hs
    split at hs
    · rename_i cs hc
      obtain ⟨g', w', v, hr, R, Ad, hup⟩ := h.box' (P := P) (elem := t) (h.val hok) hc hdst.2 hs
      exact Done.of hdst.1 (by unfold execOp; simp only [hop]; rw [Sem.run_bind, hr]; rfl) R Ad hup
    · cases hs
  · -- load
    rename_i d x k t p hop
    simp only [I.dst, Bool.and_eq_true, decide_eq_true_eq] at hdst hok
    refine Done.map h hdst.1 hdst.2 hs (fun v hv => ?_)
    obtain ⟨z, hr, hz⟩ := h.load (of_decide_eq_true hok.1) (h.val hok.2) hv
    exact ⟨z, by unfold execOp; simp only [hop]; rw [Sem.run_bind, hr]; rfl, hz⟩
  · -- store
    rename_i x y k t p q hop
    simp only [I.dst, Bool.and_eq_true, decide_eq_true_eq] at hdst hok
    obtain ⟨⟨hk, hp⟩, hq⟩ := hok
    have hk := of_decide_eq_true hk
    have h1 := h.val hp
    have h2 := h.val hq
    simp only [step] at hs
    have fin : ∀ g' w', (Instr.storeAt t (evalT tmps p) (evalT tmps q)).run P w = .ok () w' → Rel g' σ' tmps rts w' → Adv g w g' w' → σ'.up.length = σ.up.length → Done P g σ tmps rts w o σ' := fun g' w' hr R Ad hup =>
      ⟨g', w', undef, .inr ⟨by unfold execOp; simp only [hop]; rw [Sem.run_bind, hr]; rfl, rfl⟩, by rw [hdst]; exact R, Ad, hup⟩
    cases hx : σ.val x with
    | ptr l n off =>
      rw [hx] at h1 hs
      obtain ⟨w', hr, R, Ad, hup⟩ := h.store hk h1 h2 ⟨l, n, off, rfl⟩ hs
      exact fin g w' hr R Ad hup
    | rel l n i off =>
      rw [hx] at h1 hs
      obtain ⟨g', w', hr, R, Ad, hup⟩ := h.storeRel hk h1 h2 hs
      exact fin g' w' hr R Ad hup
    | _ => rw [hx] at hs; simp [St.store] at hs
  · -- fad
    rename_i d x off k t p f hop
    simp only [I.dst, Bool.and_eq_true, decide_eq_true_eq] at hdst hok
    refine Done.map h hdst.1 hdst.2 hs (fun v hv => ?_)
    obtain ⟨b, oo, hy, hvr⟩ := VR.fad (h.val hok.1) hv
    refine ⟨_, ?_, hvr⟩
    have hf := hok.2
    unfold fieldOk at hf
    split at hf
    · rename_i fs hu
      split at hf
      · rename_i F hF
        simp only [Bool.and_eq_true, decide_eq_true_eq] at hf
        obtain ⟨hoff, hsz⟩ := hf
        split at hsz
        · cases hsz
        · cases hsz
        · rename_i n hn hne
          have hrs := run_szOf (P := P) (w := w) hne
          have hn0 : n ≠ 0 := fun h0 => by first | exact hn h0 | (subst h0; exact hn rfl)
          unfold execOp; simp only [hop]; rw [hy]
          simp [Instr.fieldAt, run_underlying hu, hF, Instr.sureAddr, fieldPlace, hrs, hn0, Addr.add_none, hoff]
      · cases hf
    · cases hf
  · -- fval
    rename_i d x off k t p f hop
    simp only [I.dst, Bool.and_eq_true, decide_eq_true_eq] at hdst hok
    simp only [step] at hs
    have h1 := h.val hok.1
    split at hs
    · rename_i cs hx
      rw [hx] at h1
      refine Done.map h hdst.1 hdst.2 hs (fun v hv => ?_)
      obtain ⟨vs, hp, hfit, hvr⟩ := VR.part h1 hv
      refine ⟨_, ?_, hvr⟩
      have hf := hok.2
      unfold fieldOk at hf
      split at hf
      · rename_i fs hu
        split at hf
        · rename_i F hF
          simp only [Bool.and_eq_true, decide_eq_true_eq] at hf
          obtain ⟨hoff, hk⟩ := hf
          have hk := of_decide_eq_true hk
          have hpart := run_part (P := P) (w := w) hk hfit
          unfold execOp; simp only [hop]; rw [hp]
          simp [Instr.field, run_underlying hu, hF, asAgg, hoff, hpart]
        · cases hf
      · cases hf
    · cases hs
  · -- ix
    rename_i d x j s t p q hop
    simp only [I.dst, Bool.and_eq_true, decide_eq_true_eq] at hdst hok
    obtain ⟨⟨hp, hq⟩, hsl⟩ := hok
    obtain ⟨e, hu, hsz⟩ := slSz.facts hsl
    refine Done.map h hdst.1 hdst.2 hs (fun v hv => ?_)
    obtain ⟨u, hr, hvr⟩ := Rel.ix hu hsz (h.val hp) (h.val hq) hv
    exact ⟨u, by unfold execOp; simp only [hop]; rw [Sem.run_bind, hr]; rfl, hvr⟩
  · -- ixb
    rename_i d x j n s t p q hop
    simp only [I.dst, Bool.and_eq_true, decide_eq_true_eq] at hdst hok
    obtain ⟨⟨hp, hq⟩, hsl⟩ := hok
    simp only [step] at hs
    have h1 := h.val hp
    split at hs
    · rename_i l m off hx
      rw [hx] at h1
      obtain ⟨jj, hj, rfl⟩ := map_some hs
      obtain ⟨k, nn, hz, h0, hlt, rfl⟩ := natOf_some hj (h.val hq)
      obtain ⟨hl, hx1⟩ := h1
      obtain ⟨bb, oo, hpv, hsh⟩ := hx1.shape
      split at hsl
      · rename_i mm e hu
        simp only [Bool.and_eq_true, decide_eq_true_eq] at hsl
        obtain ⟨rfl, hsz⟩ := hsl
        have hrs := run_szOf (P := P) (w := w) hsz
        refine Done.value h hdst.1 hdst.2 (x := .pointer (some ⟨bb, oo + (off + nn.toNat * s), none⟩)) ?_ ⟨hl, hsh _⟩
        unfold execOp; simp only [hop]; rw [hz, hpv]
        simp [Instr.indexAt, asIntOf, run_underlying hu, Instr.sureAddr, h0, hlt, hrs, Addr.add_none, Nat.add_assoc]
      · cases hsl
    · cases hs
  · -- ixa
    rename_i d x j n k t p q hop
    simp only [I.dst, Bool.and_eq_true, decide_eq_true_eq] at hdst hok
    obtain ⟨⟨hp, hq⟩, hsl⟩ := hok
    simp only [step] at hs
    have h1 := h.val hp
    split at hs
    · rename_i cs hx
      rw [hx] at h1
      refine Done.map h hdst.1 hdst.2 hs (fun v hv => ?_)
      cases hj : natOf n (σ.val j) with
      | none => rw [hj] at hv; cases hv
      | some jj =>
        rw [hj] at hv
        simp only [Option.bind_some] at hv
        obtain ⟨kk, nn, hz, h0, hlt, rfl⟩ := natOf_some hj (h.val hq)
        obtain ⟨vs, hp', hfit, hvr⟩ := VR.part h1 hv
        refine ⟨_, ?_, hvr⟩
        split at hsl
        · rename_i mm e hu
          simp only [Bool.and_eq_true, decide_eq_true_eq] at hsl
          obtain ⟨rfl, hk⟩ := hsl
          have hk := of_decide_eq_true hk
          obtain ⟨inf, hinf, hisz⟩ := wOf_size hk
          have hrs : (sizeOf e).run P w = .ok (wid k) w := by simp [sizeOf, typeInfo, hinf, hisz]
          have hpart := run_part (P := P) (w := w) hk hfit
          unfold execOp; simp only [hop]; rw [hz, hp']
          simp [Instr.index, asIntOf, run_underlying hu, h0, hlt, hrs, hpart]
        · cases hsl
    · cases hs
  · -- stx
    rename_i d bs j t s q hop
    simp only [I.dst, Bool.and_eq_true, decide_eq_true_eq] at hdst hok
    obtain ⟨⟨hq, rfl⟩, hsl⟩ := hok
    simp only [step] at hs
    refine Done.map h hdst.1 hdst.2 hs (fun v hv => ?_)
    unfold stx at hv
    cases hj : natOf (s.data.toList.map UInt8.toNat).length (σ.val j) with
    | none => rw [hj] at hv; cases hv
    | some jj =>
      rw [hj] at hv
      simp only [Option.bind_some] at hv
      obtain ⟨kk, nn, hz, h0, hlt, rfl⟩ := natOf_some hj (h.val hq)
      obtain ⟨b, hb, rfl⟩ := map_some hv
      rw [List.getElem?_map] at hb
      obtain ⟨u, hu, rfl⟩ := map_some hb
      split at hsl
      · rename_i hut
        have hu' : s[nn.toNat]? = some u := by
          have hlt' : nn.toNat < s.data.toList.length := (List.getElem?_eq_some_iff.1 hu).1
          have hlt2 : nn.toNat < s.size := by simpa using hlt'
          rw [getElem?_pos s nn.toNat hlt2]
          rw [List.getElem?_eq_getElem hlt'] at hu
          simp only [Option.some.injEq] at hu ⊢
          rw [← hu]
          rfl
        refine ⟨.int .u8 u.toNat, ?_, by simp [VR, Den, DenC]⟩
        have he : evalT tmps (.const (.string s)) = .string s := rfl
        unfold execOp; simp only [hop]; rw [hz, he]
        simp [Instr.index, asIntOf, run_underlying hut, h0, hu']
      · cases hsl
  · -- bld
    rename_i d z ps t parts hop
    simp only [I.dst, Bool.and_eq_true, decide_eq_true_eq] at hdst
    simp only [step] at hs
    split at hs
    · rename_i cs hz
      obtain ⟨cs', hf, rfl⟩ := map_some hs
      obtain ⟨v, hr, hvr⟩ := h.bld hok hz hf
      exact Done.value h hdst.1 hdst.2 (by unfold execOp; simp only [hop]; rw [Sem.run_bind, hr]; rfl) hvr
    · cases hs
  · -- bsl
    rename_i d nm s n z ps t len parts hop
    simp only [I.dst, Bool.and_eq_true, decide_eq_true_eq] at hdst hok
    obtain ⟨⟨⟨⟨rfl, hsm⟩, hel⟩, hzo⟩, hps⟩ := hok
    obtain ⟨e, i, zv, hu, hi, his, hib, hz, hzs⟩ := elOk.facts hel
    have hzt := zOk.facts hzo hu hi hz
    simp only [step] at hs
    split at hs
    · rename_i ts ns t' e1 e2
      split at hs
      · rename_i es e3
        unfold flatFill at e3
        split at e3
        · cases e3
        obtain ⟨g', w', v, hr, R, Ad, hup⟩ := h.bsl hu hi hz his hzs hsm (okZt.den hzt e2) hps hdst.2 e1 e3 hs
        exact Done.of hdst.1 (by unfold execOp; simp only [hop]; rw [Sem.run_bind, hr]; rfl) R Ad hup
      · cases hs
    · cases hs
  · -- mks
    rename_i d nm s x y z t p q hop
    simp only [I.dst, Bool.and_eq_true, decide_eq_true_eq] at hdst hok
    obtain ⟨⟨⟨hp, hq⟩, hel⟩, hzo⟩ := hok
    obtain ⟨e, i, zv, hu, hi, his, hib, hz, hzs⟩ := elOk.facts hel
    have hzt := zOk.facts hzo hu hi hz
    simp only [step] at hs
    split at hs
    · rename_i n c t' e1 e2 e3
      split at hs
      · rename_i hnc
        obtain ⟨g', w', v, hr, R, Ad, hup⟩ := h.mks hu hi hz his hib hzs (okZt.den hzt e3) (h.val hp) (h.val hq) hdst.2 e1 e2 hnc hs
        exact Done.of hdst.1 (by unfold execOp; simp only [hop]; rw [Sem.run_bind, hr]; rfl) R Ad hup
      · cases hs
    · cases hs
  · -- slc
    rename_i d s x lo hi mx t p l hh m hop
    simp only [I.dst, Bool.and_eq_true, decide_eq_true_eq] at hdst hok
    obtain ⟨⟨⟨⟨⟨hp, h1⟩, h2⟩, h3⟩, hsl⟩, hmx⟩ := hok
    obtain ⟨e, hu, hsz⟩ := slSz.facts hsl
    refine Done.map h hdst.1 hdst.2 hs (fun v hv => ?_)
    obtain ⟨u, hr, hvr⟩ := Rel.slc hu hsz (h.val hp) (okXo.v h h1) (okXo.v h h2) (okXo.v h h3) (by
      cases mx <;> cases hi <;> simp at hmx ⊢) hv
    exact ⟨u, by unfold execOp; simp only [hop]; rw [Sem.run_bind, hr]; rfl, hvr⟩
  · -- len
    rename_i d x as ts hop
    simp only [I.dst, Bool.and_eq_true, decide_eq_true_eq] at hdst
    split at hok
    · rename_i p t has hts
      simp only [Bool.and_eq_true] at hok
      have has := Array.of_toList1 has
      have hts := Array.of_toList1 hts
      subst has; subst hts
      obtain ⟨e, hu⟩ := isSl.facts hok.2
      simp only [step] at hs
      obtain ⟨n, hn, rfl⟩ := map_some hs
      obtain ⟨A, c, hx⟩ := VR.len (h.val hok.1) hn
      obtain ⟨cs, hr⟩ := run_call (P := P) (w := w) (tmps := tmps) hop
      refine Done.value h hdst.1 hdst.2 (x := .int .i64 n) ?_ (VR.dInt _ _)
      rw [hr]
      simp [builtin, Builtin.len_, run_underlying hu, hx, goInt]
    · cases hok
  · -- max
    rename_i d x xs as ts hop
    simp only [I.dst, Bool.and_eq_true, decide_eq_true_eq] at hdst
    refine Done.map h hdst.1 hdst.2 hs (fun v hv => ?_)
    have hvs := h.vals hok
    obtain ⟨z, zs, hz, h1, h2⟩ := hvs
    obtain ⟨y, hy, hvy⟩ := run_max (P := P) (gr := true) _ _ _ _ _ h1 h2 hv
    obtain ⟨cs, hr⟩ := run_call (P := P) (w := w) (tmps := tmps) hop
    refine ⟨y, ?_, hvy⟩
    rw [hr]
    simp only [builtin, Builtin.max_, Array.toList_map, hz, Sem.run_bind]
    rw [hy]; rfl
  · -- min
    rename_i d x xs as ts hop
    simp only [I.dst, Bool.and_eq_true, decide_eq_true_eq] at hdst
    refine Done.map h hdst.1 hdst.2 hs (fun v hv => ?_)
    have hvs := h.vals hok
    obtain ⟨z, zs, hz, h1, h2⟩ := hvs
    obtain ⟨y, hy, hvy⟩ := run_max (P := P) (gr := false) _ _ _ _ _ h1 h2 hv
    obtain ⟨cs, hr⟩ := run_call (P := P) (w := w) (tmps := tmps) hop
    refine ⟨y, ?_, hvy⟩
    rw [hr]
    simp only [builtin, Builtin.min_, Array.toList_map, hz, Sem.run_bind]
    rw [hy]; rfl
  · -- app
    rename_i d nm s x y as ts hop
    simp only [I.dst, Bool.and_eq_true, decide_eq_true_eq] at hdst
    split at hok
    · rename_i p q t u' has hts
      simp only [Bool.and_eq_true] at hok
      obtain ⟨⟨⟨hp, hq⟩, hel⟩, hsl⟩ := hok
      have has := Array.of_toList2 has
      have hts := Array.of_toList2 hts
      subst has; subst hts
      obtain ⟨e, i, zv, hu, hi, his, hib, hz, hzs⟩ := elOk.facts hel
      obtain ⟨e', hu'⟩ := isSl.facts hsl
      obtain ⟨cs, hr⟩ := run_call (P := P) (w := w) (tmps := tmps) hop
      obtain ⟨g', w', v, hrun, R, Ad, hup⟩ := h.app (ty := o.type) hu hu' hi hz his hzs hib (h.val hp) (h.val hq) hdst.2 hs
      refine Done.of hdst.1 ?_ R Ad hup
      rw [hr]
      simp only [builtin, List.map_toArray, List.map_cons, List.map_nil, Sem.run_bind]
      rw [hrun]; rfl
    · cases hok
  · -- cpy
    rename_i d s x y as ts hop
    simp only [I.dst, Bool.and_eq_true, decide_eq_true_eq] at hdst
    split at hok
    · rename_i p q t u' has hts
      simp only [Bool.and_eq_true] at hok
      obtain ⟨⟨hp, hq⟩, hsl⟩ := hok
      have has := Array.of_toList2 has
      have hts := Array.of_toList2 hts
      subst has; subst hts
      obtain ⟨e, hu, hsz⟩ := slSz.facts hsl
      obtain ⟨cs, hr⟩ := run_call (P := P) (w := w) (tmps := tmps) hop
      obtain ⟨w', v, hrun, R, Ad, hup⟩ := h.cpy (P := P) (u := u') (ty := o.type) hu hsz (h.val hp) (h.val hq) hdst.2 hs
      refine Done.of hdst.1 ?_ R Ad hup
      rw [hr]
      simp only [builtin, List.map_toArray, List.map_cons, List.map_nil, Sem.run_bind]
      rw [hrun]; rfl
    · cases hok
  · -- clr
    rename_i s x z as ts hop
    simp only [I.dst, decide_eq_true_eq] at hdst
    split at hok
    · rename_i p t has hts
      simp only [Bool.and_eq_true] at hok
      obtain ⟨⟨hp, hel⟩, hzo⟩ := hok
      have has := Array.of_toList1 has
      have hts := Array.of_toList1 hts
      subst has; subst hts
      obtain ⟨e, i, zv, hu, hi, his, hib, hz, hzs⟩ := elOk.facts hel
      have hzt := zOk.facts hzo hu hi hz
      obtain ⟨cs, hr⟩ := run_call (P := P) (w := w) (tmps := tmps) hop
      simp only [step] at hs
      cases hzz : z.t? with
      | none => rw [hzz] at hs; cases hs
      | some zt =>
        rw [hzz] at hs
        simp only [Option.bind_some] at hs
        obtain ⟨w', hrun, R, Ad, hup⟩ := h.clr (P := P) (ty := o.type) hu hi hz hzs (okZt.den hzt hzz) (h.val hp) hs
        refine ⟨g, w', .tuple #[], .inl ?_, by rw [hdst]; exact R, Ad, hup⟩
        rw [hr]
        simp only [builtin, List.map_toArray, List.map_cons, List.map_nil, Sem.run_bind]
        rw [hrun]; rfl
    · cases hok
  · -- xt
    rename_i d x j p k hop
    simp only [I.dst, Bool.and_eq_true, decide_eq_true_eq] at hdst hok
    obtain ⟨hp, rfl⟩ := hok
    have h1 := h.val hp
    simp only [step] at hs
    split at hs
    · rename_i vs hx
      rw [hx] at h1
      refine Done.map h hdst.1 hdst.2 hs (fun v hv => ?_)
      obtain ⟨xs, hxe, hxs⟩ := h1
      obtain ⟨y, hy, hvy⟩ := VRs.get _ _ _ _ hxs hv
      refine ⟨y, ?_, hvy⟩
      unfold execOp; simp only [hop]; rw [hxe]
      simp [Instr.extract, hy]
    · cases hs
  · -- fn
    rename_i d f xs f' first caps hop
    simp only [I.dst, Bool.and_eq_true, decide_eq_true_eq] at hdst hok
    simp only [step, Option.some.injEq] at hs; subst hs
    simp only [Bool.or_eq_true, Bool.and_eq_true, decide_eq_true_eq] at hok
    rcases hok with ⟨⟨⟨rfl, hlt⟩, hf⟩, hxs⟩ | ⟨⟨⟨rfl, hlt⟩, hf⟩, hxs⟩
    · refine Done.value h hdst.1 hdst.2 (x := .func (.func f) #[] (caps.map (evalT tmps))) ?_ ⟨(caps.toList.map (evalT tmps)), ?_, h.vals hxs⟩
      · unfold execOp; simp only [hop]
        have : first = #[] := Array.eq_empty_of_size_eq_zero hf
        subst this
        simp [Instr.makeFunc]
      · rw [clV_small hlt]
        congr 1
        apply Array.ext'; simp
    · refine Done.value h hdst.1 hdst.2 (x := .func (.func f') (first.map (evalT tmps)) #[]) ?_ ⟨(first.toList.map (evalT tmps)), ?_, h.vals hxs⟩
      · unfold execOp; simp only [hop]
        have : caps = #[] := Array.eq_empty_of_size_eq_zero hf
        subst this
        simp [Instr.makeFunc]
      · rw [clV_big hlt]
        congr 1
        apply Array.ext'; simp
  · -- chk
    rename_i d x p hop
    simp only [I.dst, Bool.and_eq_true, decide_eq_true_eq] at hdst
    have h1 := h.val hok
    simp only [step] at hs
    refine Done.map h hdst.1 hdst.2 hs (fun v hv => ?_)
    unfold chkV at hv
    split at hv
    · rename_i l n oo hx
      cases hv
      rw [hx] at h1
      obtain ⟨h2, h3⟩ := h1
      obtain ⟨b, o, h4, h5⟩ := h3.shape
      refine ⟨evalT tmps p, ?_, by rw [h4]; exact ⟨h2, h5 _⟩⟩
      unfold execOp; simp only [hop]; rw [h4]; rfl
    · rename_i f cs hx
      split at hv
      · cases hv
      rename_i hn
      cases hv
      rw [hx] at h1
      obtain ⟨vs, h4, h5⟩ := h1
      refine ⟨evalT tmps p, ?_, by rw [h4]; exact ⟨vs, rfl, h5⟩⟩
      obtain ⟨_, _, _, e⟩ := clV_cases (by rw [hn]; simp) vs
      unfold execOp; simp only [hop]; rw [h4, e]; rfl
    · cases hv
  · -- ixv
    rename_i d x j t p q hop
    simp only [I.dst, Bool.and_eq_true, decide_eq_true_eq] at hdst hok
    obtain ⟨⟨hp, hq⟩, hsl⟩ := hok
    obtain ⟨e, hu, hsz⟩ := slSz.facts hsl
    refine Done.map h hdst.1 hdst.2 hs (fun v hv => ?_)
    obtain ⟨u, hr, hvr⟩ := Rel.ixv hu hsz (h.val hp) (h.val hq) hv
    exact ⟨u, by unfold execOp; simp only [hop]; rw [Sem.run_bind, hr]; rfl, hvr⟩
  · -- bsv
    rename_i d nm xs t len parts hop
    simp only [I.dst, Bool.and_eq_true, decide_eq_true_eq] at hdst hok
    obtain ⟨⟨⟨⟨⟨hel, rfl⟩, h0⟩, hsm⟩, hidx⟩, hps⟩ := hok
    obtain ⟨e, i, zv, hu, hi, his, hib, hz, hzs⟩ := elOk.facts hel
    simp only [step] at hs
    split at hs
    · rename_i hone
      have hvs := h.vals hps
      obtain ⟨g', w', v, hr, R, Ad, hup⟩ := h.bsv (P := P) hu hi hz his hzs hvs (by simp [St.vals]) h0 hsm hone hdst.2 hs
      refine Done.of hdst.1 ?_ R Ad hup
      have hparts : (parts.map fun (i, x) => (i, evalT tmps x)) = ((List.range xs.length).zip ((parts.toList.map (·.2)).map (evalT tmps))).toArray := by
        apply Array.ext'
        rw [← hidx, Array.toList_map, List.map_map]
        exact (zip_map_fst (evalT tmps) parts.toList).symm
      unfold execOp; simp only [hop]; rw [hparts, Sem.run_bind, hr]; rfl
    · cases hs
  · -- apv
    rename_i d nm x y as ts hop
    simp only [I.dst, Bool.and_eq_true, decide_eq_true_eq] at hdst
    split at hok
    · rename_i p q t u' has hts
      simp only [Bool.and_eq_true] at hok
      obtain ⟨⟨⟨⟨hp, hq⟩, hel⟩, hsl⟩, hzo⟩ := hok
      have has := Array.of_toList2 has
      have hts := Array.of_toList2 hts
      subst has; subst hts
      obtain ⟨e, i, zv, hu, hi, his, hib, hz, hzs⟩ := elOk.facts hel
      obtain ⟨e', hu'⟩ := isSl.facts hsl
      have hz1 : ∀ y ∈ zv.cells.toList, y.oneCell' = true := by
        have hzt := okZt.den (ok := g.ok) (w := w) (zOk.facts hzo hu hi hz) (t := .lst 1 []) rfl
        have h1 : zv.cells.toList.length = 1 := by rw [Array.length_toList, hzs]
        generalize zv.cells.toList = l at hzt h1
        match l, h1 with
        | [v], _ => intro y hy; rw [List.mem_singleton.1 hy]; exact DenC.one rfl hzt
      obtain ⟨cs, hr⟩ := run_call (P := P) (w := w) (tmps := tmps) hop
      obtain ⟨g', w', v, hrun, R, Ad, hup⟩ := h.apv (ty := o.type) hu hu' hi hz his hzs hz1 hib (h.val hp) (h.val hq) hdst.2 hs
      refine Done.of hdst.1 ?_ R Ad hup
      rw [hr]
      simp only [builtin, List.map_toArray, List.map_cons, List.map_nil, Sem.run_bind]
      rw [hrun]; rfl
    · cases hok
  · -- mkl
    rename_i d l nm s x y z t p q hop
    simp only [I.dst, Bool.and_eq_true, decide_eq_true_eq] at hdst hok
    obtain ⟨⟨⟨hp, hq⟩, hel⟩, hzo⟩ := hok
    obtain ⟨e, i, zv, hu, hi, his, hib, hz, hzs⟩ := elOk.facts hel
    have hzt := zOk.facts hzo hu hi hz
    simp only [step] at hs
    split at hs
    · rename_i n c t' e1 e2 e3
      split at hs
      · rename_i hnc
        obtain ⟨g', w', v, hr, R, Ad, hup⟩ := h.mkl hu hi hz his hib hzs (okZt.den hzt e3) (h.val hp) (h.val hq) hdst.2 e1 e2 hnc hs
        exact Done.of hdst.1 (by unfold execOp; simp only [hop]; rw [Sem.run_bind, hr]; rfl) R Ad hup
      · cases hs
    · cases hs
  · -- apl
    rename_i d l nm s x y as ts hop
    simp only [I.dst, Bool.and_eq_true, decide_eq_true_eq] at hdst
    split at hok
    · rename_i p q t u' has hts
      simp only [Bool.and_eq_true] at hok
      obtain ⟨⟨⟨hp, hq⟩, hel⟩, hsl⟩ := hok
      have has := Array.of_toList2 has
      have hts := Array.of_toList2 hts
      subst has; subst hts
      obtain ⟨e, i, zv, hu, hi, his, hib, hz, hzs⟩ := elOk.facts hel
      obtain ⟨e', hu'⟩ := isSl.facts hsl
      obtain ⟨cs, hr⟩ := run_call (P := P) (w := w) (tmps := tmps) hop
      obtain ⟨g', w', v, hrun, R, Ad, hup⟩ := h.apl (ty := o.type) hu hu' hi hz his hzs hib (h.val hp) (h.val hq) hdst.2 hs
      refine Done.of hdst.1 ?_ R Ad hup
      rw [hr]
      simp only [builtin, List.map_toArray, List.map_cons, List.map_nil, Sem.run_bind]
      rw [hrun]; rfl
    · cases hok
  · cases hok
end
end Go.Proofs.YtcgjebaomhfbdaaGreat.Vm

