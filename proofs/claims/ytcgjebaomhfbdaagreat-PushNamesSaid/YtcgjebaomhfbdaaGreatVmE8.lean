/- Runs by computing, quickest: operations and code. -/
import Derived.Test.YtcgjebaomhfbdaaGreatVmE7
namespace Go.Proofs.YtcgjebaomhfbdaaGreat.Vm
open Go
section
variable {E : Env} {K : Tab}
noncomputable def XC.all (xs : List X) : List XC := mapR compX xs
noncomputable def runXs (xs : List XC) (τ : StF) : List V := mapR (fun c => XC.rec (motive := fun _ => V) (fun f => f τ) c) xs
theorem runXs_eq (xs : List X) (τ : StF) : runXs (XC.all xs) τ = valsF xs τ := by
  induction xs with
  | nil => rfl
  | cons x xs ih =>
    show XC.rec (motive := fun _ => V) (fun f => f τ) (compX x) :: runXs (XC.all xs) τ = valF x τ :: valsF xs τ
    rw [ih, ← compX_f]
    cases compX x; rfl
noncomputable def fadR (x : V) (off w : Nat) : Option V :=
  vC x none (fun _ _ => none) (fun _ _ => none) (fun _ => none) (fun _ _ _ _ _ => none) (fun l n o => some (.ptr l n (Nat.add o off))) (fun l n i o => some (.rel l n i (Nat.add o off))) (fun _ => fad x off w) (fun _ => none) (fun _ _ => none)
theorem fadR_eq (x : V) (off w : Nat) : fadR x off w = fad x off w := by cases x <;> rfl
noncomputable def chkR (x : V) : Option V :=
  vC x none (fun _ _ => none) (fun _ _ => none) (fun _ => none) (fun _ _ _ _ _ => none) (fun l n o => some (.ptr l n o)) (fun _ _ _ _ => none) (fun _ => none) (fun _ => none) (fun f cs => bC (Nat.ble nilF f) (some (.cl f cs)) none)
theorem chkR_eq (x : V) : chkR x = chkV x := by
  cases x with
  | cl f cs => show bC (Nat.ble nilF f) (some (.cl f cs)) none = match Nat.ble nilF f with | true => none | false => some (V.cl f cs); cases Nat.ble nilF f <;> rfl
  | _ => rfl
noncomputable def lenOfR (x : V) : Option Nat :=
  vC x none (fun _ t => tL t none fun _ es => some (lenR es)) (fun _ t => tL t none fun _ es => some (lenR es)) (fun _ => some 0) (fun _ _ _ len _ => some len) (fun _ _ _ => none) (fun _ _ _ _ => none) (fun _ => none) (fun _ => none) (fun _ _ => none)
theorem lenOfR_eq (x : V) : lenOfR x = lenOf x := by
  cases x with
  | d p t => cases t <;> first | rfl | (show some (lenR _) = some _; rw [lenR_eq])
  | dx p t => cases t <;> first | rfl | (show some (lenR _) = some _; rw [lenR_eq])
  | _ => rfl
noncomputable def ixR (τ : StF) (x i : V) (s : Nat) : Option V :=
  vC x none (fun _ t => tL t none fun s' es => bC (Nat.beq s s') none (oC (natR (lenR es) i) none fun j => oC (nthR es j) none fun e => some (.pd e)))
    (fun _ _ => τ.core.ix x i s) (fun _ => none)
    (fun l n lo len s' => bC (Nat.beq s s') none (oC (natR len i) none fun j => oC (objR τ.ob τ.up l n) none fun o => obC o none (fun _ => none)
      (fun _ es _ => bC (Nat.ble (Nat.add lo len) (lenR es)) none (some (.rel l n (Nat.add lo j) 0))) (fun _ es => bC (Nat.ble (Nat.add lo len) (lenR es)) none (some (.rel l n (Nat.add lo j) 0)))))
    (fun _ _ _ => none) (fun _ _ _ _ => none) (fun _ => none) (fun _ => none) (fun _ _ => none)
theorem beq_dec (m n : Nat) : Nat.beq m n = decide (m = n) := by
  by_cases h : m = n
  · subst h; simp
  · rw [decide_eq_false h]
    cases hb : Nat.beq m n with
    | false => rfl
    | true => exact absurd (Nat.eq_of_beq_eq_true hb) h
theorem bC_dec {β : Type} (p : Prop) [Decidable p] (f t : β) : bC (decide p) f t = if p then t else f := by
  by_cases h : p
  · rw [decide_eq_true h, if_pos h]; rfl
  · rw [decide_eq_false h, if_neg h]; rfl
theorem ixR_eq (τ : StF) (x i : V) (s : Nat) : ixR τ x i s = τ.core.ix x i s := by
  cases x with
  | d p t =>
    cases t with
    | lst s' es =>
      show bC (Nat.beq s s') none (oC (natR (lenR es) i) none fun j => oC (nthR es j) none fun e => some (V.pd e)) = _
      rw [beq_dec, bC_dec, natR_eq, lenR_eq]
      simp only [St.ix, nthR_eq]
      by_cases h : s = s'
      · rw [if_pos h, if_pos h]
        cases natOf es.length i with
        | none => rfl
        | some j => show oC es[j]? none _ = _; simp only [Option.bind_some]; cases es[j]? <;> rfl
      · rw [if_neg h, if_neg h]
    | _ => rfl
  | row l n lo len s' =>
    show bC (Nat.beq s s') none (oC (natR len i) none fun j => oC (objR τ.ob τ.up l n) none fun o => obC o none (fun _ => none)
      (fun _ es _ => bC (Nat.ble (Nat.add lo len) (lenR es)) none (some (V.rel l n (Nat.add lo j) 0))) (fun _ es => bC (Nat.ble (Nat.add lo len) (lenR es)) none (some (V.rel l n (Nat.add lo j) 0)))) = _
    rw [beq_dec, bC_dec, natR_eq, objR_eq]
    simp only [St.ix, ble_dec, bC_dec, lenR_eq]
    by_cases h : s = s'
    · rw [if_pos h, if_pos h]
      cases natOf len i with
      | none => rfl
      | some j =>
        simp only [oC_some, Option.bind_some]
        cases τ.core.obj l n with
        | none => rfl
        | some o => cases o <;> rfl
    · rw [if_neg h, if_neg h]
  | _ => rfl
noncomputable def elsR (τ : StF) (s : Nat) (y : V) : Option (List T) :=
  vC y none (fun _ t => tL t none fun s' es => bC (Nat.beq s s') none (some es)) (fun _ _ => τ.core.els s y) (fun _ => some [])
    (fun l n lo len s' => bC (Nat.beq s s') none (oC (objR τ.ob τ.up l n) none fun o => obC o none (fun _ => none)
      (fun _ es _ => bC (Nat.ble (Nat.add lo len) (lenR es)) none (some (takeR (dropR es lo) len))) (fun _ es => bC (Nat.ble (Nat.add lo len) (lenR es)) none (some (takeR (dropR es lo) len)))))
    (fun _ _ _ => none) (fun _ _ _ _ => none) (fun _ => none) (fun _ => none) (fun _ _ => none)
theorem elsR_eq (τ : StF) (s : Nat) (y : V) : elsR τ s y = τ.core.els s y := by
  cases y with
  | d p t =>
    cases t with
    | lst s' es => show bC (Nat.beq s s') none (some es) = _; rw [beq_dec, bC_dec]; rfl
    | _ => rfl
  | row l n lo len s' =>
    show bC (Nat.beq s s') none (oC (objR τ.ob τ.up l n) none fun o => obC o none (fun _ => none)
      (fun _ es _ => bC (Nat.ble (Nat.add lo len) (lenR es)) none (some (takeR (dropR es lo) len))) (fun _ es => bC (Nat.ble (Nat.add lo len) (lenR es)) none (some (takeR (dropR es lo) len)))) = _
    rw [beq_dec, bC_dec, objR_eq]
    simp only [St.els, St.rowOf, ble_dec, bC_dec, lenR_eq, takeR_eq, dropR_eq]
    by_cases h : s = s'
    · rw [if_pos h, if_pos h]
      cases τ.core.obj l n with
      | none => rfl
      | some o => cases o <;> rfl
    · rw [if_neg h, if_neg h]
  | _ => rfl
/-- appending to a row -/
noncomputable def apR (τ : StF) (d nm s : Nat) (x y : V) : Option StF :=
  vC x (stepF (.app d nm s (.c x) (.c y)) τ) (fun _ _ => none) (fun _ _ => stepF (.app d nm s (.c x) (.c y)) τ) (fun _ => stepF (.app d nm s (.c x) (.c y)) τ)
    (fun l n lo len s' => oC (elsR τ s y) none fun ys => bC (Nat.beq s s') none (oC (objR τ.ob τ.up l n) none fun o => obC o none (fun _ => none)
      (fun _ es _ => bC (Nat.beq len (lenR es)) none (bC (Nat.ble (Nat.add len (lenR ys)) big) none (bC (Nat.beq lo 0) none
        (some (setR (setObR l n (.rw s (appR es ys) true) τ) d (.row l n lo (Nat.add len (lenR ys)) s)))))) (fun _ _ => none)))
    (fun _ _ _ => none) (fun _ _ _ _ => none) (fun _ => none) (fun _ => none) (fun _ _ => none)
theorem apR_eq (τ : StF) (d nm s : Nat) (x y : V) : apR τ d nm s x y = stepF (.app d nm s (.c x) (.c y)) τ := by
  cases x with
  | row l n lo len s' =>
    show oC (elsR τ s y) none (fun ys => bC (Nat.beq s s') none (oC (objR τ.ob τ.up l n) none fun o => obC o none (fun _ => none)
      (fun _ es _ => bC (Nat.beq len (lenR es)) none (bC (Nat.ble (Nat.add len (lenR ys)) big) none (bC (Nat.beq lo 0) none
        (some (setR (setObR l n (.rw s (appR es ys) true) τ) d (.row l n lo (Nat.add len (lenR ys)) s)))))) (fun _ _ => none))) =
      match appN τ.core s nm (.row l n lo len s') y with
      | some (l, n, o, v) => some (putO d l n o v τ)
      | none => none
    rw [elsR_eq]
    unfold appN
    cases τ.core.els s y with
    | none => rfl
    | some ys =>
      simp only [oC_some, objR_eq, beq_dec, bC_dec, ble_dec, lenR_eq, appR_eq, setR_eq, setObR_eq]
      by_cases h : s = s'
      · rw [if_pos h, if_pos h]
        cases τ.core.obj l n with
        | none => rfl
        | some o => cases o with
          | rw s1 es gr =>
            show (if len = es.length then (if Nat.add len ys.length ≤ big then (if lo = 0 then _ else none) else none) else none) = _
            simp only
            by_cases h1 : len = es.length
            · subst h1
              rw [if_pos rfl]
              by_cases h2 : es.length + ys.length ≤ big
              · rw [if_pos (show Nat.add es.length ys.length ≤ big from h2)]
                by_cases h3 : lo = 0
                · rw [if_pos h3, if_pos ⟨rfl, h2, h3⟩]; rfl
                · rw [if_neg h3, if_neg (fun h => h3 h.2.2)]
              · rw [if_neg (show ¬ Nat.add es.length ys.length ≤ big from h2), if_neg (fun h => h2 h.2.1)]
            · rw [if_neg h1, if_neg (fun h => h1 h.1)]
          | _ => rfl
      · rw [if_neg h, if_neg h]
  | d p t =>
    show none = match appN τ.core s nm (.d p t) y with
      | some (l, n, o, v) => some (putO d l n o v τ)
      | none => none
    unfold appN
    cases τ.core.els s y <;> rfl
  | _ => first | rfl | (
    simp only [stepF, valF, appN]
    cases τ.core.els s y <;> rfl)
noncomputable def pickR (τ : StF) (d : Nat) (c a b : V) : Option StF := vD c none fun _ t => tB t none fun t => some (setR τ d (bC t b a))
theorem pickR_eq (τ : StF) (d : Nat) (c a b : X) : pickR τ d (valF c τ) (valF a τ) (valF b τ) = stepF (.pick d c a b) τ := by
  simp only [stepF]
  cases valF c τ with
  | d p t => cases t with
    | bool t => cases t <;> (show some (setR τ d _) = some (τ.set d _); rw [setR_eq]; rfl)
    | _ => rfl
  | _ => rfl
noncomputable def unR (τ : StF) (d : Nat) (x : V) : Option StF := vD x none fun _ t => tB t none fun b => some (setR τ d (.d true (.bool (notR b))))
noncomputable def dataR (τ : StF) (v : V) : Option (T × List Nat) :=
  vC v (τ.core.toTQ v) (fun p t => bC p none (some (t, []))) (fun _ _ => τ.core.toTQ v) (fun s => some (.lst s [], [])) (fun _ _ _ _ _ => τ.core.toTQ v) (fun _ _ _ => none) (fun _ _ _ _ => none) (fun _ => none) (fun _ => τ.core.toTQ v) (fun _ _ => none)
theorem dataR_eq (τ : StF) (v : V) : dataR τ v = τ.core.toT v := by
  rw [← toTQ_eq]
  cases v with
  | d p t => cases p with
    | true => rfl
    | false => simp [St.toTQ, St.toT1Q, St.toT, dataR, vC, bC]
  | nil s => rfl
  | row => rfl
  | dx => rfl
  | ag => rfl
  | tp => rfl
  | u => rfl
  | ptr => simp [St.toTQ, St.toT1Q, St.toT, dataR, vC]
  | rel => simp [St.toTQ, St.toT1Q, St.toT, dataR, vC]
  | pd => simp [St.toTQ, St.toT1Q, St.toT, dataR, vC]
  | cl => simp [St.toTQ, St.toT1Q, St.toT, dataR, vC]
noncomputable def datasR (τ : StF) (vs : List V) : Option (List T × List Nat) := List.rec (motive := fun _ => Option (List T × List Nat)) (some ([], [])) (fun v _ ih => oC (dataR τ v) none fun p => oC ih none fun q => some (p.1 :: q.1, appR p.2 q.2)) vs
theorem datasR_eq (τ : StF) : ∀ vs : List V, datasR τ vs = τ.core.toTs vs
  | [] => rfl
  | v :: vs => by
    show oC (dataR τ v) none (fun p => oC (datasR τ vs) none fun q => some (p.1 :: q.1, appR p.2 q.2)) = _
    rw [dataR_eq, datasR_eq τ vs]
    simp only [St.toTs, appR_eq]
    cases τ.core.toT v with
    | none => rfl
    | some p => cases τ.core.toTs vs <;> rfl
/-- a literal slice -/
noncomputable def bslR (τ : StF) (d nm s n : Nat) (z : Option T) (is : List Nat) (vs : List V) : Option StF :=
  oC (datasR τ vs) none fun p => oC z none fun t => oC (flatFill t p.1 (fillT (List.replicate n t) s (is.zip p.1))) none fun es =>
    oC ((τ.core.frz p.2).newQ nm (.rw s es false)) none fun ρ => some (setR (τ.put ρ) d (.row 0 nm 0 n s))
theorem bslR_eq (τ : StF) (d nm s n : Nat) (z : Z) (ps : List (Nat × X)) : bslR τ d nm s n z.t? (ps.map (·.1)) (ps.map fun p => valF p.2 τ) = stepF (.bsl d nm s n z ps) τ := by
  simp only [stepF, bslR, datasR_eq, newQ_eq, setR_eq]
  cases τ.core.toTs (ps.map fun p => valF p.2 τ) with
  | none => rfl
  | some p =>
    obtain ⟨ts, ns⟩ := p
    cases z.t? with
    | none => rfl
    | some t =>
      simp only [oC_some]
      cases flatFill t ts (fillT (List.replicate n t) s ((ps.map (·.1)).zip ts)) with
      | none => rfl
      | some es =>
        simp only [oC_some]
        cases (τ.core.frz ns).new nm (.rw s es false) <;> rfl
/-- behind a call from inside that hands back data -/
noncomputable def backR (τ τc : StF) (v : V) : Option (V × StF) := lC τc.up none fun ob up => oC (vD v (dat false τc.core v) fun p t => some (.d p t, [])) none fun r => some (r.1, ⟨τ.n, τ.t, ob, up⟩)
theorem backR_eq (τ τc : StF) (v : V) : backR τ τc v = backF false τ τc v none := by
  have e : (vD v (dat false τc.core v) fun p t => some (.d p t, [])) = dat false τc.core v := by
    cases v with
    | d p t => simp [vD, dat, dat2, dat1]
    | _ => rfl
  unfold backR backF leaveF
  rw [e]
  cases τc.up with
  | nil => rfl
  | cons ob up => cases dat false τc.core v <;> rfl
noncomputable def callR (call : Caller) (τ : StF) (d f : Nat) (vs : List V) : Option StF := oC (call f (shiftsR2 1 vs) (τ.ob :: τ.up)) none fun p => oC (backR τ p.2 p.1) none fun q => some (setR q.2 d q.1)
theorem callR_eq {f : Nat} {F : Fn} (hF : E.fn f = some F) (hp : F.pure = none) (call : Caller) (τ : StF) (d : Nat) (as : List X) : callR call τ d f (valsF as τ) = opF E K (.call d f as none) call τ := by
  unfold callR
  rw [shiftsR2_eq]
  show _ = match callRunF E K call τ f (valsF as τ) none with
    | some (w, τ₁) => some (τ₁.set d w)
    | none => none
  unfold callRunF
  rw [hF]
  simp only [hp]
  cases call f (V.shifts 1 (valsF as τ)) (τ.ob :: τ.up) with
  | none => rfl
  | some p =>
    simp only [oC_some, backR_eq]
    cases backF false τ p.2 p.1 none with
    | none => rfl
    | some q => show some (setR q.2 d q.1) = some (q.2.set d q.1); rw [setR_eq]
noncomputable def ptC (p : Option (List Bool)) {β : Type} (n s : β) : β := match p with
  | none => n
  | some _ => s
noncomputable def stepR (E : Env) (K : Tab) (i : I) : OpC := match i with
  | .mv d x => (compX x).go fun fx => .mk fun _ τ => some (setR τ d (fx τ))
  | .bin d op x y => match compA op with
    | some c => match c with
      | .mk f => (compX x).go fun fx => (compX y).go fun fy => .mk fun _ τ => putR d (binR f (fx τ) (fy τ)) τ
    | none => stepC E K (.bin d op x y)
  | .load d x w => (compX x).go fun fx => .mk fun _ τ => putR d (loadR τ (fx τ) w) τ
  | .store x y w => (compX x).go fun fx => (compX y).go fun fy => .mk fun _ τ => storeR τ (fx τ) (fy τ) w
  | .fad d x off w => (compX x).go fun fx => .mk fun _ τ => putR d (fadR (fx τ) off w) τ
  | .chk d x => (compX x).go fun fx => .mk fun _ τ => putR d (chkR (fx τ)) τ
  | .ix d x i s => (compX x).go fun fx => (compX i).go fun fi => .mk fun _ τ => putR d (ixR τ (fx τ) (fi τ) s) τ
  | .len d x => (compX x).go fun fx => .mk fun _ τ => oC (lenOfR (fx τ)) none fun n => some (setR τ d (.d true (.int .i64 (.ofNat n))))
  | .pick d c a b => (compX c).go fun fc => (compX a).go fun fa => (compX b).go fun fb => .mk fun _ τ => pickR τ d (fc τ) (fa τ) (fb τ)
  | .un d op x => match op with
    | .not => (compX x).go fun fx => .mk fun _ τ => vD (fx τ) none fun p t => tB t (stepF (.un d .not (.c (.d p t))) τ) fun b => some (setR τ d (.d true (.bool (notR b))))
    | op => stepC E K (.un d op x)
  | .app d nm s x y => (compX x).go fun fx => (compX y).go fun fy => .mk fun _ τ => apR τ d nm s (fx τ) (fy τ)
  | .bsl d nm s n z ps => .mk fun _ τ => bslR τ d nm s n z.t? (ps.map (·.1)) (mapR (fun p => XC.rec (motive := fun _ => V) (fun f => f τ) (compX p.2)) ps)
  | .call d f as none => match E.fn f with
    | some F => match F.pure with
      | none => .mk fun call τ => callR call τ d f (runXs (XC.all as) τ)
      | some _ => stepC E K (.call d f as none)
    | none => stepC E K (.call d f as none)
  | i => stepC E K i
theorem stepR_f (i : I) : (stepR E K i).f = opF E K i := by
  unfold stepR
  split
  · funext call τ; rw [XC.go_eq]; show some (setR τ _ _) = some (τ.set _ _); rw [setR_eq, compX_f]
  · rename_i d op x y
    split
    · rename_i c hc
      cases c with
      | mk f =>
        funext call τ
        show ((compX x).go fun fx => (compX y).go fun fy => OpC.mk fun _ τ => putR d (binR f (fx τ) (fy τ)) τ).f call τ = _
        rw [XC.go_eq, XC.go_eq]
        show putR d (binR f ((compX x).f τ) ((compX y).f τ)) τ = putV d (binF op (valF x τ) (valF y τ)) τ
        rw [putR_eq, compX_f, compX_f, binF_eq, ← binR_eq hc]; rfl
    · exact stepC_f _
  · funext call τ; rw [XC.go_eq]; show putR _ (loadR τ _ _) τ = putV _ (τ.core.load _ _) τ; rw [putR_eq, compX_f, loadR_eq]
  · funext call τ; rw [XC.go_eq, XC.go_eq]; show storeR τ _ _ _ = putS (τ.core.store _ _ _) τ; rw [compX_f, compX_f, storeR_eq]
  · funext call τ; rw [XC.go_eq]; show putR _ (fadR _ _ _) τ = putV _ (fad _ _ _) τ; rw [putR_eq, compX_f, fadR_eq]
  · rename_i d x
    funext call τ; rw [XC.go_eq]
    show putR d (chkR ((compX x).f τ)) τ = putV d (chkV (valF x τ)) τ
    rw [putR_eq, compX_f, chkR_eq]
  · funext call τ; rw [XC.go_eq, XC.go_eq]; show putR _ (ixR τ _ _ _) τ = putV _ (ixF τ.core _ _ _) τ; rw [putR_eq, compX_f, compX_f, ixR_eq, ixF_eq]
  · rename_i d x
    funext call τ; rw [XC.go_eq]
    show oC (lenOfR ((compX x).f τ)) none (fun n => some (setR τ d (.d true (.int .i64 (.ofNat n))))) = match lenOf (valF x τ) with
      | some n => some (τ.set d (.d true (.int .i64 (.ofNat n))))
      | none => none
    rw [compX_f, lenOfR_eq]
    simp only [setR_eq]
    cases lenOf (valF x τ) <;> rfl
  · rename_i d c a b
    funext call τ; rw [XC.go_eq, XC.go_eq, XC.go_eq]
    show pickR τ d ((compX c).f τ) ((compX a).f τ) ((compX b).f τ) = stepF (.pick d c a b) τ
    rw [compX_f, compX_f, compX_f, pickR_eq]
  · rename_i d op x
    split
    · funext call τ; rw [XC.go_eq]
      show vD ((compX x).f τ) none (fun p t => tB t (stepF (.un d .not (.c (.d p t))) τ) fun b => some (setR τ d (.d true (.bool (notR b))))) = putV d (un .not (valF x τ)) τ
      rw [compX_f]
      cases valF x τ with
      | d p t => cases t with
        | bool b => show some (setR τ d (.d true (.bool (notR b)))) = some (τ.set d (dBool (!b))); rw [setR_eq, notR_eq]
        | _ => rfl
      | _ => rfl
    · exact stepC_f _
  · rename_i d nm s x y
    funext call τ; rw [XC.go_eq, XC.go_eq]
    show apR τ d nm s ((compX x).f τ) ((compX y).f τ) = stepF (.app d nm s x y) τ
    rw [compX_f, compX_f, apR_eq]; rfl
  · rename_i d nm s n z ps
    funext call τ
    show bslR τ d nm s n z.t? (ps.map (·.1)) (mapR (fun p => XC.rec (motive := fun _ => V) (fun f => f τ) (compX p.2)) ps) = stepF (.bsl d nm s n z ps) τ
    rw [← bslR_eq, mapR_eq]
    congr 1
    refine List.map_congr_left fun p _ => ?_
    rw [← compX_f]
    cases compX p.2; rfl
  · rename_i d f as
    split
    · rename_i F hF
      split
      · rename_i hp
        funext call τ
        show callR call τ d f (runXs (XC.all as) τ) = _
        rw [runXs_eq]
        exact callR_eq hF hp call τ d as
      · exact stepC_f _
    · exact stepC_f _
  · exact stepC_f _
end
end Go.Proofs.YtcgjebaomhfbdaaGreat.Vm
