/- Runs by computing, quickest: code. -/
import Derived.Test.YtcgjebaomhfbdaaGreatVmE8
namespace Go.Proofs.YtcgjebaomhfbdaaGreat.Vm
open Go
section
variable {E : Env} {K : Tab}
noncomputable def wantsR (t : Nat) (b : Bool) (τ : StF) : Option Bool :=
  V.rec (motive_1 := fun _ => Option Bool) (motive_2 := fun _ => Unit) (fun _ t => tB t none fun c => some (bC b (notR c) c)) (fun _ _ => none) (fun _ => none) (fun _ _ _ _ _ => none) (fun _ _ _ => none) (fun _ _ _ _ => none) (fun _ => none) (fun _ _ => none)
    (fun cs _ => lC cs (some false) fun _ _ => none) (fun _ _ _ => none) none () (fun _ _ _ _ => ()) (getR τ.t t)
theorem wantsR_eq (t : Nat) (b : Bool) (τ : StF) : wantsR t b τ = wantsF (some (t, b)) τ := by
  unfold wantsR wantsF
  rw [getR_eq]
  simp only
  cases τ.t.get t with
  | d p tt => cases tt with
    | bool c => cases b <;> cases c <;> rfl
    | _ => rfl
  | tp vs => cases vs <;> rfl
  | _ => rfl
noncomputable def skipR (i : I) : StF → StF := match i.dst with
  | some d => fun τ => setR τ d (.tp [])
  | none => fun τ => τ
theorem skipR_eq (i : I) (τ : StF) : skipR i τ = skipF i τ := by
  unfold skipR skipF
  cases i.dst with
  | none => rfl
  | some d => exact setR_eq _ _ _
inductive SC where
  | mk (f : StF → StF)
noncomputable def compS (i : I) : SC := match i.dst with
  | some d => .mk fun τ => setR τ d (.tp [])
  | none => .mk fun τ => τ
noncomputable def compGR (E : Env) (K : Tab) (g : G) : OpC := match g.g with
  | none => stepR E K g.i
  | some (t, b) => match stepR E K g.i, compS g.i with
    | .mk f, .mk s => .mk fun call τ => oC (wantsR t b τ) none fun w => bC w (some (s τ)) (f call τ)
theorem compGR_f (g : G) (call : Caller) (τ : StF) : (compGR E K g).f call τ = (compG E K g).f call τ := by
  obtain ⟨i, g⟩ := g
  cases g with
  | none =>
    show (stepR E K i).f call τ = (stepC E K i).f call τ
    rw [stepR_f, stepC_f]
  | some p =>
    obtain ⟨t, b⟩ := p
    have hs : ∀ τ, (match compS i with | .mk s => s τ) = skipF i τ := fun τ => by
      rw [← skipR_eq]
      unfold compS skipR
      cases i.dst <;> rfl
    show (match stepR E K i, compS i with
      | .mk f, .mk s => OpC.mk fun call τ => oC (wantsR t b τ) none fun w => bC w (some (s τ)) (f call τ)).f call τ = (match stepC E K i with
      | .mk f => OpC.mk fun call τ => match wantsF (some (t, b)) τ with
        | some true => f call τ
        | some false => some (skipF i τ)
        | none => none).f call τ
    have h1 : ∀ call τ, (stepR E K i).f call τ = (stepC E K i).f call τ := fun call τ => by rw [stepR_f, stepC_f]
    cases h2 : stepR E K i with
    | mk f => cases h3 : stepC E K i with
      | mk f' => cases h4 : compS i with
        | mk s =>
          rw [h2, h3] at h1
          rw [h4] at hs
          show oC (wantsR t b τ) none (fun w => bC w (some (s τ)) (f call τ)) = match wantsF (some (t, b)) τ with
            | some true => f' call τ
            | some false => some (skipF i τ)
            | none => none
          have h1' : f call τ = f' call τ := h1 call τ
          have hs' : s τ = skipF i τ := hs τ
          rw [wantsR_eq, h1', hs']
          cases wantsF (some (t, b)) τ with
          | none => rfl
          | some w => cases w <;> rfl
noncomputable def opsR (E : Env) (K : Tab) (l : List G) : Caller → StF → Option StF :=
  List.rec (motive := fun _ => Caller → StF → Option StF) (fun _ τ => some τ) (fun g _ ih call τ => OpC.rec (motive := fun _ => Option StF) (fun f => oC (f call τ) none fun τ₁ => ih call τ₁) (compGR E K g)) l
theorem opsR_eq : ∀ (l : List G) (call : Caller) (τ : StF), opsR E K l call τ = opsG E K l call τ
  | [], _, _ => rfl
  | g :: l, call, τ => by
    have e1 : opsR E K (g :: l) call τ = oC ((compGR E K g).f call τ) none fun τ₁ => opsR E K l call τ₁ := by
      show OpC.rec (motive := fun _ => Option StF) (fun f => oC (f call τ) none fun τ₁ => opsR E K l call τ₁) (compGR E K g) = _
      cases compGR E K g; rfl
    have e2 : opsG E K (g :: l) call τ = match (compG E K g).f call τ with
      | some τ₁ => opsG E K l call τ₁
      | none => none := by
      show (match compG E K g with
        | .mk f => match f call τ with
          | some τ₁ => opsG E K l call τ₁
          | none => none) = _
      cases compG E K g; rfl
    rw [e1, e2, compGR_f]
    cases (compG E K g).f call τ with
    | none => rfl
    | some τ₁ => exact opsR_eq l call τ₁
noncomputable def exC {β : Type} (e : Ex) (n : β) (x : Nat → β) (r : β) : β := Ex.rec (motive := fun _ => β) n x r e
noncomputable def inR (a b n : Nat) : Bool := bC (Nat.ble a n) false (Nat.ble (Nat.succ n) b)
theorem inR_eq (a b n : Nat) : inR a b n = inQ a b n := by
  unfold inR inQ
  cases Nat.ble a n <;> rfl
noncomputable def kill1R (a b : Nat) (v : V) : V :=
  vC v (v.kill a b) (fun p t => .d p t) (fun p t => .dx p t) (fun s => .nil s) (fun l n lo len s => nC l (bC (inR a b n) (.row 0 n lo len s) .u) fun l => .row (Nat.succ l) n lo len s)
    (fun l n off => nC l (bC (inR a b n) (.ptr 0 n off) .u) fun l => .ptr (Nat.succ l) n off) (fun l n i off => nC l (bC (inR a b n) (.rel 0 n i off) .u) fun l => .rel (Nat.succ l) n i off)
    (fun t => .pd t) (fun cs => .ag (V.kills a b cs)) (fun f cs => .cl f (V.kills a b cs))
theorem kill1R_eq (a b : Nat) (v : V) : kill1R a b v = v.kill a b := by
  rw [← kill1Q_eq]
  cases v with
  | row l n lo len s =>
    cases l with
    | zero =>
      show bC (inR a b n) (V.row 0 n lo len s) .u = _
      rw [inR_eq]; simp only [kill1Q]; cases inQ a b n <;> rfl
    | succ l => rfl
  | ptr l n off =>
    cases l with
    | zero =>
      show bC (inR a b n) (V.ptr 0 n off) .u = _
      rw [inR_eq]; simp only [kill1Q]; cases inQ a b n <;> rfl
    | succ l => rfl
  | rel l n i off =>
    cases l with
    | zero =>
      show bC (inR a b n) (V.rel 0 n i off) .u = _
      rw [inR_eq]; simp only [kill1Q]; cases inQ a b n <;> rfl
    | succ l => rfl
  | tp cs => rw [kill1Q_eq]; rfl
  | u => rw [kill1Q_eq]; rfl
  | _ => rfl
noncomputable def killR (a b : Nat) (v : V) : V :=
  vC v (v.kill a b) (fun p t => .d p t) (fun p t => .dx p t) (fun s => .nil s) (fun l n lo len s => nC l (bC (inR a b n) (.row 0 n lo len s) .u) fun l => .row (Nat.succ l) n lo len s)
    (fun l n off => nC l (bC (inR a b n) (.ptr 0 n off) .u) fun l => .ptr (Nat.succ l) n off) (fun l n i off => nC l (bC (inR a b n) (.rel 0 n i off) .u) fun l => .rel (Nat.succ l) n i off)
    (fun t => .pd t) (fun cs => .ag (mapR (kill1R a b) cs)) (fun f cs => .cl f (mapR (kill1R a b) cs))
theorem killR_eq (a b : Nat) (v : V) : killR a b v = v.kill a b := by
  have e : ∀ cs : List V, mapR (kill1R a b) cs = V.kills a b cs := fun cs => by
    rw [mapR_eq, kills_map]
    exact List.map_congr_left fun v _ => kill1R_eq a b v
  cases v with
  | ag cs => show V.ag _ = V.ag _; rw [e]
  | cl f cs => show V.cl f _ = V.cl f _; rw [e]
  | d p t => exact kill1R_eq a b (.d p t)
  | dx p t => exact kill1R_eq a b (.dx p t)
  | nil s => exact kill1R_eq a b (.nil s)
  | row l n lo len s => exact kill1R_eq a b (.row l n lo len s)
  | ptr l n off => exact kill1R_eq a b (.ptr l n off)
  | rel l n i off => exact kill1R_eq a b (.rel l n i off)
  | pd t => exact kill1R_eq a b (.pd t)
  | tp cs => rfl
  | u => rfl
noncomputable def killObR (a b : Nat) (l : Lv) : Nat → Lv := List.rec (motive := fun _ => Nat → Lv) (fun _ => []) (fun o _ ih i => bC (inR a b i) (oC o none fun o => some (obC o .gone (fun cs => .box (mapR (killR a b) cs)) (fun s es gr => .rw s es gr) (fun s es => .fz s es))) none :: ih (Nat.succ i)) l
theorem killObR_eq (a b : Nat) : ∀ (l : Lv) (i : Nat), killObR a b l i = killObQ a b l i
  | [], _ => rfl
  | o :: l, i => by
    show bC (inR a b i) (oC o none fun o => some (obC o .gone (fun cs => .box (mapR (killR a b) cs)) (fun s es gr => .rw s es gr) (fun s es => .fz s es))) none :: killObR a b l (i + 1) =
      (match inQ a b i with
      | true => none
      | false => match o with
        | some o => some (obKillQ a b o)
        | none => none) :: killObQ a b l (i + 1)
    rw [killObR_eq a b l, inR_eq]
    congr 1
    cases inQ a b i with
    | true => rfl
    | false => cases o with
      | none => rfl
      | some o => cases o with
        | box cs =>
          show some (Ob.box (mapR (killR a b) cs)) = some (Ob.box (mapQ (killQ a b) cs))
          rw [mapR_eq, mapQ_eq]
          congr 2
          exact List.map_congr_left fun v _ => by rw [killR_eq, killQ_eq]
        | _ => rfl
noncomputable def mapTR (f : V → V) (t : Tr) : Tr := Tr.rec (motive := fun _ => Tr) .nil (fun v _ _ l r => .node (f v) l r) t
theorem mapTR_eq (f : V → V) : ∀ t : Tr, mapTR f t = t.map f
  | .nil => rfl
  | .node v l r => by show Tr.node (f v) (mapTR f l) (mapTR f r) = Tr.node (f v) (l.map f) (r.map f); rw [mapTR_eq f l, mapTR_eq f r]
inductive PC where
  | mk (f : StF → Option StF)
noncomputable def compP (fs : List F) : PC := match fs with
  | [] => .mk fun τ => some τ
  | [.kill a b] => .mk fun τ => some ⟨τ.n, mapTR (killR a b) τ.t, killObR a b τ.ob 0, τ.up⟩
  | fs => .mk fun τ => preQ fs τ
def PC.f : PC → StF → Option StF
  | .mk f => f
theorem compP_f (fs : List F) (τ : StF) : (compP fs).f τ = preF fs τ := by
  unfold compP
  split
  · rfl
  · rename_i a b
    show some (⟨τ.n, mapTR (killR a b) τ.t, killObR a b τ.ob 0, τ.up⟩ : StF) = some (τ.kill a b)
    rw [mapTR_eq, killObR_eq, killObQ_eq, show killR a b = V.kill a b from funext (killR_eq a b)]; rfl
  · exact preQ_eq _ _
noncomputable def compR (E : Env) (K : Tab) (c : C) : CC := match c with
  | .skip => .mk fun _ _ τ => some (.normal, τ)
  | .rg _ _ fs is [] => match compP fs with
    | .mk p => .mk fun _ call τ => oC (p τ) none fun τ₁ => oC (opsR E K is call τ₁) none fun τ' => some (.normal, τ')
  | .rg _ _ fs is (o :: os) => match compP fs with
    | .mk p => .mk fun _ call τ => oC (p τ) none fun τ₁ => oC (opsR E K is call τ₁) none fun τ' => bC (othersF (fun l => opsR E K l call τ₁) is τ' (o :: os)) none (some (.normal, τ'))
  | .seq a b => .mk fun rec _ τ => oC (rec a τ) none fun p => exC p.1 (rec b p.2) (fun j => some (.exit j, p.2)) (some (.ret, p.2))
  | .cond x a b => (fun g => match compX x with | .mk fx => g fx) fun fx => .mk fun rec _ τ => vD (fx τ) none fun _ t => tB t none fun t => bC t (rec b τ) (rec a τ)
  | .block id c => .mk fun rec _ τ => oC (rec c τ) none fun p => exC p.1 (some (.normal, p.2)) (fun j => bC (Nat.beq j id) (some (.exit j, p.2)) (some (.normal, p.2))) (some (.ret, p.2))
  | .loop c => .mk fun rec _ τ => oC (rec c τ) none fun p => exC p.1 (rec (.loop c) p.2) (fun j => some (.exit j, p.2)) (some (.ret, p.2))
  | .exit id => .mk fun _ _ τ => some (.exit id, τ)
  | .ret => .mk fun _ _ τ => some (.ret, τ)
  | .rfun x ps a b => .mk fun rec call τ => rfunF E K rec call x ps a b τ
  | _ => .mk fun _ _ _ => none
theorem compR_f (c : C) (rec : C → StF → Option (Ex × StF)) (call : Caller) (τ : StF) : (compR E K c).f rec call τ = runCF E K c rec call τ := by
  cases c with
  | rg id dr fs is os =>
    cases os with
    | nil =>
      have h := compP_f fs τ
      show (match compP fs with
        | .mk p => CC.mk fun _ call τ => oC (p τ) none fun τ₁ => oC (opsR E K is call τ₁) none fun τ' => some (Ex.normal, τ')).f rec call τ = match preF fs τ with
        | some τ₁ => match opsF E K is call τ₁ with
          | some τ' => some (Ex.normal, τ')
          | none => none
        | none => none
      cases hp : compP fs with
      | mk p =>
        rw [hp] at h
        rw [← h]
        show oC (p τ) none (fun τ₁ => oC (opsR E K is call τ₁) none fun τ' => some (Ex.normal, τ')) = match p τ with
          | some τ₁ => match opsF E K is call τ₁ with
            | some τ' => some (Ex.normal, τ')
            | none => none
          | none => none
        cases p τ with
        | none => rfl
        | some τ₁ =>
          simp only [oC_some, opsR_eq, opsG_eq]
          cases opsF E K is call τ₁ <;> rfl
    | cons o os =>
      have h := compP_f fs τ
      show (match compP fs with
        | .mk p => CC.mk fun _ call τ => oC (p τ) none fun τ₁ => oC (opsR E K is call τ₁) none fun τ' => bC (othersF (fun l => opsR E K l call τ₁) is τ' (o :: os)) none (some (Ex.normal, τ'))).f rec call τ = match preF fs τ with
        | some τ₁ => match opsF E K is call τ₁ with
          | some τ' => match othersF (fun l => opsF E K l call τ₁) is τ' (o :: os) with
            | true => some (Ex.normal, τ')
            | false => none
          | none => none
        | none => none
      cases hp : compP fs with
      | mk p =>
        rw [hp] at h
        rw [← h]
        show oC (p τ) none (fun τ₁ => oC (opsR E K is call τ₁) none fun τ' => bC (othersF (fun l => opsR E K l call τ₁) is τ' (o :: os)) none (some (Ex.normal, τ'))) = match p τ with
          | some τ₁ => match opsF E K is call τ₁ with
            | some τ' => match othersF (fun l => opsF E K l call τ₁) is τ' (o :: os) with
              | true => some (Ex.normal, τ')
              | false => none
            | none => none
          | none => none
        cases p τ with
        | none => rfl
        | some τ₁ =>
          simp only [oC_some, opsR_eq, opsG_eq]
          cases opsF E K is call τ₁ with
          | none => rfl
          | some τ' =>
            simp only [oC_some]
            cases othersF (fun l => opsF E K l call τ₁) is τ' (o :: os) <;> rfl
  | seq a b =>
    show oC (rec a τ) none _ = match rec a τ with
      | some (.normal, τ₁) => rec b τ₁
      | r => r
    cases rec a τ with
    | none => rfl
    | some p => obtain ⟨e, τ₁⟩ := p; cases e <;> rfl
  | cond x a b =>
    have hx := compX_f x τ
    show (match compX x with | .mk fx => CC.mk fun rec _ τ => vD (fx τ) none fun _ t => tB t none fun t => bC t (rec b τ) (rec a τ)).f rec call τ = match valF x τ with
      | .d _ (.bool t) => match t with
        | true => rec a τ
        | false => rec b τ
      | _ => none
    cases hc : compX x with
    | mk fx =>
      rw [hc] at hx
      rw [← hx]
      show vD (fx τ) none (fun _ t => tB t none fun t => bC t (rec b τ) (rec a τ)) = match fx τ with
        | .d _ (.bool t) => match t with
          | true => rec a τ
          | false => rec b τ
        | _ => none
      cases fx τ with
      | d p t => cases t with
        | bool t => cases t <;> rfl
        | _ => rfl
      | _ => rfl
  | block id c =>
    show oC (rec c τ) none _ = match rec c τ with
      | some (.normal, τ₁) => some (.normal, τ₁)
      | some (.exit j, τ₁) => match Nat.beq j id with
        | true => some (.normal, τ₁)
        | false => some (.exit j, τ₁)
      | r => r
    cases rec c τ with
    | none => rfl
    | some p =>
      obtain ⟨e, τ₁⟩ := p
      cases e with
      | exit j =>
        show bC (Nat.beq j id) _ _ = _
        simp only
        cases Nat.beq j id <;> rfl
      | _ => rfl
  | loop c =>
    show oC (rec c τ) none _ = match rec c τ with
      | some (.normal, τ₁) => rec (.loop c) τ₁
      | r => r
    cases rec c τ with
    | none => rfl
    | some p => obtain ⟨e, τ₁⟩ := p; cases e <;> rfl
  | _ => rfl
noncomputable def iniTR (vs : List V) : Nat → Tr → Tr := List.rec (motive := fun _ => Nat → Tr → Tr) (fun _ t => t) (fun v _ ih k t => ih (Nat.succ k) (setT (Nat.succ k) t k v)) vs
theorem iniTR_eq : ∀ (vs : List V) (k : Nat) (t : Tr), iniTR vs k t = iniT vs k t
  | [], _, _ => rfl
  | v :: vs, k, t => by
    show iniTR vs (k + 1) (setT (k + 1) t k v) = iniT vs (k + 1) (t.set k v)
    rw [iniTR_eq vs, setT_eq]; rfl
noncomputable def iniR (as : List V) (up : List Lv) : StF := ⟨lenR as, iniTR as 0 .nil, [], up⟩
theorem iniR_eq (as : List V) (up : List Lv) : iniR as up = iniF as up := by unfold iniR iniF; rw [lenR_eq, iniTR_eq]
noncomputable def rvR (τ : StF) (r : Rv) : Option V := Rv.rec (motive := fun _ => Option V) (fun t => some (getR τ.t t)) (fun t w => loadR τ (getR τ.t t) w) r
noncomputable def rvsR (τ : StF) (rs : List Rv) : Option (List V) := List.rec (motive := fun _ => Option (List V)) (some []) (fun r _ ih => oC (rvR τ r) none fun v => oC ih none fun vs => some (v :: vs)) rs
theorem rvsR_eq (τ : StF) : ∀ rs : List Rv, rvsR τ rs = resValsF τ rs
  | [] => rfl
  | r :: rs => by
    show oC (rvR τ r) none (fun v => oC (rvsR τ rs) none fun vs => some (v :: vs)) = _
    rw [rvsR_eq τ rs]
    cases r with
    | s t =>
      show oC (some (getR τ.t t)) none _ = _
      simp only [oC_some, resValsF, getR_eq]
      cases resValsF τ rs <;> rfl
    | c t w =>
      show oC (loadR τ (getR τ.t t) w) none _ = _
      rw [loadR_eq, getR_eq]
      simp only [resValsF]
      cases τ.core.load (τ.t.get t) w <;> cases resValsF τ rs <;> rfl
noncomputable def resR (τ : StF) (rs : List Rv) : Option V := oC (rvsR τ rs) none fun vs => lC vs (some (.tp [])) fun v r => lC r (some v) fun w r => some (.tp (v :: w :: r))
theorem resR_eq (τ : StF) (rs : List Rv) : resR τ rs = resValF τ rs := by
  unfold resR resValF
  rw [rvsR_eq]
  cases resValsF τ rs with
  | none => rfl
  | some vs =>
    match vs with
    | [] => rfl
    | [v] => rfl
    | v :: w :: r => rfl
noncomputable def calR (E : Env) (rec : C → StF → Option (Ex × StF)) : Caller := fun f as up =>
  oC (E.fn f) none fun F => oC (rec F.code (iniR as up)) none fun p => exC p.1 (oC (resR p.2 F.res) none fun v => some (v, p.2)) (fun _ => none) (oC (resR p.2 F.res) none fun v => some (v, p.2))
theorem calR_eq (rec : C → StF → Option (Ex × StF)) : calR E rec = calF E rec := by
  funext f as up
  unfold calR calF
  simp only [iniR_eq, resR_eq]
  cases E.fn f with
  | none => rfl
  | some F =>
    simp only [oC_some]
    cases rec F.code (iniF as up) with
    | none => rfl
    | some p =>
      obtain ⟨e, τ⟩ := p
      cases e with
      | normal => show oC (resValF τ F.res) none _ = _; simp only; cases resValF τ F.res <;> rfl
      | ret => show oC (resValF τ F.res) none _ = _; simp only; cases resValF τ F.res <;> rfl
      | exit j => rfl
noncomputable def runR (E : Env) (K : Tab) (n : Nat) : C → StF → Option (Ex × StF) :=
  Nat.rec (motive := fun _ => C → StF → Option (Ex × StF)) (fun _ _ => none) (fun _ ih c τ => CC.rec (motive := fun _ => Option (Ex × StF)) (fun f => f ih (calR E ih) τ) (compR E K c)) n
theorem runR_eq : ∀ n : Nat, runR E K n = runF E K n
  | 0 => rfl
  | n + 1 => by
    funext c τ
    have e : runR E K (n + 1) c τ = (compR E K c).f (runR E K n) (calR E (runR E K n)) τ := by
      show CC.rec (motive := fun _ => Option (Ex × StF)) (fun f => f (runR E K n) (calR E (runR E K n)) τ) (compR E K c) = _
      cases compR E K c; rfl
    rw [e, compR_f, calR_eq, runR_eq n]
    rfl
/-- does a function of no arguments answer true? -/
noncomputable def saysR (E : Env) (K : Tab) (n f : Nat) : Bool := match calR E (runR E K n) f [] [] with
  | some (.d _ (.bool true), _) => true
  | _ => false
theorem saysR_ok {n f : Nat} (hX : ExtW E) (hK : ∀ p ∈ K, Known E p.1 p.2.1 p.2.2) (h : saysR E K n f = true) : ∃ p σ, Ev E (.fn f [] []) (.fn (.d p (.bool true)) σ) := by
  refine saysF_ok (K := K) (n := n) hX hK ?_
  rw [← h]
  unfold saysR saysF
  rw [calR_eq, runR_eq]
  rfl
/-- does a call give this data? -/
noncomputable def givesR (E : Env) (K : Tab) (n f : Nat) (as : List V) (r : V) : Bool := match calR E (runR E K n) f as [] with
  | some (v, τ) => match dat true τ.core v with
    | some (r', _) => V.beq r' r
    | none => false
  | none => false
theorem givesR_ok {n f : Nat} {as : List V} {r : V} (hX : ExtW E) (hK : ∀ p ∈ K, Known E p.1 p.2.1 p.2.2) (h : givesR E K n f as r = true) : Known E f as r := by
  refine givesF_ok (K := K) (n := n) hX hK ?_
  rw [← h]
  unfold givesR givesF
  rw [calR_eq, runR_eq]
  rfl
end
end Go.Proofs.YtcgjebaomhfbdaaGreat.Vm
