/- Runs by computing, quicker: each operation is made a function once. -/
import Derived.Test.YtcgjebaomhfbdaaGreatVmE6
namespace Go.Proofs.YtcgjebaomhfbdaaGreat.Vm
open Go
inductive OpC where
  | mk (f : Caller → StF → Option StF)
def OpC.f : OpC → Caller → StF → Option StF
  | .mk f => f
noncomputable def stepC (E : Env) (K : Tab) (i : I) : OpC := match i with
  | .mv d x => .mk fun _ τ => some (τ.set d (valF x τ))
  | .pick d c a b => .mk fun _ τ => match valF c τ with
    | .d _ (.bool true) => some (τ.set d (valF a τ))
    | .d _ (.bool false) => some (τ.set d (valF b τ))
    | _ => none
  | .bin d op x y => .mk fun _ τ => putV d (binF op (valF x τ) (valF y τ)) τ
  | .beq d ne x y => .mk fun _ τ => putV d (beq ne (valF x τ) (valF y τ)) τ
  | .eqs d ne ks x y => .mk fun _ τ => match valF x τ, valF y τ with
    | .ag as, .ag bs => match eqs ks as bs with
      | some b => some (τ.set d (dBool (b != ne)))
      | none => none
    | _, _ => none
  | .un d op x => .mk fun _ τ => putV d (un op (valF x τ)) τ
  | .cvt d k x => .mk fun _ τ => match valF x τ with
    | .d _ (.int _ n) => some (τ.set d (.d true (.int k (wrapF k n))))
    | _ => none
  | .load d x w => .mk fun _ τ => putV d (τ.core.loadQ (valF x τ) w) τ
  | .fad d x off w => .mk fun _ τ => putV d (fad (valF x τ) off w) τ
  | .fval d x off w => .mk fun _ τ => match valF x τ with
    | .ag cs => putV d ((sub? off (wid w) cs).bind (ofCells w)) τ
    | _ => none
  | .ix d x i s => .mk fun _ τ => putV d (ixF τ.core (valF x τ) (valF i τ) s) τ
  | .ixb d x i n s => .mk fun _ τ => match valF x τ with
    | .ptr l m off => match natOfF n (valF i τ) with
      | some j => some (τ.set d (.ptr l m (off + j * s)))
      | none => none
    | _ => none
  | .ixa d x i n w => .mk fun _ τ => match valF x τ with
    | .ag cs => match natOfF n (valF i τ) with
      | some j => putV d ((sub? (j * wid w) (wid w) cs).bind (ofCells w)) τ
      | none => none
    | _ => none
  | .stx d bs i => .mk fun _ τ => putV d (stx bs (valF i τ)) τ
  | .bld d z ps => .mk fun _ τ => match z.mapM Z.v with
    | some cs => match fill cs (ps.map fun (o, w, x) => (o, w, valF x τ)) with
      | some cs => some (τ.set d (.ag cs))
      | none => none
    | none => none
  | .slc d s x lo hi mx => .mk fun _ τ => putV d (St.slc s (valF x τ) (lo.map (valF · τ)) (hi.map (valF · τ)) (mx.map (valF · τ))) τ
  | .len d x => .mk fun _ τ => match lenOf (valF x τ) with
    | some n => some (τ.set d (.d true (.int .i64 (.ofNat n))))
    | none => none
  | .mx d x xs => .mk fun _ τ => putV d (maxOf true (valF x τ) (valsF xs τ)) τ
  | .mn d x xs => .mk fun _ τ => putV d (maxOf false (valF x τ) (valsF xs τ)) τ
  | .xt d x i => .mk fun _ τ => match valF x τ with
    | .tp vs => putV d vs[i]? τ
    | _ => none
  | .fn d f caps => .mk fun _ τ => some (τ.set d (.cl f (valsF caps τ)))
  | .chk d x => .mk fun _ τ => putV d (chkV (valF x τ)) τ
  | .store x y w => .mk fun _ τ => putS (τ.core.storeQ (valF x τ) (valF y τ) w) τ
  | .clr s x z => .mk fun _ τ => match z.t? with
    | some t => putS (τ.core.clr s (valF x τ) t) τ
    | none => none
  | .app d nm s x y => .mk fun _ τ => match appQ τ.core s nm (valF x τ) (valF y τ) with
    | some (l, n, o, v) => some (putOQ d l n o v τ)
    | none => none
  | .cpy d s x y => .mk fun _ τ => match τ.core.els s (valF y τ), valF x τ with
    | some ys, .row l n lo len s' => if s = s' then match τ.core.objQ l n with
        | some (.rw _ es false) => if lo + len ≤ es.length then some (putOQ d l n (.rw s (Vm.put lo (ys.take len) es) false) (dInt (ys.take len).length) τ) else none
        | _ => none
      else none
    | _, _ => none
  | .nilr d nm s => .mk fun _ τ => match τ.core.newQ nm (.rw s [] false) with
    | some ρ => some ((τ.put ρ).set d (.row 0 nm 0 0 s))
    | none => none
  | .alloc d nm z => .mk fun _ τ => match zcells τ.core z with
    | some (cs, ρ) => match ρ.newQ nm (.box cs) with
      | some ρ => some ((τ.put ρ).set d (.ptr 0 nm 0))
      | none => none
    | none => none
  | .box d nm x w => .mk fun _ τ => match cellsOf w (valF x τ) with
    | some cs => match τ.core.newQ nm (.box cs) with
      | some ρ => some ((τ.put ρ).set d (.ptr 0 nm 0))
      | none => none
    | none => none
  | .bsl d nm s n z ps => .mk fun _ τ => match τ.core.toTsQ2 (mapQ (fun p => valF p.2 τ) ps), z.t? with
    | some (ts, ns), some t => match flatFill t ts (fillT (List.replicate n t) s ((ps.map (·.1)).zip ts)) with
      | some es => match (τ.core.frz ns).newQ nm (.rw s es false) with
        | some ρ => some ((τ.put ρ).set d (.row 0 nm 0 n s))
        | none => none
      | none => none
    | _, _ => none
  | .mks d nm s n c z => .mk fun _ τ => match bnd big (valF n τ), bnd big (valF c τ), z.t? with
    | some n, some c, some t => if n = c then match τ.core.newQ nm (.rw s (List.replicate n t) false) with
        | some ρ => some ((τ.put ρ).set d (.row 0 nm 0 n s))
        | none => none
      else none
    | _, _, _ => none
  | .call d f as rm => .mk fun call τ => match callRunQ E K call τ f (valsF as τ) rm with
    | some (w, τ₁) => some (τ₁.set d w)
    | none => none
  | .callv d x as rm => .mk fun call τ => match callvRunQ E call τ (valF x τ) (valsF as τ) rm with
    | some (w, τ₁) => some (τ₁.set d w)
    | none => none
  | .mkl d l nm s n c z => .mk fun _ τ => match bnd big (valF n τ), bnd big (valF c τ), z.t? with
    | some n, some c, some t => if n = c then match τ.core.newL l nm (.rw s (List.replicate n t) false) with
        | some ρ => some ((τ.put ρ).set d (.row l nm 0 n s))
        | none => none
      else none
    | _, _, _ => none
  | .apl d l nm s x y => .mk fun _ τ => match valF x τ with
    | .nil s' => match τ.core.els s (valF y τ) with
      | none => none
      | some ys => if s = s' ∧ 0 < ys.length ∧ ys.length ≤ big then match τ.core.newL l nm (.rw s ys true) with
          | some ρ => some ((τ.put ρ).set d (.row l nm 0 ys.length s))
          | none => none
        else none
    | .row l' n' lo len s' => match appN τ.core s nm (.row l' n' lo len s') (valF y τ) with
      | some (l, n, o, v) => some (putO d l n o v τ)
      | none => none
    | _ => none
  | .ixv d x i => .mk fun _ τ => putV d (τ.core.ixv (valF x τ) (valF i τ)) τ
  | .bsv d nm xs => .mk fun _ τ => match (valsF xs τ).all isOne with
    | true => match τ.core.new nm (.box (valsF xs τ)) with
      | some ρ => some ((τ.put ρ).set d (.row 0 nm 0 xs.length 1))
      | none => none
    | false => none
  | .apv d nm x y => .mk fun _ τ => match valF y τ with
    | .row l m lo k s => if l = 0 ∧ lo = 0 ∧ s = 1 then match τ.core.obj 0 m with
      | some (.box ds) => if ds.length = k ∧ 0 < k ∧ k ≤ big then match valF x τ with
        | .nil s => if s = 1 then match τ.core.new nm (.box ds) with
            | some ρ => some ((τ.put ρ).set d (.row 0 nm 0 k 1))
            | none => none
          else none
        | .row l n lo len s => if l = 0 ∧ lo = 0 ∧ s = 1 ∧ n ≠ m ∧ n ≠ nm then match τ.core.obj 0 n with
          | some (.box cs) => if cs.length = len ∧ 0 < len ∧ len + k ≤ big then match (τ.core.setObj 0 n (some .gone)).new nm (.box (cs ++ ds)) with
              | some ρ => some ((τ.put ρ).set d (.row 0 nm 0 (len + k) 1))
              | none => none
            else none
          | _ => none
          else none
        | _ => none
        else none
      | _ => none
      else none
    | _ => none
  | .bad => .mk fun _ _ => none
theorem stepC_f {E : Env} {K : Tab} (i : I) : (stepC E K i).f = opF E K i := by
  cases i <;> first | rfl | (funext call τ; simp only [OpC.f, stepC, opF, stepF, loadQ_eq, storeQ_eq, newQ_eq, toTsQ2_eq, mapQ_eq, appQ_eq, putOQ_eq, objQ_eq, callRunQ_eq, callvRunQ_eq]; done) | (funext call τ; simp only [OpC.f, stepC, opF, stepF, loadQ_eq, storeQ_eq, newQ_eq, toTsQ2_eq, mapQ_eq, appQ_eq, putOQ_eq, objQ_eq, callRunQ_eq, callvRunQ_eq]; rfl)
noncomputable def compG (E : Env) (K : Tab) (g : G) : OpC := match g.g with
  | none => stepC E K g.i
  | some p => match stepC E K g.i with
    | .mk f => .mk fun call τ => match wantsF (some p) τ with
      | some true => f call τ
      | some false => some (skipF g.i τ)
      | none => none
noncomputable def opsG (E : Env) (K : Tab) (l : List G) : Caller → StF → Option StF :=
  List.rec (motive := fun _ => Caller → StF → Option StF) (fun _ τ => some τ) (fun g _ ih call τ => match compG E K g with
    | .mk f => match f call τ with
      | some τ₁ => ih call τ₁
      | none => none) l
theorem opsG_eq {E : Env} {K : Tab} : ∀ (l : List G) (call : Caller) (τ : StF), opsG E K l call τ = opsF E K l call τ
  | [], _, _ => rfl
  | ⟨i, g⟩ :: l, call, τ => by
    have e1 : opsG E K (⟨i, g⟩ :: l) call τ = match (compG E K ⟨i, g⟩).f call τ with
      | some τ₁ => opsG E K l call τ₁
      | none => none := by
      show (match compG E K ⟨i, g⟩ with
        | .mk f => match f call τ with
          | some τ₁ => opsG E K l call τ₁
          | none => none) = _
      cases compG E K ⟨i, g⟩; rfl
    have e2 : opsF E K (⟨i, g⟩ :: l) call τ = match wantsF g τ with
      | some true => match opF E K i call τ with
        | some τ₁ => opsF E K l call τ₁
        | none => none
      | some false => opsF E K l call (skipF i τ)
      | none => none := rfl
    have e3 : (compG E K ⟨i, g⟩).f call τ = match wantsF g τ with
      | some true => opF E K i call τ
      | some false => some (skipF i τ)
      | none => none := by
      cases g with
      | none =>
        show (stepC E K i).f call τ = opF E K i call τ
        rw [stepC_f]
      | some p =>
        have h := congrFun (congrFun (stepC_f (E := E) (K := K) i) call) τ
        show OpC.f (match stepC E K i with
          | .mk f => .mk fun call τ => match wantsF (some p) τ with
            | some true => f call τ
            | some false => some (skipF i τ)
            | none => none) call τ = _
        cases hs : stepC E K i with
        | mk f =>
          rw [hs] at h
          rw [← h]
          rfl
    rw [e1, e2, e3]
    cases wantsF g τ with
    | none => rfl
    | some t => cases t with
      | true =>
        simp only
        cases opF E K i call τ with
        | none => rfl
        | some τ₁ => exact opsG_eq l call τ₁
      | false => exact opsG_eq l call _
inductive CC where
  | mk (f : (C → StF → Option (Ex × StF)) → Caller → StF → Option (Ex × StF))
def CC.f : CC → (C → StF → Option (Ex × StF)) → Caller → StF → Option (Ex × StF)
  | .mk f => f
noncomputable def compC (E : Env) (K : Tab) (c : C) : CC := match c with
  | .skip => .mk fun _ _ τ => some (.normal, τ)
  | .rg _ _ fs is [] => .mk fun _ call τ => match preQ fs τ with
    | some τ₁ => match opsG E K is call τ₁ with
      | some τ' => some (.normal, τ')
      | none => none
    | none => none
  | .rg id dr fs is (o :: os) => .mk fun rec call τ => runCF E K (.rg id dr fs is (o :: os)) rec call τ
  | .seq a b => .mk fun rec _ τ => match rec a τ with
    | some (.normal, τ₁) => rec b τ₁
    | r => r
  | .cond x a b => .mk fun rec _ τ => match valF x τ with
    | .d _ (.bool t) => match t with
      | true => rec a τ
      | false => rec b τ
    | _ => none
  | .block id c => .mk fun rec _ τ => match rec c τ with
    | some (.normal, τ₁) => some (.normal, τ₁)
    | some (.exit j, τ₁) => match Nat.beq j id with
      | true => some (.normal, τ₁)
      | false => some (.exit j, τ₁)
    | r => r
  | .loop c => .mk fun rec _ τ => match rec c τ with
    | some (.normal, τ₁) => rec (.loop c) τ₁
    | r => r
  | .exit id => .mk fun _ _ τ => some (.exit id, τ)
  | .ret => .mk fun _ _ τ => some (.ret, τ)
  | .rfun x ps a b => .mk fun rec call τ => rfunF E K rec call x ps a b τ
  | _ => .mk fun _ _ _ => none
theorem compC_f {E : Env} {K : Tab} (c : C) (rec : C → StF → Option (Ex × StF)) (call : Caller) (τ : StF) : (compC E K c).f rec call τ = runCF E K c rec call τ := by
  cases c with
  | rg id dr fs is os =>
    cases os with
    | nil =>
      show (match preQ fs τ with
        | some τ₁ => match opsG E K is call τ₁ with
          | some τ' => some (Ex.normal, τ')
          | none => none
        | none => none) = (match preF fs τ with
        | some τ₁ => match opsF E K is call τ₁ with
          | some τ' => some (Ex.normal, τ')
          | none => none
        | none => none)
      rw [preQ_eq]
      cases preF fs τ with
      | none => rfl
      | some τ₁ => simp only [opsG_eq]
    | cons o os => rfl
  | _ => rfl
noncomputable def runG (E : Env) (K : Tab) (n : Nat) : C → StF → Option (Ex × StF) :=
  Nat.rec (motive := fun _ => C → StF → Option (Ex × StF)) (fun _ _ => none) (fun _ ih c τ => match compC E K c with
    | .mk f => f ih (calF E ih) τ) n
theorem runG_eq {E : Env} {K : Tab} : ∀ n : Nat, runG E K n = runF E K n
  | 0 => rfl
  | n + 1 => by
    funext c τ
    have e : runG E K (n + 1) c τ = (compC E K c).f (runG E K n) (calF E (runG E K n)) τ := by
      show (match compC E K c with
        | .mk f => f (runG E K n) (calF E (runG E K n)) τ) = _
      cases compC E K c; rfl
    rw [e, compC_f, runG_eq n]
    rfl
/-- does a function of no arguments answer true? -/
noncomputable def saysG (E : Env) (K : Tab) (n f : Nat) : Bool := match calF E (runG E K n) f [] [] with
  | some (.d _ (.bool true), _) => true
  | _ => false
theorem saysG_ok {E : Env} {K : Tab} {n f : Nat} (hX : ExtW E) (hK : ∀ p ∈ K, Known E p.1 p.2.1 p.2.2) (h : saysG E K n f = true) : ∃ p σ, Ev E (.fn f [] []) (.fn (.d p (.bool true)) σ) := by
  refine saysF_ok (K := K) (n := n) hX hK ?_
  rw [← h]
  unfold saysG saysF
  rw [runG_eq]
  rfl
/-- does a call give this data? -/
noncomputable def givesG (E : Env) (K : Tab) (n f : Nat) (as : List V) (r : V) : Bool := match calF E (runG E K n) f as [] with
  | some (v, τ) => match dat true τ.core v with
    | some (r', _) => V.beq r' r
    | none => false
  | none => false
theorem givesG_ok {E : Env} {K : Tab} {n f : Nat} {as : List V} {r : V} (hX : ExtW E) (hK : ∀ p ∈ K, Known E p.1 p.2.1 p.2.2) (h : givesG E K n f as r = true) : Known E f as r := by
  refine givesF_ok (K := K) (n := n) hX hK ?_
  rw [← h]
  unfold givesG givesF
  rw [runG_eq]
  rfl
end Go.Proofs.YtcgjebaomhfbdaaGreat.Vm
