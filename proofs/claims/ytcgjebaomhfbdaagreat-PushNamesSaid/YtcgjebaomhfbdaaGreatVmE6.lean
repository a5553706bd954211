/- Quicker ways to compute what the machine's operations need. -/
import Derived.Test.YtcgjebaomhfbdaaGreatVmE4
namespace Go.Proofs.YtcgjebaomhfbdaaGreat.Vm
open Go
section
variable {σ : St}
noncomputable def gtQ {α : Type} (d : α) (l : List α) : Nat → α := List.rec (motive := fun _ => Nat → α) (fun _ => d) (fun a _ ih n => match n with | 0 => a | n + 1 => ih n) l
theorem gtQ_eq {α : Type} (d : α) : ∀ (l : List α) (n : Nat), gtQ d l n = gt d l n
  | [], _ => rfl
  | _ :: _, 0 => rfl
  | _ :: l, n + 1 => gtQ_eq d l n
noncomputable def padQ {α : Type} (d v : α) (i : Nat) : List α := Nat.rec (motive := fun _ => List α) [v] (fun _ ih => d :: ih) i
noncomputable def stQ {α : Type} (d : α) (l : List α) : Nat → α → List α := List.rec (motive := fun _ => Nat → α → List α) (fun i v => padQ d v i) (fun a tl ih i v => match i with | 0 => v :: tl | i + 1 => a :: ih i v) l
theorem padQ_eq {α : Type} (d v : α) : ∀ i : Nat, padQ d v i = st d [] i v
  | 0 => rfl
  | i + 1 => by show d :: padQ d v i = d :: st d [] i v; rw [padQ_eq d v i]
theorem stQ_eq {α : Type} (d : α) : ∀ (l : List α) (i : Nat) (v : α), stQ d l i v = st d l i v
  | [], i, v => padQ_eq d v i
  | _ :: _, 0, _ => rfl
  | a :: l, i + 1, v => by show a :: stQ d l i v = a :: st d l i v; rw [stQ_eq d l i v]
noncomputable def St.objQ (σ : St) (l n : Nat) : Option Ob := match l with
  | 0 => gtQ none σ.ob n
  | l + 1 => gtQ none (gtQ [] σ.up l) n
theorem objQ_eq (l n : Nat) : σ.objQ l n = σ.obj l n := by cases l <;> simp only [St.objQ, St.obj, gtQ_eq]
noncomputable def St.setObjQ (σ : St) (l n : Nat) (o : Option Ob) : St := match l with
  | 0 => { σ with ob := stQ none σ.ob n o }
  | l + 1 => { σ with up := stQ [] σ.up l (stQ none (gtQ [] σ.up l) n o) }
theorem setObjQ_eq (l n : Nat) (o : Option Ob) : σ.setObjQ l n o = σ.setObj l n o := by cases l <;> simp only [St.setObjQ, St.setObj, gtQ_eq, stQ_eq]
noncomputable def St.newQ (σ : St) (nm : Nat) (o : Ob) : Option St := match gtQ none σ.ob nm with
  | none => some (σ.setObjQ 0 nm (some o))
  | some _ => none
theorem newQ_eq (nm : Nat) (o : Ob) : σ.newQ nm o = σ.new nm o := by
  unfold St.newQ St.new
  rw [gtQ_eq, setObjQ_eq]
  rfl
noncomputable def mapQ {α β : Type} (f : α → β) (l : List α) : List β := List.rec (motive := fun _ => List β) [] (fun a _ ih => f a :: ih) l
theorem mapQ_eq {α β : Type} (f : α → β) : ∀ l : List α, mapQ f l = l.map f
  | [] => rfl
  | a :: l => by show f a :: mapQ f l = f a :: l.map f; rw [mapQ_eq f l]
/-! Levels. -/
def shift1Q (k : Nat) (v : V) : V := match v with
  | .row l n lo len s => .row (l + k) n lo len s
  | .ptr l n off => .ptr (l + k) n off
  | .rel l n i off => .rel (l + k) n i off
  | .ag cs => .ag (V.shifts k cs)
  | .tp cs => .tp (V.shifts k cs)
  | .cl f cs => .cl f (V.shifts k cs)
  | v => v
theorem shift1Q_eq (k : Nat) (v : V) : shift1Q k v = v.shift k := by cases v <;> rfl
theorem shifts_map (k : Nat) : ∀ cs : List V, V.shifts k cs = cs.map (V.shift k)
  | [] => rfl
  | c :: cs => by simp only [V.shifts, List.map_cons, shifts_map k cs]
noncomputable def shiftsQ (k : Nat) (cs : List V) : List V := mapQ (shift1Q k) cs
theorem shiftsQ_eq (k : Nat) (cs : List V) : shiftsQ k cs = V.shifts k cs := by
  rw [shiftsQ, mapQ_eq, shifts_map]
  exact List.map_congr_left fun v _ => shift1Q_eq k v
noncomputable def shiftQ (k : Nat) (v : V) : V := match v with
  | .ag cs => .ag (shiftsQ k cs)
  | .cl f cs => .cl f (shiftsQ k cs)
  | v => shift1Q k v
theorem shiftQ_eq (k : Nat) (v : V) : shiftQ k v = v.shift k := by
  cases v with
  | ag cs => show V.ag (shiftsQ k cs) = V.ag (V.shifts k cs); rw [shiftsQ_eq]
  | cl f cs => show V.cl f (shiftsQ k cs) = V.cl f (V.shifts k cs); rw [shiftsQ_eq]
  | _ => simp only [shiftQ, shift1Q_eq]
noncomputable def shiftsQ2 (k : Nat) (cs : List V) : List V := mapQ (shiftQ k) cs
theorem shiftsQ2_eq (k : Nat) (cs : List V) : shiftsQ2 k cs = V.shifts k cs := by
  rw [shiftsQ2, mapQ_eq, shifts_map]
  exact List.map_congr_left fun v _ => shiftQ_eq k v
mutual
theorem shift_zero : ∀ v : V, v.shift 0 = v
  | .row .. | .ptr .. | .rel .. => rfl
  | .ag cs => by simp only [V.shift, shifts_zero cs]
  | .tp cs => by simp only [V.shift, shifts_zero cs]
  | .cl f cs => by simp only [V.shift, shifts_zero cs]
  | .d .. | .dx .. | .nil _ | .pd _ | .u => rfl
theorem shifts_zero : ∀ cs : List V, V.shifts 0 cs = cs
  | [] => rfl
  | c :: cs => by simp only [V.shifts, shift_zero c, shifts_zero cs]
end
mutual
theorem down_zero : ∀ v : V, v.down 0 = some v
  | .row .. | .ptr .. | .rel .. => by simp [V.down, downL]
  | .ag cs => by simp only [V.down, downs_zero cs, Option.map_some]
  | .tp cs => by simp only [V.down, downs_zero cs, Option.map_some]
  | .cl f cs => by simp only [V.down, downs_zero cs, Option.map_some]
  | .d .. | .dx .. | .nil _ | .pd _ | .u => rfl
theorem downs_zero : ∀ cs : List V, V.downs 0 cs = some cs
  | [] => rfl
  | c :: cs => by simp only [V.downs, down_zero c, downs_zero cs]
end
def down1Q (k : Nat) (v : V) : Option V := match v with
  | .d p t => some (.d p t)
  | .row l n lo len s => match Nat.ble k l with
    | true => some (.row (l - k) n lo len s)
    | false => none
  | .ptr l n off => match Nat.ble k l with
    | true => some (.ptr (l - k) n off)
    | false => none
  | v => v.down k
theorem down1Q_eq (k : Nat) (v : V) : down1Q k v = v.down k := by
  cases v with
  | row l n lo len s =>
    simp only [down1Q, V.down, downL, ble_dec]
    by_cases h : k ≤ l <;> simp [h]
  | ptr l n off =>
    simp only [down1Q, V.down, downL, ble_dec]
    by_cases h : k ≤ l <;> simp [h]
  | _ => rfl
noncomputable def downsQ (k : Nat) (cs : List V) : Option (List V) := List.rec (motive := fun _ => Option (List V)) (some []) (fun c _ ih => match down1Q k c with
  | some v => match ih with
    | some vs => some (v :: vs)
    | none => none
  | none => none) cs
theorem downsQ_eq (k : Nat) : ∀ cs : List V, downsQ k cs = V.downs k cs
  | [] => rfl
  | c :: cs => by
    show (match down1Q k c with
      | some v => match downsQ k cs with
        | some vs => some (v :: vs)
        | none => none
      | none => none) = _
    rw [down1Q_eq, downsQ_eq k cs]
    simp only [V.downs]
    cases V.down k c <;> cases V.downs k cs <;> rfl
/-! Forgetting. -/
def inQ (a b n : Nat) : Bool := match Nat.ble a n with
  | true => Nat.ble (n + 1) b
  | false => false
theorem inQ_eq (a b n : Nat) : inQ a b n = decide (a ≤ n ∧ n < b) := by
  unfold inQ
  rw [ble_dec, ble_dec]
  by_cases h : a ≤ n <;> simp [h, Nat.succ_le_iff]
def kill1Q (a b : Nat) (v : V) : V := match v with
  | .d p t => .d p t
  | .row 0 n lo len s => match inQ a b n with
    | true => .u
    | false => .row 0 n lo len s
  | .ptr 0 n off => match inQ a b n with
    | true => .u
    | false => .ptr 0 n off
  | .rel 0 n i off => match inQ a b n with
    | true => .u
    | false => .rel 0 n i off
  | .ag cs => .ag (V.kills a b cs)
  | .tp cs => .tp (V.kills a b cs)
  | .cl f cs => .cl f (V.kills a b cs)
  | v => v
theorem kill1Q_eq (a b : Nat) (v : V) : kill1Q a b v = v.kill a b := by
  cases v with
  | row l n lo len s =>
    cases l with
    | zero =>
      simp only [kill1Q, V.kill, inQ_eq]
      by_cases h : a ≤ n ∧ n < b <;> simp [h]
    | succ l => rfl
  | ptr l n off =>
    cases l with
    | zero =>
      simp only [kill1Q, V.kill, inQ_eq]
      by_cases h : a ≤ n ∧ n < b <;> simp [h]
    | succ l => rfl
  | rel l n i off =>
    cases l with
    | zero =>
      simp only [kill1Q, V.kill, inQ_eq]
      by_cases h : a ≤ n ∧ n < b <;> simp [h]
    | succ l => rfl
  | _ => rfl
theorem kills_map (a b : Nat) : ∀ cs : List V, V.kills a b cs = cs.map (V.kill a b)
  | [] => rfl
  | c :: cs => by simp only [V.kills, List.map_cons, kills_map a b cs]
noncomputable def killQ (a b : Nat) (v : V) : V := match v with
  | .ag cs => .ag (mapQ (kill1Q a b) cs)
  | .cl f cs => .cl f (mapQ (kill1Q a b) cs)
  | .tp cs => .tp (mapQ (kill1Q a b) cs)
  | v => kill1Q a b v
theorem killQ_eq (a b : Nat) (v : V) : killQ a b v = v.kill a b := by
  have e : ∀ cs : List V, mapQ (kill1Q a b) cs = V.kills a b cs := fun cs => by
    rw [mapQ_eq, kills_map]
    exact List.map_congr_left fun v _ => kill1Q_eq a b v
  cases v with
  | ag cs => show V.ag _ = V.ag _; rw [e]
  | cl f cs => show V.cl f _ = V.cl f _; rw [e]
  | tp cs => show V.tp _ = V.tp _; rw [e]
  | _ => simp only [killQ, kill1Q_eq]
noncomputable def obKillQ (a b : Nat) (o : Ob) : Ob := match o with
  | .box cs => .box (mapQ (killQ a b) cs)
  | o => o
theorem obKillQ_eq (a b : Nat) (o : Ob) : obKillQ a b o = o.kill a b := by
  cases o with
  | box cs =>
    show Ob.box _ = Ob.box _
    rw [mapQ_eq, kills_map]
    congr 1
    exact List.map_congr_left fun v _ => killQ_eq a b v
  | _ => rfl
noncomputable def killObQ (a b : Nat) (l : Lv) : Nat → Lv := List.rec (motive := fun _ => Nat → Lv) (fun _ => []) (fun o _ ih i => (match inQ a b i with
  | true => none
  | false => match o with
    | some o => some (obKillQ a b o)
    | none => none) :: ih (i + 1)) l
theorem killObQ_eq (a b : Nat) : ∀ (l : Lv) (i : Nat), killObQ a b l i = killOb a b i l
  | [], _ => rfl
  | o :: l, i => by
    show (match inQ a b i with
      | true => none
      | false => match o with
        | some o => some (obKillQ a b o)
        | none => none) :: killObQ a b l (i + 1) = _
    rw [killObQ_eq a b l (i + 1), inQ_eq]
    simp only [killOb]
    congr 1
    by_cases h : a ≤ i ∧ i < b
    · simp [h]
    · rw [if_neg h, decide_eq_false h]
      cases o with
      | none => rfl
      | some o => simp only [obKillQ_eq]; rfl
/-! Loads, stores, data. -/
noncomputable def St.loadQ (σ : St) (x : V) (w : Nat) : Option V :=
  match x with
  | .ptr l n off => match σ.objQ l n with
    | some (.box cs) => match sub? off (wid w) cs with
      | some cs => match l with
        | 0 => ofCells w cs
        | l + 1 => ofCells w (shiftsQ (l + 1) cs)
      | none => none
    | _ => none
  | x => σ.load x w
theorem loadQ_eq (x : V) (w : Nat) : σ.loadQ x w = σ.load x w := by
  cases x with
  | ptr l n off =>
    simp only [St.loadQ, St.load, objQ_eq]
    cases σ.obj l n with
    | none => rfl
    | some o => cases o with
      | box cs =>
        simp only
        cases sub? off (wid w) cs with
        | none => rfl
        | some cs => cases l with
          | zero => simp only [shifts_zero]
          | succ l => simp only [shiftsQ_eq]
      | _ => rfl
  | _ => rfl
noncomputable def St.storeQ (σ : St) (x y : V) (w : Nat) : Option St :=
  match x with
  | .ptr l n off => match cellsOf w y with
    | some new => match σ.objQ l n with
      | some (.box cs) => match (match l with | 0 => some new | l + 1 => downsQ (l + 1) new) with
        | some new => match Nat.ble (off + new.length) cs.length with
          | true => some (σ.setObjQ l n (some (.box (put off new cs))))
          | false => none
        | none => none
      | _ => none
    | none => none
  | x => σ.store x y w
theorem storeQ_eq (x y : V) (w : Nat) : σ.storeQ x y w = σ.store x y w := by
  cases x with
  | ptr l n off =>
    simp only [St.storeQ, St.store, objQ_eq, setObjQ_eq]
    have hd : ∀ new : List V, (match l with | 0 => some new | l + 1 => downsQ (l + 1) new) = V.downs l new := fun new => by
      cases l with
      | zero => exact (downs_zero new).symm
      | succ l => exact downsQ_eq _ _
    cases cellsOf w y with
    | none => cases σ.obj l n with
      | none => rfl
      | some o => cases o <;> rfl
    | some new =>
      simp only [hd, Option.bind_some]
      cases σ.obj l n with
      | none => cases V.downs l new <;> rfl
      | some o =>
        cases o with
        | box cs =>
          simp only
          cases V.downs l new with
          | none => rfl
          | some new =>
            simp only [ble_dec]
            by_cases h : off + new.length ≤ cs.length <;> simp [h]
        | _ => cases V.downs l new <;> rfl
  | _ => rfl
noncomputable def St.toT1Q (σ : St) (v : V) : Option (T × List Nat) := match v with
  | .d true t => some (t, [])
  | .nil s => some (.lst s [], [])
  | v => σ.toT v
theorem toT1Q_eq (v : V) : σ.toT1Q v = σ.toT v := by
  unfold St.toT1Q
  split
  · simp [St.toT]
  · simp [St.toT]
  · rfl
noncomputable def St.toTsQ (σ : St) (vs : List V) : Option (List T × List Nat) := List.rec (motive := fun _ => Option (List T × List Nat)) (some ([], [])) (fun v _ ih => match σ.toT1Q v with
  | some (t, ns) => match ih with
    | some (ts, ms) => some (t :: ts, ns ++ ms)
    | none => none
  | none => none) vs
theorem toTsQ_eq : ∀ vs : List V, σ.toTsQ vs = σ.toTs vs
  | [] => rfl
  | v :: vs => by
    show (match σ.toT1Q v with
      | some (t, ns) => match σ.toTsQ vs with
        | some (ts, ms) => some (t :: ts, ns ++ ms)
        | none => none
      | none => none) = _
    rw [toT1Q_eq, toTsQ_eq vs]
    simp only [St.toTs]
    cases σ.toT v with
    | none => rfl
    | some p => cases σ.toTs vs <;> rfl
noncomputable def St.toTQ (σ : St) (v : V) : Option (T × List Nat) := match v with
  | .ag cs => match σ.toTsQ cs with
    | some (ts, ns) => some (.agg ts, ns)
    | none => none
  | v => σ.toT1Q v
theorem toTQ_eq (v : V) : σ.toTQ v = σ.toT v := by
  cases v with
  | ag cs => simp only [St.toTQ, toTsQ_eq, St.toT]; cases σ.toTs cs <;> rfl
  | _ => simp only [St.toTQ, toT1Q_eq]
noncomputable def St.toTsQ2 (σ : St) (vs : List V) : Option (List T × List Nat) := List.rec (motive := fun _ => Option (List T × List Nat)) (some ([], [])) (fun v _ ih => match σ.toTQ v with
  | some (t, ns) => match ih with
    | some (ts, ms) => some (t :: ts, ns ++ ms)
    | none => none
  | none => none) vs
theorem toTsQ2_eq : ∀ vs : List V, σ.toTsQ2 vs = σ.toTs vs
  | [] => rfl
  | v :: vs => by
    show (match σ.toTQ v with
      | some (t, ns) => match σ.toTsQ2 vs with
        | some (ts, ms) => some (t :: ts, ns ++ ms)
        | none => none
      | none => none) = _
    rw [toTQ_eq, toTsQ2_eq vs]
    simp only [St.toTs]
    cases σ.toT v with
    | none => rfl
    | some p => cases σ.toTs vs <;> rfl
/-- appending -/
noncomputable def appQ (σ : St) (s nm : Nat) (x y : V) : Option (Nat × Nat × Ob × V) :=
  match x, y with
  | .row l n lo len s', .row l2 n2 lo2 len2 s2 => match Nat.beq s s', Nat.beq s s2, σ.objQ l n, σ.objQ l2 n2 with
    | true, true, some (.rw _ es _), some (.rw _ es2 _) => match Nat.ble (lo2 + len2) es2.length, Nat.beq len es.length, Nat.beq lo 0 with
      | true, true, true => match Nat.ble (es.length + (slice lo2 len2 es2).length) big with
        | true => some (l, n, .rw s (es ++ slice lo2 len2 es2) true, .row l n lo (len + (slice lo2 len2 es2).length) s)
        | false => none
      | _, _, _ => appN σ s nm x y
    | _, _, _, _ => appN σ s nm x y
  | _, _ => appN σ s nm x y
theorem appQ_eq (s nm : Nat) (x y : V) : appQ σ s nm x y = appN σ s nm x y := by
  unfold appQ
  split
  · rename_i l n lo len s' l2 n2 lo2 len2 s2
    split
    · rename_i k1 es k2 k3 es2 k4 h1 h2 h3 h4
      have e1 := Nat.eq_of_beq_eq_true h1
      have e2 := Nat.eq_of_beq_eq_true h2
      rw [objQ_eq] at h3 h4
      split
      · rename_i h5 h6 h7
        have e5 := Nat.le_of_ble_eq_true h5
        have e6 := Nat.eq_of_beq_eq_true h6
        have e7 := Nat.eq_of_beq_eq_true h7
        subst e1
        subst e2
        have hels : σ.els s (.row l2 n2 lo2 len2 s) = some (slice lo2 len2 es2) := by
          simp only [St.els, if_true, St.rowOf, h4]
          rw [if_pos e5]
        unfold appN
        rw [hels]
        simp only [if_true, h3, ble_dec]
        by_cases h8 : es.length + (slice lo2 len2 es2).length ≤ big
        · simp [h8, e6, e7]
        · simp [h8]
      · rfl
    · rfl
  · rfl
end
noncomputable def putOQ (d l n : Nat) (o : Ob) (v : V) (τ : StF) : StF := (τ.put (τ.core.setObjQ l n (some o))).set d v
theorem putOQ_eq (d l n : Nat) (o : Ob) (v : V) (τ : StF) : putOQ d l n o v τ = putO d l n o v τ := by unfold putOQ putO; rw [setObjQ_eq]
noncomputable def StF.killQ (a b : Nat) (τ : StF) : StF := ⟨τ.n, τ.t.map (Vm.killQ a b), killObQ a b τ.ob 0, τ.up⟩
theorem StF.killQ_eq (a b : Nat) (τ : StF) : τ.killQ a b = τ.kill a b := by
  unfold StF.killQ StF.kill
  rw [killObQ_eq, show Vm.killQ a b = V.kill a b from funext (Vm.killQ_eq a b)]
noncomputable def preQ (fs : List F) : StF → Option StF := match fs with
  | [] => fun τ => some τ
  | .kill a b :: fs => fun τ => preQ fs (τ.killQ a b)
  | .settle m :: fs => fun τ => match τ.settle m with
    | some τ => preQ fs τ
    | none => none
  | .frz m :: fs => fun τ => preQ fs (τ.put (τ.core.frz1 m))
  | .pur m :: fs => fun τ => preQ fs (τ.pur m)
  | .nrw _ _ :: _ => fun _ => none
  | .ren a b :: fs => fun τ => if a = b then none else preQ fs (τ.ren a b)
  | .renf a b :: fs => fun τ => if a = freeFrom τ.ob b then none else preQ fs (τ.ren a (freeFrom τ.ob b))
  | .unvs m :: fs => fun τ => match τ.core.unvs m with
    | some ρ => preQ fs (τ.put ρ)
    | none => none
theorem preQ_eq : ∀ (fs : List F) (τ : StF), preQ fs τ = preF fs τ
  | [], _ => rfl
  | .kill a b :: fs, τ => by
    show preQ fs (τ.killQ a b) = preF fs (τ.kill a b)
    rw [StF.killQ_eq, preQ_eq fs]
  | .settle m :: fs, τ => by
    show (match τ.settle m with
      | some τ => preQ fs τ
      | none => none) = (match τ.settle m with
      | some τ => preF fs τ
      | none => none)
    cases τ.settle m with
    | none => rfl
    | some τ => exact preQ_eq fs τ
  | .frz m :: fs, τ => preQ_eq fs _
  | .pur m :: fs, τ => preQ_eq fs _
  | .nrw _ _ :: _, _ => rfl
  | .ren a b :: fs, τ => by
    show (if a = b then none else preQ fs (τ.ren a b)) = (if a = b then none else preF fs (τ.ren a b))
    rw [preQ_eq fs]
  | .renf a b :: fs, τ => by
    show (if a = freeFrom τ.ob b then none else preQ fs (τ.ren a (freeFrom τ.ob b))) = (if a = freeFrom τ.ob b then none else preF fs (τ.ren a (freeFrom τ.ob b)))
    rw [preQ_eq fs]
  | .unvs m :: fs, τ => by
    show (match τ.core.unvs m with
      | some ρ => preQ fs (τ.put ρ)
      | none => none) = (match τ.core.unvs m with
      | some ρ => preF fs (τ.put ρ)
      | none => none)
    cases τ.core.unvs m with
    | none => rfl
    | some ρ => exact preQ_eq fs _
noncomputable def callRunQ (E : Env) (K : Tab) (call : Caller) (τ : StF) (f : Nat) (vs : List V) (rm : Option Nat) : Option (V × StF) :=
  match E.fn f with
  | some F => match F.pure with
    | none => match call f (shiftsQ2 1 vs) (τ.ob :: τ.up) with
      | some (v, τc) => backF false τ τc v rm
      | none => none
    | some _ => callRunF E K call τ f vs rm
  | none => callRunF E K call τ f vs rm
theorem callRunQ_eq (E : Env) (K : Tab) (call : Caller) (τ : StF) (f : Nat) (vs : List V) (rm : Option Nat) : callRunQ E K call τ f vs rm = callRunF E K call τ f vs rm := by
  unfold callRunQ
  split
  · rename_i F hF
    split
    · rename_i hp
      rw [shiftsQ2_eq]
      unfold callRunF
      rw [hF]
      simp only [hp]
      rfl
    · rfl
  · rfl
noncomputable def callvRunQ (E : Env) (call : Caller) (τ : StF) (x : V) (vs : List V) (rm : Option Nat) : Option (V × StF) :=
  match x with
  | .cl f caps => match E.fnV f with
    | some F => match F.pure with
      | none => match call (clF f) (shiftsQ2 1 (clA f vs caps)) (τ.ob :: τ.up) with
        | some (v, τc) => backF false τ τc v rm
        | none => none
      | some _ => none
    | none => none
  | _ => none
theorem callvRunQ_eq (E : Env) (call : Caller) (τ : StF) (x : V) (vs : List V) (rm : Option Nat) : callvRunQ E call τ x vs rm = callvRunF E call τ x vs rm := by
  unfold callvRunQ callvRunF
  simp only [shiftsQ2_eq]
  rfl
end Go.Proofs.YtcgjebaomhfbdaaGreat.Vm
