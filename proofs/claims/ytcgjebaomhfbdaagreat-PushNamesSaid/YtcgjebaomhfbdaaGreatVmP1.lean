/- A machine for the seat's programs and its soundness, part 1. -/
import Derived.Orders
import Derived.KernelRfl
import Derived.Tactics
import Derived.Laws.CopyRow
import Derived.Laws.Cells
import Derived.Laws.Tables
import Derived.ChangeKeysEq
/- A small deterministic machine over tree values: definitions. No theorem about Go in it.
   A slice is a list (T.lst: element's cells, elements), a struct the list of its cells (T.agg). What a call makes for itself and may still write are objects, named by numbers, a list of them for each frame. -/
namespace Go.Proofs.YtcgjebaomhfbdaaGreat.Vm
open Go

/-- Pure data. -/
inductive T where
  | int (k : IntKind) (n : Int)
  | bool (b : Bool)
  | lst (s : Nat) (es : List T)
  | agg (cs : List T)

def T.cells : T → List T
  | .agg cs => cs
  | t => [t]
def T.flat : T → Bool
  | .int _ _ | .bool _ => true
  | _ => false

/-- functions from 'bndF' on: bound to what they hold, which comes first -/
def bndF : Nat := 1024
/-- a nil pointer, as a function's number -/
def nilF : Nat := 4096
def clF (f : Nat) : Nat := match Nat.ble bndF f with
  | true => f - bndF
  | false => f
def clA {α : Type} (f : Nat) (as caps : List α) : List α := match Nat.ble bndF f with
  | true => caps ++ as
  | false => as ++ caps
/-- What a slot holds. d: data (false: lent for this call alone); dx: a slice without spare room; nil: an empty slice without room; row: a view of an object's elements; ptr: a box's cell; rel: an element's cell; pd: a cell that stays. -/
inductive V where
  | d (p : Bool) (t : T)
  | dx (p : Bool) (t : T)
  | nil (s : Nat)
  | row (l n lo len s : Nat)
  | ptr (l n off : Nat)
  | rel (l n i off : Nat)
  | pd (t : T)
  | ag (cs : List V)
  | tp (vs : List V)
  | cl (f : Nat) (caps : List V)
  | u

inductive Ob where
  | box (cs : List V)
  | rw (s : Nat) (es : List T) (gr : Bool)
  | fz (s : Nat) (es : List T)
  /-- a row whose memory another one has taken over: its views say nothing -/
  | gone

abbrev Lv := List (Option Ob)
structure St where
  sl : List V
  ob : Lv
  up : List Lv

/-! Lists that are as long as one asks. -/
def gt {α : Type} (d : α) : List α → Nat → α
  | [], _ => d
  | a :: _, 0 => a
  | _ :: l, n + 1 => gt d l n
def st {α : Type} (d : α) : List α → Nat → α → List α
  | [], 0, v => [v]
  | [], n + 1, v => d :: st d [] n v
  | _ :: l, 0, v => v :: l
  | a :: l, n + 1, v => a :: st d l n v

def St.get (σ : St) (i : Nat) : V := gt .u σ.sl i
def St.set (σ : St) (i : Nat) (v : V) : St := { σ with sl := st .u σ.sl i v }
def St.obj (σ : St) : Nat → Nat → Option Ob
  | 0, n => gt none σ.ob n
  | l + 1, n => gt none (gt [] σ.up l) n
def St.setObj (σ : St) : Nat → Nat → Option Ob → St
  | 0, n, o => { σ with ob := st none σ.ob n o }
  | l + 1, n, o => { σ with up := st [] σ.up l (st none (gt [] σ.up l) n o) }

/-! Levels: one frame further in, and out again. -/
mutual
def V.shift (k : Nat) : V → V
  | .row l n lo len s => .row (l + k) n lo len s
  | .ptr l n off => .ptr (l + k) n off
  | .rel l n i off => .rel (l + k) n i off
  | .ag cs => .ag (V.shifts k cs)
  | .tp cs => .tp (V.shifts k cs)
  | .cl f cs => .cl f (V.shifts k cs)
  | v => v
def V.shifts (k : Nat) : List V → List V
  | [] => []
  | v :: vs => V.shift k v :: V.shifts k vs
end
/-- nothing of a level below k -/
def downL (k l : Nat) : Option Nat := if k ≤ l then some (l - k) else none
mutual
def V.down (k : Nat) : V → Option V
  | .row l n lo len s => (downL k l).map fun l => .row l n lo len s
  | .ptr l n off => (downL k l).map fun l => .ptr l n off
  | .rel l n i off => (downL k l).map fun l => .rel l n i off
  | .ag cs => (V.downs k cs).map .ag
  | .tp cs => (V.downs k cs).map .tp
  | .cl f cs => (V.downs k cs).map (.cl f)
  | v => some v
def V.downs (k : Nat) : List V → Option (List V)
  | [] => some []
  | v :: vs => match V.down k v, V.downs k vs with
    | some v, some vs => some (v :: vs)
    | _, _ => none
end

/-! Forgetting objects of this frame, by a range of names. -/
mutual
def V.kill (a b : Nat) : V → V
  | .row 0 n lo len s => if a ≤ n ∧ n < b then .u else .row 0 n lo len s
  | .ptr 0 n off => if a ≤ n ∧ n < b then .u else .ptr 0 n off
  | .rel 0 n i off => if a ≤ n ∧ n < b then .u else .rel 0 n i off
  | .ag cs => .ag (V.kills a b cs)
  | .tp cs => .tp (V.kills a b cs)
  | .cl f cs => .cl f (V.kills a b cs)
  | v => v
def V.kills (a b : Nat) : List V → List V
  | [] => []
  | v :: vs => V.kill a b v :: V.kills a b vs
end
def Ob.kill (a b : Nat) : Ob → Ob
  | .box cs => .box (V.kills a b cs)
  | o => o
def killOb (a b : Nat) : Nat → Lv → Lv
  | _, [] => []
  | i, o :: os => (if a ≤ i ∧ i < b then none else o.map (Ob.kill a b)) :: killOb a b (i + 1) os
def St.kill (σ : St) (a b : Nat) : St :=
  { σ with sl := σ.sl.map (V.kill a b), ob := killOb a b 0 σ.ob }
/-! Forgetting the views of a row that do not reach its end (they may lie in memory that it has left). -/
mutual
def V.settle (m k : Nat) : V → V
  | .row 0 n lo len s => if n = m then (if lo + len = k then .row 0 n lo len s else .u) else .row 0 n lo len s
  | .rel 0 n i off => if n = m then .u else .rel 0 n i off
  | .ag cs => .ag (V.settles m k cs)
  | .tp cs => .tp (V.settles m k cs)
  | .cl f cs => .cl f (V.settles m k cs)
  | v => v
def V.settles (m k : Nat) : List V → List V
  | [] => []
  | v :: vs => V.settle m k v :: V.settles m k vs
end
def Ob.settle (m k : Nat) : Ob → Ob
  | .box cs => .box (V.settles m k cs)
  | o => o
def St.settle (σ : St) (m : Nat) : Option St :=
  match σ.obj 0 m with
  | some (.rw s es _) =>
    some { σ with sl := σ.sl.map (V.settle m es.length), ob := (st none σ.ob m (some (.rw s es false))).map (Option.map (Ob.settle m es.length)) }
  | _ => none

/-! Operands and operations. -/
inductive X where
  | t (n : Nat)
  | c (v : V)
inductive Z where
  | k (t : T)
  | r (nm s : Nat)
  | n (s : Nat)
  | u
inductive I where
  | mv (d : Nat) (x : X)
  | nilr (d nm s : Nat)
  | pick (d : Nat) (c a b : X)
  | bin (d : Nat) (op : BinOp) (x y : X)
  | beq (d : Nat) (ne : Bool) (x y : X)
  | eqs (d : Nat) (ne : Bool) (ks : List Bool) (x y : X)
  | un (d : Nat) (op : UnOp) (x : X)
  | cvt (d : Nat) (k : IntKind) (x : X)
  | alloc (d nm : Nat) (z : List Z)
  | box (d nm : Nat) (x : X) (w : Nat)
  | load (d : Nat) (x : X) (w : Nat)
  | store (x y : X) (w : Nat)
  | fad (d : Nat) (x : X) (off w : Nat)
  | fval (d : Nat) (x : X) (off w : Nat)
  | ix (d : Nat) (x i : X) (s : Nat)
  | ixb (d : Nat) (x i : X) (n s : Nat)
  | ixa (d : Nat) (x i : X) (n s : Nat)
  | stx (d : Nat) (bs : List Nat) (i : X)
  | bld (d : Nat) (z : List Z) (ps : List (Nat × Nat × X))
  | bsl (d nm s n : Nat) (z : Z) (ps : List (Nat × X))
  | mks (d nm s : Nat) (n c : X) (z : Z)
  | slc (d s : Nat) (x : X) (lo hi mx : Option X)
  | len (d : Nat) (x : X)
  | mx (d : Nat) (x : X) (xs : List X)
  | mn (d : Nat) (x : X) (xs : List X)
  | app (d nm s : Nat) (x y : X)
  | cpy (d s : Nat) (x y : X)
  | clr (s : Nat) (x : X) (z : Z)
  /-- made in a frame above -/
  | mkl (d l nm s : Nat) (n c : X) (z : Z)
  | apl (d l nm s : Nat) (x y : X)
  /-- rows of slots: an element's cell, a row of one, rows joined -/
  | ixv (d : Nat) (x i : X)
  | bsv (d nm : Nat) (xs : List X)
  | apv (d nm : Nat) (x y : X)
  | xt (d : Nat) (x : X) (i : Nat)
  | fn (d f : Nat) (caps : List X)
  | chk (d : Nat) (x : X)
  | call (d f : Nat) (as : List X) (rm : Option Nat)
  | callv (d : Nat) (x : X) (as : List X) (rm : Option Nat)
  | bad
/-- an operation and its guard -/
structure G where
  i : I
  g : Option (Nat × Bool) := none
/-- what is forgotten ahead of a region -/
inductive F where
  | kill (a b : Nat)
  | settle (m : Nat)
  | frz (m : Nat)
  | pur (m : Nat)
  | nrw (d m : Nat)
  | ren (a b : Nat)
  /-- to the first free name from b on -/
  | renf (a b : Nat)
  | unvs (m : Nat)
inductive C where
  | skip
  | rg (id : Nat) (draw : Bool) (fs : List F) (is : List G) (os : List (List Nat))
  | seq (a b : C)
  | cond (x : X) (a b : C)
  | block (id : Nat) (c : C)
  | loop (c : C)
  | exit (id : Nat)
  | ret
  | rfun (x : X) (ps : List Nat) (a b : C)
  | bad

abbrev dInt (n : Int) : V := .d true (.int .i64 n)
abbrev dBool (b : Bool) : V := .d true (.bool b)
def St.val (σ : St) : X → V
  | .t n => σ.get n
  | .c v => v
def St.vals (σ : St) (xs : List X) : List V := xs.map σ.val

/-- reading a value whole -/
def slice {α : Type} (lo len : Nat) (es : List α) : List α := (es.drop lo).take len
/-! Views of a frozen row as data. -/
mutual
def V.pur (m : Nat) (es : List T) : V → V
  | .row 0 n lo len s => if n = m then (if lo + len ≤ es.length then .d true (.lst s (slice lo len es)) else .u) else .row 0 n lo len s
  | .rel 0 n i off => if n = m then .u else .rel 0 n i off
  | .ag cs => .ag (V.purs m es cs)
  | .tp cs => .tp (V.purs m es cs)
  | .cl f cs => .cl f (V.purs m es cs)
  | v => v
def V.purs (m : Nat) (es : List T) : List V → List V
  | [] => []
  | v :: vs => V.pur m es v :: V.purs m es vs
end
def Ob.pur (m : Nat) (es : List T) : Ob → Ob
  | .box cs => .box (V.purs m es cs)
  | o => o
def St.pur (σ : St) (m : Nat) : St := match σ.obj 0 m with
  | some (.fz _ es) => { σ with sl := σ.sl.map (V.pur m es), ob := σ.ob.map (Option.map (Ob.pur m es)) }
  | _ => σ
def St.rowOf (σ : St) (l n lo len : Nat) : Option (List T) :=
  match σ.obj l n with
  | some (.rw _ es _) | some (.fz _ es) => if lo + len ≤ es.length then some (slice lo len es) else none
  | _ => none
/-- the elements of a slice of elements of s cells -/
def St.els (σ : St) (s : Nat) : V → Option (List T)
  | .d _ (.lst s' es) | .dx _ (.lst s' es) => if s = s' then some es else none
  | .nil _ => some []
  | .row l n lo len s' => if s = s' then σ.rowOf l n lo len else none
  | _ => none
mutual
/-- Data for good: rows of this frame are frozen by it (their names are listed). -/
def St.toT (σ : St) : V → Option (T × List Nat)
  | .d true t => some (t, [])
  | .dx true t => some (t, [])
  | .nil s => some (.lst s [], [])
  | .row l n lo len s =>
    match l, σ.obj l n with
    | _, some (.fz _ es) => if lo + len ≤ es.length then some (.lst s (slice lo len es), []) else none
    | 0, some (.rw _ es _) => if lo + len ≤ es.length then some (.lst s (slice lo len es), [n]) else none
    | _, _ => none
  | .ag cs => match σ.toTs cs with
    | some (ts, ns) => some (.agg ts, ns)
    | none => none
  | _ => none
def St.toTs (σ : St) : List V → Option (List T × List Nat)
  | [] => some ([], [])
  | v :: vs => match σ.toT v, σ.toTs vs with
    | some (t, ns), some (ts, ms) => some (t :: ts, ns ++ ms)
    | _, _ => none
end
def St.frz1 (σ : St) (n : Nat) : St :=
  match σ.obj 0 n with
  | some (.rw s es _) => σ.setObj 0 n (some (.fz s es))
  | _ => σ
def St.frz (σ : St) (ns : List Nat) : St := ns.foldl St.frz1 σ
def ofT : T → V
  | .agg cs => .ag (cs.map (.d true))
  | t => .d true t

def arith (op : BinOp) (k : IntKind) (a b : Int) : Option T :=
  match op with
  | .add => some (.int k (k.wrap (a + b)))
  | .sub => some (.int k (k.wrap (a - b)))
  | .mul => some (.int k (k.wrap (a * b)))
  | .quo => if b = 0 then none else some (.int k (k.wrap (a.tdiv b)))
  | .rem => if b = 0 then none else some (.int k (a.tmod b))
  | .and => some (.int k (k.wrap (BitVec.ofInt k.bits a &&& BitVec.ofInt k.bits b).toNat))
  | .or => some (.int k (k.wrap (BitVec.ofInt k.bits a ||| BitVec.ofInt k.bits b).toNat))
  | .xor => some (.int k (k.wrap (BitVec.ofInt k.bits a ^^^ BitVec.ofInt k.bits b).toNat))
  | .andNot => some (.int k (k.wrap (BitVec.ofInt k.bits a &&& ~~~ BitVec.ofInt k.bits b).toNat))
  | .shl => if b < 0 then none else some (.int k (k.wrap (a * 2 ^ (min b.toNat k.bits))))
  | .shr => if b < 0 then none else some (.int k (a.fdiv (2 ^ (min b.toNat k.bits))))
  | .eql => some (.bool (a == b))
  | .neq => some (.bool (a != b))
  | .lss => some (.bool (decide (a < b)))
  | .leq => some (.bool (decide (a ≤ b)))
  | .gtr => some (.bool (decide (a > b)))
  | .geq => some (.bool (decide (a ≥ b)))
def isShift : BinOp → Bool
  | .shl | .shr => true
  | _ => false
def bin (op : BinOp) : V → V → Option V
  | .d _ (.int k a), .d _ (.int k' b) => if k = k' ∨ isShift op = true then (arith op k a b).map (.d true) else none
  | _, _ => none
def beq (ne : Bool) : V → V → Option V
  | .d _ (.bool a), .d _ (.bool b) => some (dBool ((a == b) != ne))
  | _, _ => none
def eqFlat (num : Bool) : V → V → Option Bool
  | .d _ (.int k a), .d _ (.int k' b) => if num = true ∧ k = k' then some (a == b) else none
  | .d _ (.bool a), .d _ (.bool b) => if num = true then none else some (a == b)
  | _, _ => none
/-- parts in turn, till two differ; num: numbers, else truth values -/
def eqs : List Bool → List V → List V → Option Bool
  | [], [], [] => some true
  | k :: ks, a :: as, b :: bs => match eqFlat k a b with
    | some true => eqs ks as bs
    | some false => some false
    | none => none
  | _, _, _ => none
def un (op : UnOp) : V → Option V
  | .d _ (.bool b) => match op with
    | .not => some (dBool (!b))
    | _ => none
  | .d _ (.int k n) => match op with
    | .neg => some (.d true (.int k (k.wrap (0 - n))))
    | _ => none
  | _ => none

/-- a new object; its name must be free -/
def St.new (σ : St) (nm : Nat) (o : Ob) : Option St :=
  match σ.obj 0 nm with
  | none => some (σ.setObj 0 nm (some o))
  | some _ => none
def zcells (σ : St) : List Z → Option (List V × St)
  | [] => some ([], σ)
  | z :: zs => match zcells σ zs with
    | none => none
    | some (vs, σ) => match z with
      | .k t => some (.d true t :: vs, σ)
      | .n s => some (.nil s :: vs, σ)
      | .u => some (.u :: vs, σ)
      | .r nm s => match σ.new nm (.rw s [] false) with
        | some σ => some (.row 0 nm 0 0 s :: vs, σ)
        | none => none
def Z.v : Z → Option V
  | .k t => some (.d true t)
  | .n s => some (.nil s)
  | .u => some .u
  | .r _ _ => none
def Z.t? : Z → Option T
  | .k t => some t
  | .n s => some (.lst s [])
  | _ => none
/-- a value's cells: w = 0: a cell; w + 1: a struct of w cells -/
def cellsOf (w : Nat) (v : V) : Option (List V) :=
  match w, v with
  | 0, .ag _ | 0, .tp _ | 0, .u | 0, .d _ (.agg _) => none
  | 0, v => some [v]
  | w + 1, .ag cs => if cs.length = w then some cs else none
  | _ + 1, _ => none
def ofCells (w : Nat) (cs : List V) : Option V :=
  match w with
  | 0 => match cs with
    | [v] => some v
    | _ => none
  | _ + 1 => some (.ag cs)
def wid (w : Nat) : Nat := match w with
  | 0 => 1
  | w + 1 => w
def sub? {α : Type} (off n : Nat) (l : List α) : Option (List α) := if off + n ≤ l.length then some (slice off n l) else none
def put {α : Type} (off : Nat) (new l : List α) : List α := l.take off ++ new ++ l.drop (off + new.length)

def isOne (v : V) : Bool := (cellsOf 0 v).isSome
def St.load (σ : St) (x : V) (w : Nat) : Option V :=
  match x with
  | .pd t => match (t.cells.map (.d true) : List V) with
    | cs => if cs.length = wid w then ofCells w cs else none
  | .ptr l n off => match σ.obj l n with
    | some (.box cs) => match sub? off (wid w) cs with
      | some cs => ofCells w (V.shifts l cs)
      | none => none
    | _ => none
  | .rel l n i off => match σ.obj l n with
    | some (.rw _ es _) | some (.fz _ es) => match es[i]? with
      | some t => match sub? off (wid w) t.cells with
        | some cs => ofCells w (cs.map (.d true))
        | none => none
      | none => none
    | _ => none
  | _ => none
def St.store (σ : St) (x y : V) (w : Nat) : Option St :=
  match x with
  | .ptr l n off => match σ.obj l n, (cellsOf w y).bind (V.downs l) with
    | some (.box cs), some new => if off + new.length ≤ cs.length then some (σ.setObj l n (some (.box (put off new cs)))) else none
    | _, _ => none
  | .rel l n i 0 => match σ.toT y with
    | some (t, ns) =>
      let σ := σ.frz ns
      match σ.obj l n with
      | some (.rw s es false) => if i < es.length ∧ t.cells.length = s ∧ s = wid w then some (σ.setObj l n (some (.rw s (es.set i t) false))) else none
      | _ => none
    | none => none
  | _ => none
def fad (x : V) (off w : Nat) : Option V :=
  match x with
  | .ptr l n o => some (.ptr l n (o + off))
  | .rel l n i o => some (.rel l n i (o + off))
  | .pd (.agg cs) => match sub? off (wid w) cs with
    | some c => match w with
      | 0 => match c with
        | [t] => some (.pd t)
        | _ => none
      | _ + 1 => some (.pd (.agg c))
    | none => none
  | _ => none
def natOf (len : Nat) : V → Option Nat
  | .d _ (.int _ i) => if 0 ≤ i ∧ i < (len : Int) then some i.toNat else none
  | _ => none
def St.ix (σ : St) (x i : V) (s : Nat) : Option V :=
  match x with
  | .d _ (.lst s' es) | .dx _ (.lst s' es) => if s = s' then (natOf es.length i).bind fun j => (es[j]?).map .pd else none
  | .row l n lo len s' => if s = s' then (natOf len i).bind fun j => match σ.obj l n with
      | some (.rw _ es _) | some (.fz _ es) => if lo + len ≤ es.length then some (.rel l n (lo + j) 0) else none
      | _ => none
    else none
  | _ => none
def bnd (hi : Nat) : V → Option Nat
  | .d _ (.int _ i) => if 0 ≤ i ∧ i ≤ (hi : Int) then some i.toNat else none
  | _ => none
def cut (lo hi : Option V) (len : Nat) : Option (Nat × Nat) :=
  match (match hi with | some v => bnd len v | none => some len) with
  | some h => match (match lo with | some v => bnd h v | none => some 0) with
    | some l => some (l, h)
    | none => none
  | none => none
def St.slc (s₀ : Nat) (x : V) (lo hi mx : Option V) : Option V :=
  match x with
  | .d p (.lst s es) => if s = s₀ then match cut lo hi es.length with
    | some (l, h) => match mx with
      | none => some (.d p (.lst s (slice l (h - l) es)))
      | some m => match bnd es.length m with
        | some m => if m = h then (match m with | 0 => some (.nil s) | _ + 1 => some (.dx p (.lst s (slice l (h - l) es)))) else if h ≤ m then some .u else none
        | none => none
    | none => none else none
  | .nil s => match cut lo hi 0, mx with
    | some _, none => some (.nil s)
    | _, _ => none
  | .row l n o len s => if s = s₀ then match cut lo hi len with
    | some (a, h) => match mx with
      | none => some (.row l n (o + a) (h - a) s)
      | some m => match bnd len m with
        | some m => if m = h then some (.row l n (o + a) (h - a) s) else if h ≤ m then some .u else none
        | none => none
    | none => none else none
  | _ => none
def lenOf : V → Option Nat
  | .d _ (.lst _ es) | .dx _ (.lst _ es) => some es.length
  | .nil _ => some 0
  | .row _ _ _ len _ => some len
  | _ => none
def big : Nat := 4294967296
def St.app (σ : St) (d nm s : Nat) (x y : V) : Option St :=
  match σ.els s y with
  | none => none
  | some ys => match x with
    | .nil s' => if s = s' ∧ ys.length ≤ big then (σ.new nm (.rw s ys true)).map fun σ => σ.set d (.row 0 nm 0 ys.length s) else none
    | .dx _ (.lst s' es) => if s = s' ∧ 0 < ys.length ∧ es.length + ys.length ≤ big then (σ.new nm (.rw s (es ++ ys) true)).map fun σ => σ.set d (.row 0 nm 0 (es.length + ys.length) s) else none
    | .row l n lo len s' => if s = s' then match σ.obj l n with
        | some (.rw _ es _) => if len = es.length ∧ es.length + ys.length ≤ big ∧ lo = 0 then
            some ((σ.setObj l n (some (.rw s (es ++ ys) true))).set d (.row l n lo (len + ys.length) s)) else none
        | _ => none
      else none
    | _ => none
/-- a new object in a frame -/
def St.newL (σ : St) (l nm : Nat) (o : Ob) : Option St := if l ≤ σ.up.length then match σ.obj l nm with
  | none => some (σ.setObj l nm (some o))
  | some _ => none
  else none
def St.apl (σ : St) (d l nm s : Nat) (x y : V) : Option St := match x with
  | .nil s' => match σ.els s y with
    | none => none
    | some ys => if s = s' ∧ 0 < ys.length ∧ ys.length ≤ big then (σ.newL l nm (.rw s ys true)).map fun σ => σ.set d (.row l nm 0 ys.length s) else none
  | .row l' n' lo len s' => σ.app d nm s (.row l' n' lo len s') y
  | _ => none
def St.ixv (σ : St) (x i : V) : Option V := match x with
  | .row l n lo len s => if s = 1 then match natOf len i, σ.obj l n with
    | some j, some (.box cs) => if lo + len ≤ cs.length then some (.ptr l n (lo + j)) else none
    | _, _ => none
    else none
  | _ => none
def St.apv (σ : St) (d nm : Nat) (x y : V) : Option St := match y with
  | .row l m lo k s => if l = 0 ∧ lo = 0 ∧ s = 1 then match σ.obj 0 m with
    | some (.box ds) => if ds.length = k ∧ 0 < k ∧ k ≤ big then match x with
      | .nil s => if s = 1 then (σ.new nm (.box ds)).map fun σ => σ.set d (.row 0 nm 0 k 1) else none
      | .row l n lo len s => if l = 0 ∧ lo = 0 ∧ s = 1 ∧ n ≠ m ∧ n ≠ nm then match σ.obj 0 n with
        | some (.box cs) => if cs.length = len ∧ 0 < len ∧ len + k ≤ big then ((σ.setObj 0 n (some .gone)).new nm (.box (cs ++ ds))).map fun σ => σ.set d (.row 0 nm 0 (len + k) 1) else none
        | _ => none
        else none
      | _ => none
      else none
    | _ => none
    else none
  | _ => none
def St.cpy (σ : St) (d s : Nat) (x y : V) : Option St :=
  match σ.els s y, x with
  | some ys, .row l n lo len s' => if s = s' then match σ.obj l n with
      | some (.rw _ es false) => if lo + len ≤ es.length then
          let new := ys.take len
          some ((σ.setObj l n (some (.rw s (put lo new es) false))).set d (dInt new.length)) else none
      | _ => none
    else none
  | _, _ => none
def St.clr (σ : St) (s : Nat) (x : V) (z : T) : Option St :=
  match x with
  | .row l n lo len s' => if s = s' then match σ.obj l n with
      | some (.rw _ es false) => if lo + len ≤ es.length then some (σ.setObj l n (some (.rw s (put lo (List.replicate len z) es) false))) else none
      | _ => none
    else none
  | .nil _ => some σ
  | _ => none
def fill (cs : List V) : List (Nat × Nat × V) → Option (List V)
  | [] => some cs
  | (off, w, v) :: ps => match cellsOf w v with
    | some new => if off + new.length ≤ cs.length then fill (put off new cs) ps else none
    | none => none
def fillT (ts : List T) (s : Nat) : List (Nat × T) → Option (List T)
  | [] => some ts
  | (i, t) :: ps => if i < ts.length ∧ t.cells.length = s then fillT (ts.set i t) s ps else none
def T.noL : T → Bool
  | .agg cs => cs.all T.flat
  | t => t.flat
/-- elements are without slices where the type's zero value is -/
def flatFill (t : T) (ts : List T) (r : Option (List T)) : Option (List T) := if t.noL = true ∧ ts.all T.noL = false then none else r
/-- a byte of a string -/
def stx (bs : List Nat) (v : V) : Option V := (natOf bs.length v).bind fun j => (bs[j]?).map fun (b : Nat) => .d true (.int .u8 (b : Int))
def max2 (gr : Bool) : V → V → Option V
  | .d _ (.int k a), .d _ (.int k' b) => if k = k' then some (.d true (.int k (if (if gr then decide (b > a) else decide (b < a)) then b else a))) else none
  | _, _ => none
def maxOf (gr : Bool) : V → List V → Option V
  | v, [] => some v
  | v, x :: xs => (max2 gr v x).bind (maxOf gr · xs)

/-- what a nil check lets pass -/
def chkV : V → Option V
  | .ptr l n o => some (.ptr l n o)
  | .cl f cs => match Nat.ble nilF f with
    | true => none
    | false => some (.cl f cs)
  | _ => none
/-- One operation that calls nothing. -/
def step (σ : St) : I → Option St
  | .mv d x => some (σ.set d (σ.val x))
  | .nilr d nm s => (σ.new nm (.rw s [] false)).map fun σ => σ.set d (.row 0 nm 0 0 s)
  | .pick d c a b => match σ.val c with
    | .d _ (.bool t) => some (σ.set d (if t then σ.val a else σ.val b))
    | _ => none
  | .bin d op x y => (bin op (σ.val x) (σ.val y)).map (σ.set d)
  | .beq d ne x y => (beq ne (σ.val x) (σ.val y)).map (σ.set d)
  | .eqs d ne ks x y => match σ.val x, σ.val y with
    | .ag as, .ag bs => (eqs ks as bs).map fun b => σ.set d (dBool (b != ne))
    | _, _ => none
  | .un d op x => (un op (σ.val x)).map (σ.set d)
  | .cvt d k x => match σ.val x with
    | .d _ (.int _ n) => some (σ.set d (.d true (.int k (k.wrap n))))
    | _ => none
  | .alloc d nm z => match zcells σ z with
    | some (cs, σ) => (σ.new nm (.box cs)).map fun σ => σ.set d (.ptr 0 nm 0)
    | none => none
  | .box d nm x w => match cellsOf w (σ.val x) with
    | some cs => (σ.new nm (.box cs)).map fun σ => σ.set d (.ptr 0 nm 0)
    | none => none
  | .load d x w => (σ.load (σ.val x) w).map (σ.set d)
  | .store x y w => σ.store (σ.val x) (σ.val y) w
  | .fad d x off w => (fad (σ.val x) off w).map (σ.set d)
  | .fval d x off w => match σ.val x with
    | .ag cs => ((sub? off (wid w) cs).bind (ofCells w)).map (σ.set d)
    | _ => none
  | .ix d x i s => (σ.ix (σ.val x) (σ.val i) s).map (σ.set d)
  | .ixb d x i n s => match σ.val x with
    | .ptr l m off => (natOf n (σ.val i)).map fun j => σ.set d (.ptr l m (off + j * s))
    | _ => none
  | .ixa d x i n w => match σ.val x with
    | .ag cs => ((natOf n (σ.val i)).bind fun j => (sub? (j * wid w) (wid w) cs).bind (ofCells w)).map (σ.set d)
    | _ => none
  | .stx d bs i => (stx bs (σ.val i)).map (σ.set d)
  | .bld d z ps => match z.mapM Z.v with
    | some cs => (fill cs (ps.map fun (o, w, x) => (o, w, σ.val x))).map fun cs => σ.set d (.ag cs)
    | none => none
  | .bsl d nm s n z ps => match σ.toTs (ps.map fun p => σ.val p.2), z.t? with
    | some (ts, ns), some t => match flatFill t ts (fillT (List.replicate n t) s ((ps.map (·.1)).zip ts)) with
      | some es => ((σ.frz ns).new nm (.rw s es false)).map fun σ => σ.set d (.row 0 nm 0 n s)
      | none => none
    | _, _ => none
  | .mks d nm s n c z => match bnd big (σ.val n), bnd big (σ.val c), z.t? with
    | some n, some c, some t => if n = c then (σ.new nm (.rw s (List.replicate n t) false)).map fun σ => σ.set d (.row 0 nm 0 n s) else none
    | _, _, _ => none
  | .slc d s x lo hi mx => (St.slc s (σ.val x) (lo.map σ.val) (hi.map σ.val) (mx.map σ.val)).map (σ.set d)
  | .len d x => (lenOf (σ.val x)).map fun (n : Nat) => σ.set d (dInt (n : Int))
  | .mx d x xs => (maxOf true (σ.val x) (σ.vals xs)).map (σ.set d)
  | .mn d x xs => (maxOf false (σ.val x) (σ.vals xs)).map (σ.set d)
  | .app d nm s x y => σ.app d nm s (σ.val x) (σ.val y)
  | .cpy d s x y => σ.cpy d s (σ.val x) (σ.val y)
  | .clr s x z => z.t?.bind fun t => σ.clr s (σ.val x) t
  | .mkl d l nm s n c z => match bnd big (σ.val n), bnd big (σ.val c), z.t? with
    | some n, some c, some t => if n = c then (σ.newL l nm (.rw s (List.replicate n t) false)).map fun σ => σ.set d (.row l nm 0 n s) else none
    | _, _, _ => none
  | .apl d l nm s x y => σ.apl d l nm s (σ.val x) (σ.val y)
  | .ixv d x i => (σ.ixv (σ.val x) (σ.val i)).map (σ.set d)
  | .bsv d nm xs => if (σ.vals xs).all isOne = true then (σ.new nm (.box (σ.vals xs))).map fun σ => σ.set d (.row 0 nm 0 xs.length 1) else none
  | .apv d nm x y => σ.apv d nm (σ.val x) (σ.val y)
  | .xt d x i => match σ.val x with
    | .tp vs => (vs[i]?).map (σ.set d)
    | _ => none
  | .fn d f caps => some (σ.set d (.cl f (σ.vals caps)))
  | .chk d x => (chkV (σ.val x)).map (σ.set d)
  | .call .. | .callv .. | .bad => none
/-- the slot that an operation writes -/
def I.dst : I → Option Nat
  | .mv d _ | .nilr d _ _ | .pick d _ _ _ | .bin d _ _ _ | .beq d _ _ _ | .eqs d _ _ _ _ | .un d _ _ | .cvt d _ _ | .alloc d _ _ | .box d _ _ _ | .load d _ _ | .fad d _ _ _
  | .fval d _ _ _ | .ix d _ _ _ | .ixb d _ _ _ _ | .ixa d _ _ _ _ | .stx d _ _ | .bld d _ _ | .bsl d _ _ _ _ _ | .mks d _ _ _ _ _ | .slc d _ _ _ _ _ | .len d _ | .mx d _ _ | .mn d _ _
  | .app d _ _ _ _ | .cpy d _ _ _ | .xt d _ _ | .fn d _ _ | .chk d _ | .call d _ _ _ | .callv d _ _ _ | .mkl d _ _ _ _ _ _ | .apl d _ _ _ _ _ | .ixv d _ _ | .bsv d _ _ | .apv d _ _ _ => some d
  | .store .. | .clr .. | .bad => none
/-- an empty slice without room becomes a row -/
def St.nrw (σ : St) (d m : Nat) : Option St := match σ.get d with
  | .nil s => (σ.new m (.rw s [] false)).map fun σ => σ.set d (.row 0 m 0 0 s)
  | _ => some σ
/-! An object of this frame takes another name; what had that name is forgotten. -/
def renN (a b n : Nat) (v : Nat → V) : V := if n = a then v b else if n = b then .u else v n
mutual
def V.ren (a b : Nat) : V → V
  | .row 0 n lo len s => renN a b n fun n => .row 0 n lo len s
  | .ptr 0 n off => renN a b n fun n => .ptr 0 n off
  | .rel 0 n i off => renN a b n fun n => .rel 0 n i off
  | .ag cs => .ag (V.rens a b cs)
  | .tp cs => .tp (V.rens a b cs)
  | .cl f cs => .cl f (V.rens a b cs)
  | v => v
def V.rens (a b : Nat) : List V → List V
  | [] => []
  | v :: vs => V.ren a b v :: V.rens a b vs
end
def Ob.ren (a b : Nat) : Ob → Ob
  | .box cs => .box (V.rens a b cs)
  | o => o
def renOb (a b : Nat) (os : Lv) : Lv := st none (st none (os.map (Option.map (Ob.ren a b))) b ((gt none os a).map (Ob.ren a b))) a none
def St.ren (σ : St) (a b : Nat) : St := { σ with sl := σ.sl.map (V.ren a b), ob := renOb a b σ.ob }
def freeFrom (os : Lv) (b : Nat) : Nat := b + (os.drop b).findIdx Option.isNone
def St.unvs (σ : St) (m : Nat) : Option St := match σ.obj 0 m with
  | some (.box cs) => match σ.toTs cs with
    | some (ts, ns) => some ((σ.frz ns).setObj 0 m (some (.fz 1 ts)))
    | none => none
  | _ => some σ
def pre (σ : St) : List F → Option St
  | [] => some σ
  | .kill a b :: fs => pre (σ.kill a b) fs
  | .settle m :: fs => match σ.settle m with
    | some σ => pre σ fs
    | none => none
  | .frz m :: fs => pre (σ.frz1 m) fs
  | .pur m :: fs => pre (σ.pur m) fs
  | .nrw d m :: fs => match σ.nrw d m with
    | some σ => pre σ fs
    | none => none
  | .ren a b :: fs => if a = b then none else pre (σ.ren a b) fs
  | .renf a b :: fs => if a = freeFrom σ.ob b then none else pre (σ.ren a (freeFrom σ.ob b)) fs
  | .unvs m :: fs => match σ.unvs m with
    | some σ => pre σ fs
    | none => none
/-! A loop over a function: what its code must not have. -/
def C.noRf : C → Bool
  | .seq a b | .cond _ a b => a.noRf && b.noRf
  | .block _ a | .loop a => a.noRf
  | .rfun _ _ _ _ => false
  | _ => true
/-- an operation that copies, or calls, what stands in one of some slots -/
def isY (ys : List Nat) (i : G) : Bool := match i.i with
  | .mv _ (.t s) | .callv _ (.t s) _ _ => ys.contains s
  | _ => false
def keep0 (i : G) : Bool := match i.i.dst with
  | some d => !d.beq 0
  | none => true
def dropY (ys : List Nat) (i : G) : List Nat := match i.i.dst with
  | some d => ys.filter fun y => !y.beq d
  | none => ys
def setsl (sl : List V) (ps : List Nat) (vs : List V) : List V := (ps.zip vs).foldl (fun sl (p : Nat × V) => st .u sl p.1 p.2) sl
/-! All of a callee's objects become the caller's, names from a base on. -/
mutual
def V.mrg (b : Nat) : V → V
  | .row 0 n lo len s => .row 0 (b + n) lo len s
  | .row (l + 1) n lo len s => .row l n lo len s
  | .ptr 0 n off => .ptr 0 (b + n) off
  | .ptr (l + 1) n off => .ptr l n off
  | .rel 0 n i off => .rel 0 (b + n) i off
  | .rel (l + 1) n i off => .rel l n i off
  | .ag cs => .ag (V.mrgs b cs)
  | .tp cs => .tp (V.mrgs b cs)
  | .cl f cs => .cl f (V.mrgs b cs)
  | v => v
def V.mrgs (b : Nat) : List V → List V
  | [] => []
  | v :: vs => V.mrg b v :: V.mrgs b vs
end
def Ob.mrg (b : Nat) : Ob → Ob
  | .box cs => .box (V.mrgs b cs)
  | o => o
def padTo (b : Nat) (os : Lv) : Lv := match b with
  | 0 => []
  | b + 1 => match os with
    | [] => none :: padTo b []
    | o :: os => o :: padTo b os
/-- an odd base says: all -/
@[irreducible] def isMrg (b : Nat) : Bool := Nat.beq (b % 2) 1
end Go.Proofs.YtcgjebaomhfbdaaGreat.Vm

/- The machine's runs, as a relation. -/
namespace Go.Proofs.YtcgjebaomhfbdaaGreat.Vm
open Go

inductive Rv where
  | s (t : Nat)
  | c (t w : Nat)
structure Fn where
  code : C
  res : List Rv
  /-- a call that sees nothing of its caller but its arguments; true: an argument that is data for good, false: one that is lent -/
  pure : Option (List Bool)
abbrev Ext := St → List V → Option Nat → Option (V × St)
structure Env where
  fn : Nat → Option Fn
  ext : Nat → Option Ext
/-- the function of a value that is called -/
def Env.fnV (E : Env) (f : Nat) : Option Fn := match Nat.ble nilF f with
  | true => none
  | false => E.fn (clF f)
theorem fnV_some {E : Env} {f : Nat} {F : Fn} (h : E.fnV f = some F) : Nat.ble nilF f = false ∧ E.fn (clF f) = some F := by
  unfold Env.fnV at h
  split at h
  · cases h
  · rename_i e; exact ⟨e, h⟩

inductive Ex where
  | normal
  | exit (id : Nat)
  | ret

/-- lending -/
def St.lend1 (σ : St) : V → Option V
  | .d _ (.lst s es) | .dx _ (.lst s es) => some (.d false (.lst s es))
  | .d _ (.int k n) => some (.d true (.int k n))
  | .d _ (.bool b) => some (.d true (.bool b))
  | .nil s => some (.d false (.lst s []))
  | .row l n lo len s => (σ.rowOf l n lo len).map fun es => .d false (.lst s es)
  | .cl f [] => some (.cl f [])
  | _ => none
def St.lends (σ : St) : List V → Option (List V)
  | [] => some []
  | v :: vs => match σ.lend1 v, St.lends σ vs with
    | some v, some vs => some (v :: vs)
    | _, _ => none
def St.lend (σ : St) : V → Option V
  | .ag cs => (σ.lends cs).map .ag
  | v => σ.lend1 v
/-- the arguments of a call that sees nothing else; rows that it gets for good are frozen -/
def St.hand (σ : St) : List V → List Bool → Option (List V × List Nat)
  | [], [] => some ([], [])
  | v :: vs, m :: ms => match St.hand σ vs ms with
    | none => none
    | some (ws, ns) => match m with
      | false => (σ.lend v).map fun w => (w :: ws, ns)
      | true => match v with
        | .cl f [] => some (.cl f [] :: ws, ns)
        | v => match σ.toT v with
          | some (t, ms) => some (ofT t :: ws, ms ++ ns)
          | none => none
  | _, _ => none
/-- A result as data: rows of the callee's own frame are frozen; 'pure': nothing that was lent. -/
def dat1 (pure : Bool) (σ : St) : V → Option (V × List Nat)
  | .d p t => if p = true ∨ pure = false then some (.d p t, []) else none
  | .dx p t => if p = true ∨ pure = false then some (.d p t, []) else none
  | .nil s => some (.d true (.lst s []), [])
  | .row 0 n lo len s => match σ.obj 0 n with
    | some (.rw _ es _) => if lo + len ≤ es.length then some (.d true (.lst s (slice lo len es)), [n]) else none
    | some (.fz _ es) => if lo + len ≤ es.length then some (.d true (.lst s (slice lo len es)), []) else none
    | _ => none
  | .row (l + 1) n lo len s => if pure then none else some (.row l n lo len s, [])
  | .ptr (l + 1) n off => if pure then none else some (.ptr l n off, [])
  | .cl f [] => some (.cl f [], [])
  | .u => some (.u, [])
  | _ => none
def dats1 (pure : Bool) (σ : St) : List V → Option (List V × List Nat)
  | [] => some ([], [])
  | v :: vs => match dat1 pure σ v, dats1 pure σ vs with
    | some (v, ns), some (vs, ms) => some (v :: vs, ns ++ ms)
    | _, _ => none
def dat2 (pure : Bool) (σ : St) : V → Option (V × List Nat)
  | .ag cs => (dats1 pure σ cs).map fun (cs, ns) => (.ag cs, ns)
  | v => dat1 pure σ v
def dats2 (pure : Bool) (σ : St) : List V → Option (List V × List Nat)
  | [] => some ([], [])
  | v :: vs => match dat2 pure σ v, dats2 pure σ vs with
    | some (v, ns), some (vs, ms) => some (v :: vs, ns ++ ms)
    | _, _ => none
def dat (pure : Bool) (σ : St) : V → Option (V × List Nat)
  | .tp cs => (dats2 pure σ cs).map fun (cs, ns) => (.tp cs, ns)
  | v => dat2 pure σ v
/-! Rows that the callee made become the caller's, under names from a base on, each as what it is; a: the caller's objects, the next name, the callee's names that are taken. -/
def take0 (pure : Bool) (σc : St) (v : V) (a : Lv × Nat × List Nat) : Option (V × Lv × Nat × List Nat) := match dat1 pure σc v with
  | some (v', []) => some (v', a)
  | _ => none
def take1 (pure : Bool) (σc : St) (v : V) (a : Lv × Nat × List Nat) : Option (V × Lv × Nat × List Nat) := match v with
  | .nil s => if (gt none a.1 a.2.1).isNone = true then some (.row 0 a.2.1 0 0 s, st none a.1 a.2.1 (some (.rw s [] false)), a.2.1 + 1, a.2.2) else none
  | .row 0 n lo len s => match σc.obj 0 n with
    | some (.rw _ es _) => if lo = 0 ∧ len = es.length ∧ n ∉ a.2.2 ∧ (gt none a.1 a.2.1).isNone = true then some (.row 0 a.2.1 0 len s, st none a.1 a.2.1 (some (.rw s es false)), a.2.1 + 1, n :: a.2.2) else none
    | _ => take0 pure σc (.row 0 n lo len s) a
  | v => take0 pure σc v a
def takes1 (pure : Bool) (σc : St) : List V → Lv × Nat × List Nat → Option (List V × Lv × Nat × List Nat)
  | [], a => some ([], a)
  | v :: vs, a => match take1 pure σc v a with
    | some (v, a) => (takes1 pure σc vs a).map fun r => (v :: r.1, r.2)
    | none => none
def take2 (pure : Bool) (σc : St) (v : V) (a : Lv × Nat × List Nat) : Option (V × Lv × Nat × List Nat) := match v with
  | .ag cs => (takes1 pure σc cs a).map fun r => (.ag r.1, r.2)
  | v => take1 pure σc v a
def takes2 (pure : Bool) (σc : St) : List V → Lv × Nat × List Nat → Option (List V × Lv × Nat × List Nat)
  | [], a => some ([], a)
  | v :: vs, a => match take2 pure σc v a with
    | some (v, a) => (takes2 pure σc vs a).map fun r => (v :: r.1, r.2)
    | none => none
def take (pure : Bool) (σc : St) (v : V) (a : Lv × Nat × List Nat) : Option (V × Lv × Nat × List Nat) := match v with
  | .tp cs => (takes2 pure σc cs a).map fun r => (.tp r.1, r.2)
  | v => take2 pure σc v a
/-- what a caller has behind a call -/
def leave (pure : Bool) (σ σc : St) : Option St :=
  if pure then some σ else match σc.up with
    | ob :: up => some { sl := σ.sl, ob := ob, up := up }
    | [] => none
def merge (σ σc : St) (v : V) (b : Nat) : Option (V × St) :=
  if (σ.ob.drop b).all Option.isNone = true then some (v.mrg b, { σ with ob := padTo b σ.ob ++ σc.ob.map (Option.map (Ob.mrg b)) }) else none
def back (pure : Bool) (σ σc : St) (v : V) (rm : Option Nat) : Option (V × St) :=
  match leave pure σ σc, rm with
  | some σ, none => (dat pure σc v).map fun r => (r.1, σ)
  | some σ, some base => if (!pure && isMrg base) = true then merge σ σc v base else (take pure σc v (σ.ob, base, [])).map fun r => (r.1, { σ with ob := r.2.1 })
  | none, _ => none

def resVals (σ : St) : List Rv → Option (List V)
  | [] => some []
  | r :: rs => match (match r with | .s t => some (σ.get t) | .c t w => σ.load (σ.get t) w), resVals σ rs with
    | some v, some vs => some (v :: vs)
    | _, _ => none
def resVal (σ : St) (rs : List Rv) : Option V :=
  (resVals σ rs).map fun vs => match vs with
    | [v] => v
    | vs => .tp vs

/-- is an operation done? (its guard is a slot's truth value) -/
def St.wants (σ : St) : Option (Nat × Bool) → Option Bool
  | none => some true
  | some (t, b) => match σ.get t with
    | .d _ (.bool c) => some (match b with | true => c | false => !c)
    | .tp [] => some false
    | _ => none
def St.skip (σ : St) (i : I) : St := match i.dst with
  | some d => σ.set d (.tp [])
  | none => σ

/-- a loop over a function, as its function meets it -/
structure Yc where
  ps : List Nat
  a : C
  b : C
  sl : List V
/-- how a round has left the loop -/
def jump : Ex → Option Ex
  | .normal => none
  | e => some e
def ofJump : Option Ex → Ex
  | none => .normal
  | some e => e
def roundSt (y : Yc) (σ : St) (vs : List V) : St := ⟨setsl (V.shifts 2 y.sl) y.ps (V.shifts 1 vs), [], σ.ob :: σ.up⟩
inductive Task where
  | code (c : C) (σ : St)
  | ops (is : List G) (σ : St)
  | fn (f : Nat) (as : List V) (up : List Lv)
  | icode (y : Yc) (j : Option Ex) (c : C) (σ : St)
  | iops (y : Yc) (j : Option Ex) (ys : List Nat) (is : List G) (σ : St)
inductive Res where
  | code (e : Ex) (σ : St)
  | ops (σ : St)
  | fn (v : V) (σ : St)
  | icode (j : Option Ex) (e : Ex) (σ : St)
  | iops (j : Option Ex) (σ : St)
def pick {α : Type} (l : List α) (is : List Nat) : List α := is.filterMap (l[·]?)

inductive Ev (E : Env) : Task → Res → Prop where
  | skip {σ} : Ev E (.code .skip σ) (.code .normal σ)
  | rg {id dr fs is os σ σ₁ σ'} (hp : pre σ fs = some σ₁) (h : Ev E (.ops is σ₁) (.ops σ')) (ho : ∀ o ∈ os, Ev E (.ops (pick is o) σ₁) (.ops σ')) :
      Ev E (.code (.rg id dr fs is os) σ) (.code .normal σ')
  | seq {a b σ σ₁ r} (ha : Ev E (.code a σ) (.code .normal σ₁)) (hb : Ev E (.code b σ₁) r) : Ev E (.code (.seq a b) σ) r
  | seqX {a b σ σ₁ e} (he : e ≠ .normal) (ha : Ev E (.code a σ) (.code e σ₁)) : Ev E (.code (.seq a b) σ) (.code e σ₁)
  | cond {x a b σ p t r} (hx : σ.val x = .d p (.bool t)) (h : Ev E (.code (if t then a else b) σ) r) : Ev E (.code (.cond x a b) σ) r
  | block {id c σ σ₁} (h : Ev E (.code c σ) (.code .normal σ₁)) : Ev E (.code (.block id c) σ) (.code .normal σ₁)
  | blockX {id c σ σ₁} (h : Ev E (.code c σ) (.code (.exit id) σ₁)) : Ev E (.code (.block id c) σ) (.code .normal σ₁)
  | blockY {id c σ σ₁ e} (hn : e ≠ .normal) (he : e ≠ .exit id) (h : Ev E (.code c σ) (.code e σ₁)) : Ev E (.code (.block id c) σ) (.code e σ₁)
  | loop {c σ σ₁ r} (h : Ev E (.code c σ) (.code .normal σ₁)) (hr : Ev E (.code (.loop c) σ₁) r) : Ev E (.code (.loop c) σ) r
  | loopX {c σ σ₁ e} (he : e ≠ .normal) (h : Ev E (.code c σ) (.code e σ₁)) : Ev E (.code (.loop c) σ) (.code e σ₁)
  | exit {id σ} : Ev E (.code (.exit id) σ) (.code (.exit id) σ)
  | ret {σ} : Ev E (.code .ret σ) (.code .ret σ)
  | nil {σ} : Ev E (.ops [] σ) (.ops σ)
  | step {i g is σ σ₁ r} (hg : σ.wants g = some true) (h : step σ i = some σ₁) (hr : Ev E (.ops is σ₁) r) : Ev E (.ops (⟨i, g⟩ :: is) σ) r
  | skipped {i g is σ r} (hg : σ.wants g = some false) (hr : Ev E (.ops is (σ.skip i)) r) : Ev E (.ops (⟨i, g⟩ :: is) σ) r
  | call {d f as rm g is σ F v σc w σ₁ r} (hg : σ.wants g = some true) (hf : E.fn f = some F) (hm : F.pure = none)
      (h : Ev E (.fn f (V.shifts 1 (σ.vals as)) (σ.ob :: σ.up)) (.fn v σc)) (hb : back false σ σc v rm = some (w, σ₁)) (hr : Ev E (.ops is (σ₁.set d w)) r) :
      Ev E (.ops (⟨.call d f as rm, g⟩ :: is) σ) r
  | callv {d x f caps as rm g is σ F v σc w σ₁ r} (hg : σ.wants g = some true) (hx : σ.val x = .cl f caps) (hf : E.fnV f = some F) (hm : F.pure = none)
      (h : Ev E (.fn (clF f) (V.shifts 1 (clA f (σ.vals as) caps)) (σ.ob :: σ.up)) (.fn v σc)) (hb : back false σ σc v rm = some (w, σ₁)) (hr : Ev E (.ops is (σ₁.set d w)) r) :
      Ev E (.ops (⟨.callv d x as rm, g⟩ :: is) σ) r
  | pcall {d f as rm g is σ F ms ws ns v σc w σ₁ r} (hg : σ.wants g = some true) (hf : E.fn f = some F) (hm : F.pure = some ms) (hh : σ.hand (σ.vals as) ms = some (ws, ns))
      (h : Ev E (.fn f ws []) (.fn v σc)) (hb : back true (σ.frz ns) σc v rm = some (w, σ₁)) (hr : Ev E (.ops is (σ₁.set d w)) r) :
      Ev E (.ops (⟨.call d f as rm, g⟩ :: is) σ) r
  | ext {d f as rm g is σ X w σ₁ r} (hg : σ.wants g = some true) (hf : E.fn f = none) (hx : E.ext f = some X) (h : X σ (σ.vals as) rm = some (w, σ₁))
      (hr : Ev E (.ops is (σ₁.set d w)) r) : Ev E (.ops (⟨.call d f as rm, g⟩ :: is) σ) r
  | fn {f as up F e σ v} (hf : E.fn f = some F) (h : Ev E (.code F.code ⟨as, [], up⟩) (.code e σ)) (he : e = .normal ∨ e = .ret) (hv : resVal σ F.res = some v) :
      Ev E (.fn f as up) (.fn v σ)
  | rfun {x ps a b σ f caps F j e τ σ'} (hx : σ.val x = .cl f caps) (hb : Nat.ble bndF f = false) (hf : E.fn f = some F) (hm : F.pure = none) (hn : (a.noRf && b.noRf && F.code.noRf) = true)
      (h : Ev E (.icode ⟨ps, a, b, σ.sl⟩ none F.code ⟨V.shifts 1 (.u :: caps), [], σ.ob :: σ.up⟩) (.icode j e τ)) (he : e = .normal ∨ e = .ret) (hr : F.res = []) (hl : leave false σ τ = some σ') : Ev E (.code (.rfun x ps a b) σ) (.code (ofJump j) σ')
  | iskip {y j σ} : Ev E (.icode y j .skip σ) (.icode j .normal σ)
  | iexit {y j id σ} : Ev E (.icode y j (.exit id) σ) (.icode j (.exit id) σ)
  | iret {y j σ} : Ev E (.icode y j .ret σ) (.icode j .ret σ)
  | iseq {y j a b σ j₁ σ₁ r} (ha : Ev E (.icode y j a σ) (.icode j₁ .normal σ₁)) (hb : Ev E (.icode y j₁ b σ₁) r) : Ev E (.icode y j (.seq a b) σ) r
  | iseqX {y j a b σ j₁ σ₁ e} (he : e ≠ .normal) (ha : Ev E (.icode y j a σ) (.icode j₁ e σ₁)) : Ev E (.icode y j (.seq a b) σ) (.icode j₁ e σ₁)
  | icond {y j x a b σ p t r} (hx : σ.val x = .d p (.bool t)) (h : Ev E (.icode y j (if t then a else b) σ) r) : Ev E (.icode y j (.cond x a b) σ) r
  | iblock {y j id c σ j₁ σ₁} (h : Ev E (.icode y j c σ) (.icode j₁ .normal σ₁)) : Ev E (.icode y j (.block id c) σ) (.icode j₁ .normal σ₁)
  | iblockX {y j id c σ j₁ σ₁} (h : Ev E (.icode y j c σ) (.icode j₁ (.exit id) σ₁)) : Ev E (.icode y j (.block id c) σ) (.icode j₁ .normal σ₁)
  | iblockY {y j id c σ j₁ σ₁ e} (hn : e ≠ .normal) (he : e ≠ .exit id) (h : Ev E (.icode y j c σ) (.icode j₁ e σ₁)) : Ev E (.icode y j (.block id c) σ) (.icode j₁ e σ₁)
  | iloop {y j c σ j₁ σ₁ r} (h : Ev E (.icode y j c σ) (.icode j₁ .normal σ₁)) (hr : Ev E (.icode y j₁ (.loop c) σ₁) r) : Ev E (.icode y j (.loop c) σ) r
  | iloopX {y j c σ j₁ σ₁ e} (he : e ≠ .normal) (h : Ev E (.icode y j c σ) (.icode j₁ e σ₁)) : Ev E (.icode y j (.loop c) σ) (.icode j₁ e σ₁)
  | irg {y j id fs is σ σ₁ j₁ σ'} (hp : pre σ fs = some σ₁) (hz : σ₁.get 0 = .u) (h : Ev E (.iops y j [0] is σ₁) (.iops j₁ σ')) : Ev E (.icode y j (.rg id false fs is []) σ) (.icode j₁ .normal σ')
  | inil {y j ys σ} : Ev E (.iops y j ys [] σ) (.iops j σ)
  | iop {y j ys i is σ σ₁ r} (hy : isY ys i = false) (hd : keep0 i = true) (h : Ev E (.ops [i] σ) (.ops σ₁)) (hr : Ev E (.iops y j (dropY ys i) is σ₁) r) : Ev E (.iops y j ys (i :: is) σ) r
  | imv {y j ys d s is σ r} (hy : ys.contains s = true) (hd : d.beq 0 = false) (hr : Ev E (.iops y j (d :: ys) is (σ.set d .u)) r) : Ev E (.iops y j ys (⟨.mv d (.t s), none⟩ :: is) σ) r
  | iyield {y ys d s as rm is σ τ₁ e τ₂ σ₂ r} (hy : ys.contains s = true) (hd : d.beq 0 = false) (hl : as.length = y.ps.length) (ha : Ev E (.code y.a (roundSt y σ (σ.vals as))) (.code .normal τ₁)) (hb : Ev E (.code y.b τ₁) (.code e τ₂))
      (hv : leave false σ τ₂ = some σ₂) (hr : Ev E (.iops y (jump e) (dropY ys ⟨.callv d (.t s) as rm, none⟩) is (σ₂.set d (dBool (jump e).isNone))) r) : Ev E (.iops y none ys (⟨.callv d (.t s) as rm, none⟩ :: is) σ) r

/-! What is to be shown of a run, backwards. -/
def WC (E : Env) (c : C) (σ : St) (Q : Ex → St → Prop) : Prop := ∃ e σ', Ev E (.code c σ) (.code e σ') ∧ Q e σ'
def WO (E : Env) (is : List G) (σ : St) (Q : St → Prop) : Prop := ∃ σ', Ev E (.ops is σ) (.ops σ') ∧ Q σ'
/-- a call's result -/
def Ret (E : Env) (f : Nat) (as : List V) (up : List Lv) (v : V) (σ : St) : Prop := Ev E (.fn f as up) (.fn v σ)
section
variable {E : Env} {σ : St} {Q : Ex → St → Prop}
theorem WC.mono {c : C} {Q' : Ex → St → Prop} (h : WC E c σ Q) (q : ∀ e σ, Q e σ → Q' e σ) : WC E c σ Q' := let ⟨e, σ', h, k⟩ := h; ⟨e, σ', h, q _ _ k⟩
theorem WC.skip (h : Q .normal σ) : WC E .skip σ Q := ⟨_, _, .skip, h⟩
theorem WC.exit {id : Nat} (h : Q (.exit id) σ) : WC E (.exit id) σ Q := ⟨_, _, .exit, h⟩
theorem WC.ret (h : Q .ret σ) : WC E .ret σ Q := ⟨_, _, .ret, h⟩
def Ex.then (n : St → Prop) (Q : Ex → St → Prop) : Ex → St → Prop
  | .normal, σ => n σ
  | e, σ => Q e σ
theorem WC.seq {a b : C} (h : WC E a σ (Ex.then (fun σ => WC E b σ Q) Q)) : WC E (.seq a b) σ Q := by
  obtain ⟨e, σ₁, h, q⟩ := h
  cases e with
  | normal => obtain ⟨e₂, σ₂, h₂, q₂⟩ := q; exact ⟨e₂, σ₂, .seq h h₂, q₂⟩
  | exit id => exact ⟨_, _, .seqX (by simp) h, q⟩
  | ret => exact ⟨_, _, .seqX (by simp) h, q⟩
theorem WC.cond {x : X} {a b : C} {p t : Bool} (hx : σ.val x = .d p (.bool t)) (h : WC E (if t then a else b) σ Q) : WC E (.cond x a b) σ Q :=
  let ⟨e, σ', h, q⟩ := h; ⟨e, σ', .cond hx h, q⟩
def Ex.inBlock (id : Nat) (Q : Ex → St → Prop) : Ex → St → Prop
  | .exit i, σ => if i = id then Q .normal σ else Q (.exit i) σ
  | e, σ => Q e σ
theorem WC.block {id : Nat} {c : C} (h : WC E c σ (Ex.inBlock id Q)) : WC E (.block id c) σ Q := by
  obtain ⟨e, σ₁, h, q⟩ := h
  cases e with
  | normal => exact ⟨_, _, .block h, q⟩
  | exit i =>
    by_cases hi : i = id
    · subst hi; simp only [Ex.inBlock, if_true] at q; exact ⟨_, _, .blockX h, q⟩
    · simp only [Ex.inBlock, if_neg hi] at q; exact ⟨_, _, .blockY (by simp) (by simpa using hi) h, q⟩
  | ret => exact ⟨_, _, .blockY (by simp) (by simp) h, q⟩
theorem WC.loop {c : C} (h : WC E c σ (Ex.then (fun σ => WC E (.loop c) σ Q) Q)) : WC E (.loop c) σ Q := by
  obtain ⟨e, σ₁, h, q⟩ := h
  cases e with
  | normal => obtain ⟨e₂, σ₂, h₂, q₂⟩ := q; exact ⟨e₂, σ₂, .loop h h₂, q₂⟩
  | exit id => exact ⟨_, _, .loopX (by simp) h, q⟩
  | ret => exact ⟨_, _, .loopX (by simp) h, q⟩
theorem WC.rg {id : Nat} {dr : Bool} {fs : List F} {is : List G} {σ₁ : St} (hp : pre σ fs = some σ₁) (h : WO E is σ₁ (Q .normal)) : WC E (.rg id dr fs is []) σ Q :=
  let ⟨_, h, q⟩ := h; ⟨_, _, .rg hp h (fun _ h => by cases h), q⟩
theorem WO.nil {Q : St → Prop} (h : Q σ) : WO E [] σ Q := ⟨_, .nil, h⟩
theorem WO.step {i : I} {g : Option (Nat × Bool)} {is : List G} {σ₁ : St} {Q : St → Prop} (hg : σ.wants g = some true) (hs : Vm.step σ i = some σ₁) (h : WO E is σ₁ Q) : WO E (⟨i, g⟩ :: is) σ Q :=
  let ⟨_, h, q⟩ := h; ⟨_, .step hg hs h, q⟩
theorem WO.skipped {i : I} {g : Option (Nat × Bool)} {is : List G} {Q : St → Prop} (hg : σ.wants g = some false) (h : WO E is (σ.skip i) Q) : WO E (⟨i, g⟩ :: is) σ Q :=
  let ⟨_, h, q⟩ := h; ⟨_, .skipped hg h, q⟩
end
end Go.Proofs.YtcgjebaomhfbdaaGreat.Vm

/- Rules by which a run is walked: equations, for simp ('go_sem'). -/
namespace Go.Proofs.YtcgjebaomhfbdaaGreat.Vm
open Go

/-- a table -/
def lk {α : Type} : List (Nat × α) → Nat → Option α
  | [], _ => none
  | p :: r, f => if p.1 = f then some p.2 else lk r f
theorem lk_mem {α : Type} : ∀ {l : List (Nat × α)} {f : Nat} {a : α}, lk l f = some a → (f, a) ∈ l
  | [], _, _, h => by cases h
  | p :: r, f, a, h => by
    unfold lk at h
    split at h
    · rename_i hp; cases h; rw [← hp]; simp
    · exact List.mem_cons_of_mem _ (lk_mem h)
/-! Lists and states. -/
section
variable {α : Type} {d : α}
theorem gt_st (l : List α) : ∀ (i j : Nat) (v : α), gt d (st d l i v) j = if i = j then v else gt d l j := by
  induction l with
  | nil =>
    intro i
    induction i with
    | zero => intro j v; cases j <;> simp [st, gt]
    | succ i ih => intro j v; cases j <;> simp [st, gt, ih]
  | cons a l ih =>
    intro i j v
    cases i with
    | zero => cases j <;> simp [st, gt]
    | succ i => cases j <;> simp [st, gt, ih]
theorem gt_map {β : Type} {e : β} (f : α → β) (hf : f d = e) : ∀ (l : List α) (j : Nat), gt e (l.map f) j = f (gt d l j)
  | [], _ => by simp [gt, hf]
  | a :: l, 0 => by simp [gt]
  | a :: l, j + 1 => by simp only [List.map_cons, gt]; exact gt_map f hf l j
end
theorem St.get_set (σ : St) (i j : Nat) (v : V) : (σ.set i v).get j = if i = j then v else σ.get j := gt_st _ _ _ _
theorem St.obj_set (σ : St) (i : Nat) (v : V) (l n : Nat) : (σ.set i v).obj l n = σ.obj l n := by cases l <;> rfl
theorem St.get_setObj (σ : St) (l n : Nat) (o : Option Ob) (i : Nat) : (σ.setObj l n o).get i = σ.get i := by cases l <;> rfl
theorem St.obj_setObj (σ : St) (l n : Nat) (o : Option Ob) (l' n' : Nat) : (σ.setObj l n o).obj l' n' = if l = l' ∧ n = n' then o else σ.obj l' n' := by
  cases l with
  | zero => cases l' with
    | zero => simp [St.obj, St.setObj, gt_st]
    | succ l' => simp [St.obj, St.setObj]
  | succ l => cases l' with
    | zero => simp [St.obj, St.setObj]
    | succ l' =>
      simp only [St.obj, St.setObj, gt_st]
      by_cases h : l = l'
      · subst h; simp [gt_st]
      · simp [h]
theorem St.up_set (σ : St) (i : Nat) (v : V) : (σ.set i v).up = σ.up := rfl
theorem St.ob_set (σ : St) (i : Nat) (v : V) : (σ.set i v).ob = σ.ob := rfl
theorem St.up_setObj0 (σ : St) (n : Nat) (o : Option Ob) : (σ.setObj 0 n o).up = σ.up := rfl
theorem kill_u (a b : Nat) : V.kill a b .u = .u := by simp [V.kill]
theorem St.get_kill (σ : St) (a b i : Nat) : (σ.kill a b).get i = (σ.get i).kill a b := gt_map _ (kill_u a b) _ _
theorem gt_killOb (a b : Nat) : ∀ (os : Lv) (i n : Nat), gt none (killOb a b i os) n = if a ≤ i + n ∧ i + n < b then none else (gt none os n).map (Ob.kill a b)
  | [], i, n => by simp [killOb, gt]
  | o :: os, i, 0 => by simp [killOb, gt]
  | o :: os, i, n + 1 => by
    simp only [killOb, gt]
    rw [gt_killOb a b os (i + 1) n]
    have : i + 1 + n = i + (n + 1) := by omega
    rw [this]
theorem St.obj_kill0 (σ : St) (a b n : Nat) : (σ.kill a b).obj 0 n = if a ≤ n ∧ n < b then none else (σ.obj 0 n).map (Ob.kill a b) := by
  have h := gt_killOb a b σ.ob 0 n
  simpa [St.obj, St.kill] using h
theorem St.obj_killS (σ : St) (a b l n : Nat) : (σ.kill a b).obj (l + 1) n = σ.obj (l + 1) n := rfl
theorem St.up_kill (σ : St) (a b : Nat) : (σ.kill a b).up = σ.up := rfl
/-- the state at a call's beginning -/
def St.ini (as : List V) (up : List Lv) : St := ⟨as, [], up⟩
theorem St.get_ini (as : List V) (up : List Lv) (i : Nat) : (St.ini as up).get i = gt .u as i := rfl
theorem St.obj_ini0 (as : List V) (up : List Lv) (n : Nat) : (St.ini as up).obj 0 n = none := rfl
theorem St.obj_iniS (as : List V) (up : List Lv) (l n : Nat) : (St.ini as up).obj (l + 1) n = gt none (gt [] up l) n := rfl
theorem St.up_ini (as : List V) (up : List Lv) : (St.ini as up).up = up := rfl
theorem gt_nil {α : Type} (d : α) (n : Nat) : gt d [] n = d := rfl
theorem gt_zero {α : Type} (d a : α) (l : List α) : gt d (a :: l) 0 = a := rfl
theorem gt_succ {α : Type} (d a : α) (l : List α) (n : Nat) : gt d (a :: l) (n + 1) = gt d l n := rfl
theorem St.val_t (σ : St) (n : Nat) : σ.val (.t n) = σ.get n := rfl
theorem St.val_c (σ : St) (v : V) : σ.val (.c v) = v := rfl

/-! What must be so of a value that may be missing. What comes next is always a named word with its arguments: simp is to see it only when its turn has come. -/
def optP {α : Type} (o : Option α) (p : α → Prop) : Prop := match o with
  | some a => p a
  | none => False
theorem optP_some {α : Type} (a : α) (p : α → Prop) : optP (some a) p = p a := rfl
theorem optP_none {α : Type} (p : α → Prop) : optP none p = False := rfl
theorem optP_ite {α : Type} (c : Prop) [Decidable c] (a b : Option α) (p : α → Prop) : optP (if c then a else b) p = if c then optP a p else optP b p := by split <;> rfl
theorem optP_iff {α : Type} {o : Option α} {p : α → Prop} : optP o p ↔ ∃ a, o = some a ∧ p a := by cases o <;> simp [optP]
def KSeq (E : Env) (b : C) (Q : Ex → St → Prop) : Ex → St → Prop
  | .normal, σ => WC E b σ Q
  | e, σ => Q e σ
def KBlock (id : Nat) (Q : Ex → St → Prop) : Ex → St → Prop
  | .exit i, σ => if i = id then Q .normal σ else Q (.exit i) σ
  | e, σ => Q e σ
def KN (Q : Ex → St → Prop) (σ : St) : Prop := Q .normal σ
def KRg (E : Env) (is : List G) (Q : Ex → St → Prop) (σ : St) : Prop := WO E is σ (KN Q)
def KSt (E : Env) (is : List G) (Q : St → Prop) (σ : St) : Prop := WO E is σ Q
def KSet (E : Env) (is : List G) (σ : St) (d : Nat) (Q : St → Prop) (v : V) : Prop := WO E is (σ.set d v) Q
def KLen (E : Env) (is : List G) (σ : St) (d : Nat) (Q : St → Prop) (n : Nat) : Prop := WO E is (σ.set d (dInt (n : Int))) Q
/-- two ways, by a test -/
def biteC (c : Bool) (E : Env) (a b : C) (σ : St) (Q : Ex → St → Prop) : Prop := WC E (if c then a else b) σ Q
def biteO (c : Bool) (E : Env) (i : I) (is : List G) (σ : St) (Q : St → Prop) : Prop := if c then WO E (⟨i, none⟩ :: is) σ Q else WO E is (σ.skip i) Q
def boolP (v : V) (p : Bool → Prop) : Prop := match v with
  | .d _ (.bool t) => p t
  | _ => False
def KCond (E : Env) (a b : C) (σ : St) (Q : Ex → St → Prop) (t : Bool) : Prop := biteC t E a b σ Q
def KG (E : Env) (i : I) (is : List G) (σ : St) (Q : St → Prop) (t : Bool) : Prop := biteO t E i is σ Q
def KPick (E : Env) (is : List G) (σ : St) (d : Nat) (a b : V) (Q : St → Prop) (t : Bool) : Prop := WO E is (σ.set d (if t then a else b)) Q
variable {E : Env} {σ : St}
theorem boolP_d (q t : Bool) (p : Bool → Prop) : boolP (.d q (.bool t)) p = p t := rfl
section
variable {Q : Ex → St → Prop}
theorem biteC_true {a b : C} : biteC true E a b σ Q = WC E a σ Q := rfl
theorem biteC_false {a b : C} : biteC false E a b σ Q = WC E b σ Q := rfl
theorem biteC_of {c : Bool} {a b : C} (h : c = true → WC E a σ Q) (k : c = false → WC E b σ Q) : biteC c E a b σ Q := by cases c; exact k rfl; exact h rfl
theorem biteC_dec {c : Prop} [Decidable c] {a b : C} (h : c → WC E a σ Q) (k : ¬ c → WC E b σ Q) : biteC (decide c) E a b σ Q :=
  biteC_of (fun x => h (of_decide_eq_true x)) (fun x => k (of_decide_eq_false x))
theorem KCond_eq {a b : C} {t : Bool} : KCond E a b σ Q t = biteC t E a b σ Q := rfl
theorem KSeq_normal {b : C} : KSeq E b Q .normal σ = WC E b σ Q := rfl
theorem KSeq_ret {b : C} : KSeq E b Q .ret σ = Q .ret σ := rfl
theorem KSeq_exit {b : C} {id : Nat} : KSeq E b Q (.exit id) σ = Q (.exit id) σ := rfl
theorem KBlock_normal {id : Nat} : KBlock id Q .normal σ = Q .normal σ := rfl
theorem KBlock_ret {id : Nat} : KBlock id Q .ret σ = Q .ret σ := rfl
theorem KBlock_exit {id i : Nat} : KBlock id Q (.exit i) σ = if i = id then Q .normal σ else Q (.exit i) σ := rfl
theorem KN_eq : KN Q σ = Q .normal σ := rfl
theorem KRg_eq {is : List G} : KRg E is Q σ = WO E is σ (KN Q) := rfl
theorem WC_skip : WC E .skip σ Q = Q .normal σ := propext ⟨fun h => by obtain ⟨e, σ', h, q⟩ := h; cases h; exact q, WC.skip⟩
theorem WC_exit {id : Nat} : WC E (.exit id) σ Q = Q (.exit id) σ := propext ⟨fun h => by obtain ⟨e, σ', h, q⟩ := h; cases h; exact q, WC.exit⟩
theorem WC_ret : WC E .ret σ Q = Q .ret σ := propext ⟨fun h => by obtain ⟨e, σ', h, q⟩ := h; cases h; exact q, WC.ret⟩
theorem WC_seq {a b : C} : WC E (.seq a b) σ Q = WC E a σ (KSeq E b Q) := by
  refine propext ⟨fun h => ?_, fun h => ?_⟩
  · obtain ⟨e, σ', h, q⟩ := h
    cases h with
    | seq ha hb => exact ⟨_, _, ha, _, _, hb, q⟩
    | seqX he ha => exact ⟨_, _, ha, by cases e <;> first | exact q | exact absurd rfl he⟩
  · refine WC.seq (WC.mono h fun e σ q => ?_)
    cases e <;> exact q
theorem WC_block {id : Nat} {c : C} : WC E (.block id c) σ Q = WC E c σ (KBlock id Q) := by
  refine propext ⟨fun h => ?_, fun h => ?_⟩
  · obtain ⟨e, σ', h, q⟩ := h
    cases h with
    | block h => exact ⟨_, _, h, q⟩
    | blockX h => exact ⟨_, _, h, by simpa [KBlock] using q⟩
    | blockY hn he h => exact ⟨_, _, h, by
        cases e with
        | normal => exact absurd rfl hn
        | exit i => have : i ≠ id := fun hh => he (by rw [hh])
                    simpa [KBlock, this] using q
        | ret => exact q⟩
  · refine WC.block (WC.mono h fun e σ q => ?_)
    cases e <;> exact q
theorem WC_loop {c : C} : WC E (.loop c) σ Q = WC E c σ (KSeq E (.loop c) Q) := by
  refine propext ⟨fun h => ?_, fun h => ?_⟩
  · obtain ⟨e, σ', h, q⟩ := h
    cases h with
    | loop ha hb => exact ⟨_, _, ha, _, _, hb, q⟩
    | loopX he ha => exact ⟨_, _, ha, by cases e <;> first | exact q | exact absurd rfl he⟩
  · refine WC.loop (WC.mono h fun e σ q => ?_)
    cases e <;> exact q
theorem WC_loop' {c b : C} (h : c = b) : WC E (.loop c) σ Q = WC E b σ (KSeq E (.loop c) Q) := by rw [← h, WC_loop]
theorem WC_cond {x : X} {a b : C} : WC E (.cond x a b) σ Q = boolP (σ.val x) (KCond E a b σ Q) := by
  refine propext ⟨fun h => ?_, fun h => ?_⟩
  · obtain ⟨e, σ', h, q⟩ := h
    cases h with
    | @cond _ _ _ _ p t _ hx h => rw [hx]; exact ⟨_, _, h, q⟩
  · revert h
    cases hv : σ.val x with
    | d p t =>
      cases t with
      | bool t => exact fun h => WC.cond hv h
      | _ => exact fun h => h.elim
    | _ => exact fun h => h.elim
theorem WC_rg {id : Nat} {dr : Bool} {fs : List F} {is : List G} : WC E (.rg id dr fs is []) σ Q = optP (pre σ fs) (KRg E is Q) := by
  refine propext ⟨fun h => ?_, fun h => ?_⟩
  · obtain ⟨e, σ', h, q⟩ := h
    cases h with
    | rg hp h _ => rw [hp]; exact ⟨_, h, q⟩
  · obtain ⟨σ₁, hp, h⟩ := optP_iff.1 h
    exact WC.rg hp h
end
section
variable {Q : St → Prop} {is : List G}
theorem biteO_true {i : I} : biteO true E i is σ Q = WO E (⟨i, none⟩ :: is) σ Q := rfl
theorem biteO_false {i : I} : biteO false E i is σ Q = WO E is (σ.skip i) Q := rfl
theorem biteO_of {c : Bool} {i : I} (h : c = true → WO E (⟨i, none⟩ :: is) σ Q) (k : c = false → WO E is (σ.skip i) Q) : biteO c E i is σ Q := by cases c; exact k rfl; exact h rfl
theorem KG_eq {i : I} {t : Bool} : KG E i is σ Q t = biteO t E i is σ Q := rfl
theorem KSt_eq : KSt E is Q σ = WO E is σ Q := rfl
theorem KSet_eq {d : Nat} {v : V} : KSet E is σ d Q v = WO E is (σ.set d v) Q := rfl
theorem KLen_eq {d n : Nat} : KLen E is σ d Q n = WO E is (σ.set d (dInt (n : Int))) Q := rfl
theorem KPick_eq {d : Nat} {a b : V} {t : Bool} : KPick E is σ d a b Q t = WO E is (σ.set d (if t then a else b)) Q := rfl
theorem WO_nil : WO E [] σ Q = Q σ := propext ⟨fun h => by obtain ⟨σ', h, q⟩ := h; cases h; exact q, WO.nil⟩
/-- an operation that calls nothing -/
def I.plain : I → Bool
  | .call .. | .callv .. => false
  | _ => true
theorem WO_step {i : I} (hi : i.plain = true) : WO E (⟨i, none⟩ :: is) σ Q = optP (step σ i) (KSt E is Q) := by
  refine propext ⟨fun h => ?_, fun h => ?_⟩
  · obtain ⟨σ', h, q⟩ := h
    cases h with
    | step hg hs hr => rw [hs]; exact ⟨_, hr, q⟩
    | skipped hg hr => simp [St.wants] at hg
    | _ => simp [I.plain] at hi
  · obtain ⟨σ₁, hs, h⟩ := optP_iff.1 h
    exact WO.step rfl hs h
theorem WO_set {i : I} {d : Nat} {o : Option V} (hi : i.plain = true) (hs : step σ i = o.map (σ.set d)) : WO E (⟨i, none⟩ :: is) σ Q = optP o (KSet E is σ d Q) := by
  rw [WO_step hi, hs]; cases o <;> rfl
/-- a guarded operation -/
theorem WO_g {i : I} {t : Nat} {b : Bool} : WO E (⟨i, some (t, b)⟩ :: is) σ Q = optP (σ.wants (some (t, b))) (KG E i is σ Q) := by
  cases hw : σ.wants (some (t, b)) with
  | none =>
    refine propext ⟨fun h => ?_, fun h => h.elim⟩
    obtain ⟨σ', h, q⟩ := h
    cases h <;> simp_all
  | some c =>
    cases c with
    | true =>
      show _ = WO E (⟨i, none⟩ :: is) σ Q
      refine propext ⟨fun h => ?_, fun h => ?_⟩ <;> obtain ⟨σ', h, q⟩ := h <;> refine ⟨σ', ?_, q⟩
      · cases h with
        | step hg hs hr => exact .step rfl hs hr
        | skipped hg hr => rw [hw] at hg; simp at hg
        | call hg hf hm h hb hr => exact .call rfl hf hm h hb hr
        | callv hg hx hf hm h hb hr => exact .callv rfl hx hf hm h hb hr
        | pcall hg hf hm hh h hb hr => exact .pcall rfl hf hm hh h hb hr
        | ext hg hf hx h hr => exact .ext rfl hf hx h hr
      · cases h with
        | step hg hs hr => exact .step hw hs hr
        | skipped hg hr => simp [St.wants] at hg
        | call hg hf hm h hb hr => exact .call hw hf hm h hb hr
        | callv hg hx hf hm h hb hr => exact .callv hw hx hf hm h hb hr
        | pcall hg hf hm hh h hb hr => exact .pcall hw hf hm hh h hb hr
        | ext hg hf hx h hr => exact .ext hw hf hx h hr
    | false =>
      show _ = WO E is (σ.skip i) Q
      refine propext ⟨fun h => ?_, fun h => ?_⟩ <;> obtain ⟨σ', h, q⟩ := h
      · refine ⟨σ', ?_, q⟩
        cases h with
        | skipped hg hr => exact hr
        | step hg hs hr => rw [hw] at hg; simp at hg
        | call hg hf hm h hb hr => rw [hw] at hg; simp at hg
        | callv hg hx hf hm h hb hr => rw [hw] at hg; simp at hg
        | pcall hg hf hm hh h hb hr => rw [hw] at hg; simp at hg
        | ext hg hf hx h hr => rw [hw] at hg; simp at hg
      · exact ⟨σ', .skipped hw h, q⟩
end
/-! A task has one result. -/
theorem Ev.det {E : Env} {t : Task} {r r' : Res} (h : Ev E t r) (h' : Ev E t r') : r = r' := by
  induction h generalizing r' with
  | skip => cases h'; rfl
  | rg hp h ho ih iho =>
    cases h' with
    | rg hp' h' ho' =>
      rw [hp] at hp'; cases hp'
      have := ih h'
      cases this; rfl
  | seq ha hb iha ihb =>
    cases h' with
    | seq ha' hb' => have := iha ha'; cases this; exact ihb hb'
    | seqX he ha' => have := iha ha'; cases this; exact absurd rfl he
  | seqX he ha iha =>
    cases h' with
    | seq ha' hb' => have := iha ha'; cases this; exact absurd rfl he
    | seqX he ha' => exact iha ha'
  | cond hx h ih =>
    cases h' with
    | cond hx' h' => rw [hx] at hx'; cases hx'; exact ih h'
  | block h ih =>
    cases h' with
    | block h' => have := ih h'; cases this; rfl
    | blockX h' => have := ih h'; cases this
    | blockY hn he h' => have := ih h'; cases this; exact absurd rfl hn
  | blockX h ih =>
    cases h' with
    | block h' => have := ih h'; cases this
    | blockX h' => have := ih h'; cases this; rfl
    | blockY hn he h' => have := ih h'; cases this; exact absurd rfl he
  | blockY hn he h ih =>
    cases h' with
    | block h' => have := ih h'; cases this; exact absurd rfl hn
    | blockX h' => have := ih h'; cases this; exact absurd rfl he
    | blockY hn he h' => exact ih h'
  | loop h hr ih ihr =>
    cases h' with
    | loop h' hr' => have := ih h'; cases this; exact ihr hr'
    | loopX he h' => have := ih h'; cases this; exact absurd rfl he
  | loopX he h ih =>
    cases h' with
    | loop h' hr' => have := ih h'; cases this; exact absurd rfl he
    | loopX he h' => exact ih h'
  | exit => cases h'; rfl
  | ret => cases h'; rfl
  | nil => cases h'; rfl
  | @step i g is σ σ₁ r hg hs hr ih =>
    cases h' with
    | step hg' hs' hr' => rw [hs] at hs'; cases hs'; exact ih hr'
    | skipped hg' hr' => rw [hg] at hg'; simp at hg'
    | _ => simp [Vm.step] at hs
  | skipped hg hr ih =>
    cases h' with
    | skipped hg' hr' => exact ih hr'
    | step hg' hs' hr' => rw [hg] at hg'; simp at hg'
    | call hg' => rw [hg] at hg'; simp at hg'
    | callv hg' => rw [hg] at hg'; simp at hg'
    | pcall hg' => rw [hg] at hg'; simp at hg'
    | ext hg' => rw [hg] at hg'; simp at hg'
  | call hg hf hm h hb hr ih ihr =>
    cases h' with
    | call hg' hf' hm' h' hb' hr' =>
      rw [hf] at hf'; cases hf'
      have := ih h'; cases this
      rw [hb] at hb'; cases hb'
      exact ihr hr'
    | skipped hg' hr' => rw [hg] at hg'; simp at hg'
    | step hg' hs' hr' => simp [Vm.step] at hs'
    | pcall hg' hf' hm' => rw [hf] at hf'; cases hf'; rw [hm] at hm'; simp at hm'
    | ext hg' hf' => rw [hf] at hf'; simp at hf'
  | callv hg hx hf hm h hb hr ih ihr =>
    cases h' with
    | callv hg' hx' hf' hm' h' hb' hr' =>
      rw [hx] at hx'; cases hx'
      rw [hf] at hf'; cases hf'
      have := ih h'; cases this
      rw [hb] at hb'; cases hb'
      exact ihr hr'
    | skipped hg' hr' => rw [hg] at hg'; simp at hg'
    | step hg' hs' hr' => simp [Vm.step] at hs'
  | pcall hg hf hm hh h hb hr ih ihr =>
    cases h' with
    | pcall hg' hf' hm' hh' h' hb' hr' =>
      rw [hf] at hf'; cases hf'
      rw [hm] at hm'; cases hm'
      rw [hh] at hh'; cases hh'
      have := ih h'; cases this
      rw [hb] at hb'; cases hb'
      exact ihr hr'
    | skipped hg' hr' => rw [hg] at hg'; simp at hg'
    | step hg' hs' hr' => simp [Vm.step] at hs'
    | call hg' hf' hm' => rw [hf] at hf'; cases hf'; rw [hm] at hm'; simp at hm'
    | ext hg' hf' => rw [hf] at hf'; simp at hf'
  | ext hg hf hx h hr ih =>
    cases h' with
    | ext hg' hf' hx' h' hr' =>
      rw [hx] at hx'; cases hx'
      rw [h] at h'; cases h'
      exact ih hr'
    | skipped hg' hr' => rw [hg] at hg'; simp at hg'
    | step hg' hs' hr' => simp [Vm.step] at hs'
    | call hg' hf' => rw [hf] at hf'; simp at hf'
    | pcall hg' hf' => rw [hf] at hf'; simp at hf'
  | fn hf h he hv ih =>
    cases h' with
    | fn hf' h' he' hv' =>
      rw [hf] at hf'; cases hf'
      have := ih h'; cases this
      rw [hv] at hv'; cases hv'; rfl
  | rfun hx hb hf hm hn h he hr hl ih =>
    cases h' with
    | rfun hx' hb' hf' hm' hn' h' he' hr' hl' =>
      rw [hx] at hx'; cases hx'
      rw [hf] at hf'; cases hf'
      have := ih h'; cases this
      rw [hl] at hl'; cases hl'; rfl
  | iskip => cases h'; rfl
  | iexit => cases h'; rfl
  | iret => cases h'; rfl
  | iseq ha hb iha ihb =>
    cases h' with
    | iseq ha' hb' => have := iha ha'; cases this; exact ihb hb'
    | iseqX he ha' => have := iha ha'; cases this; exact absurd rfl he
  | iseqX he ha iha =>
    cases h' with
    | iseq ha' hb' => have := iha ha'; cases this; exact absurd rfl he
    | iseqX he ha' => exact iha ha'
  | icond hx h ih =>
    cases h' with
    | icond hx' h' => rw [hx] at hx'; cases hx'; exact ih h'
  | iblock h ih =>
    cases h' with
    | iblock h' => have := ih h'; cases this; rfl
    | iblockX h' => have := ih h'; cases this
    | iblockY hn he h' => have := ih h'; cases this; exact absurd rfl hn
  | iblockX h ih =>
    cases h' with
    | iblock h' => have := ih h'; cases this
    | iblockX h' => have := ih h'; cases this; rfl
    | iblockY hn he h' => have := ih h'; cases this; exact absurd rfl he
  | iblockY hn he h ih =>
    cases h' with
    | iblock h' => have := ih h'; cases this; exact absurd rfl hn
    | iblockX h' => have := ih h'; cases this; exact absurd rfl he
    | iblockY hn he h' => exact ih h'
  | iloop h hr ih ihr =>
    cases h' with
    | iloop h' hr' => have := ih h'; cases this; exact ihr hr'
    | iloopX he h' => have := ih h'; cases this; exact absurd rfl he
  | iloopX he h ih =>
    cases h' with
    | iloop h' hr' => have := ih h'; cases this; exact absurd rfl he
    | iloopX he h' => exact ih h'
  | irg hp hz h ih =>
    cases h' with
    | irg hp' hz' h' =>
      rw [hp] at hp'; cases hp'
      have := ih h'; cases this; rfl
  | inil => cases h'; rfl
  | iop hy hd h hr ih ihr =>
    cases h' with
    | iop hy' hd' h' hr' => have := ih h'; cases this; exact ihr hr'
    | imv hy' hd' hr' => simp only [isY] at hy; rw [hy'] at hy; cases hy
    | iyield hy' hd' hl' ha' hb' hv' hr' => simp only [isY] at hy; rw [hy'] at hy; cases hy
  | imv hy hd hr ihr =>
    cases h' with
    | iop hy' hd' h' hr' => simp only [isY] at hy'; rw [hy] at hy'; cases hy'
    | imv hy' hd' hr' => exact ihr hr'
  | iyield hy hd hl ha hb hv hr iha ihb ihr =>
    cases h' with
    | iop hy' hd' h' hr' => simp only [isY] at hy'; rw [hy] at hy'; cases hy'
    | iyield hy' hd' hl' ha' hb' hv' hr' =>
      have := iha ha'; cases this
      have := ihb hb'; cases this
      rw [hv] at hv'; cases hv'
      exact ihr hr'

/-! Calls. -/
section
variable {Q : St → Prop} {is : List G}
/-- what is done with a callee's result -/
def KBack (E : Env) (pure : Bool) (σ : St) (is : List G) (d : Nat) (rm : Option Nat) (Q : St → Prop) (v : V) (σc : St) : Prop :=
  optP (back pure σ σc v rm) (fun r => WO E is (r.2.set d r.1) Q)
/-- a callee entered -/
def AtFn (E : Env) (f : Nat) (as : List V) (up : List Lv) (K : V → St → Prop) : Prop := ∃ v σ, Ret E f as up v σ ∧ K v σ
/-- a pure call, its arguments laid out -/
def AtCall (E : Env) (f : Nat) (as : List V) (σ : St) (is : List G) (d : Nat) (rm : Option Nat) (Q : St → Prop) : Prop := AtFn E f as [] (KBack E true σ is d rm Q)
def KHand (E : Env) (f : Nat) (σ : St) (is : List G) (d : Nat) (rm : Option Nat) (Q : St → Prop) (r : List V × List Nat) : Prop := AtCall E f r.1 (σ.frz r.2) is d rm Q
/-- whatever kind of function it is -/
def callK (E : Env) (f : Nat) (σ : St) (as : List X) (is : List G) (d : Nat) (rm : Option Nat) (Q : St → Prop) : Option Fn → Prop
  | some F => match F.pure with
    | none => AtFn E f (V.shifts 1 (σ.vals as)) (σ.ob :: σ.up) (KBack E false σ is d rm Q)
    | some ms => optP (σ.hand (σ.vals as) ms) (KHand E f σ is d rm Q)
  | none => match E.ext f with
    | some X => optP (X σ (σ.vals as) rm) (fun r => WO E is (r.2.set d r.1) Q)
    | none => False
theorem WO_call {d f : Nat} {as : List X} {rm : Option Nat} : WO E (⟨.call d f as rm, none⟩ :: is) σ Q = callK E f σ as is d rm Q (E.fn f) := by
  refine propext ⟨fun h => ?_, fun h => ?_⟩
  · obtain ⟨σ', h, q⟩ := h
    cases h with
    | call hg hf hm h hb hr => rw [hf]; simp only [callK, hm]; exact ⟨_, _, h, by unfold KBack; rw [hb]; exact ⟨_, hr, q⟩⟩
    | pcall hg hf hm hh h hb hr => rw [hf]; simp only [callK, hm, hh]; exact ⟨_, _, h, by unfold KBack; rw [hb]; exact ⟨_, hr, q⟩⟩
    | ext hg hf hx h hr => rw [hf]; simp only [callK, hx, h]; exact ⟨_, hr, q⟩
    | step hg hs hr => simp [step] at hs
    | skipped hg hr => simp [St.wants] at hg
  · cases hf : E.fn f with
    | some F =>
      rw [hf] at h
      cases hm : F.pure with
      | none =>
        simp only [callK, hm] at h
        obtain ⟨v, σc, h, k⟩ := h
        obtain ⟨⟨w, σ₁⟩, hb, σ', hr, q⟩ := optP_iff.1 k
        exact ⟨σ', .call rfl hf hm h hb hr, q⟩
      | some ms =>
        simp only [callK, hm] at h
        obtain ⟨⟨ws, ns⟩, hh, v, σc, h, k⟩ := optP_iff.1 h
        obtain ⟨⟨w, σ₁⟩, hb, σ', hr, q⟩ := optP_iff.1 k
        exact ⟨σ', .pcall rfl hf hm hh h hb hr, q⟩
    | none =>
      rw [hf] at h
      cases hx : E.ext f with
      | none => simp only [callK, hx] at h
      | some X =>
        simp only [callK, hx] at h
        obtain ⟨⟨w, σ₁⟩, h, σ', hr, q⟩ := optP_iff.1 h
        exact ⟨σ', .ext rfl hf hx h hr, q⟩
def KCallv (E : Env) (σ : St) (as : List X) (is : List G) (d : Nat) (rm : Option Nat) (Q : St → Prop) : V → Prop
  | .cl f caps => match E.fnV f with
    | some F => match F.pure with
      | none => AtFn E (clF f) (V.shifts 1 (clA f (σ.vals as) caps)) (σ.ob :: σ.up) (KBack E false σ is d rm Q)
      | some _ => False
    | none => False
  | _ => False
theorem WO_callv {d : Nat} {x : X} {as : List X} {rm : Option Nat} : WO E (⟨.callv d x as rm, none⟩ :: is) σ Q = KCallv E σ as is d rm Q (σ.val x) := by
  refine propext ⟨fun h => ?_, fun h => ?_⟩
  · obtain ⟨σ', h, q⟩ := h
    cases h with
    | callv hg hx hf hm h hb hr => rw [hx]; simp only [KCallv, hf, hm]; exact ⟨_, _, h, by unfold KBack; rw [hb]; exact ⟨_, hr, q⟩⟩
    | step hg hs hr => simp [step] at hs
    | skipped hg hr => simp [St.wants] at hg
  · cases hx : σ.val x with
    | cl f caps =>
      rw [hx] at h
      cases hf : E.fnV f with
      | none => simp only [KCallv, hf] at h
      | some F =>
        cases hm : F.pure with
        | some ms => simp only [KCallv, hf, hm] at h
        | none =>
          simp only [KCallv, hf, hm] at h
          obtain ⟨v, σc, h, k⟩ := h
          obtain ⟨⟨w, σ₁⟩, hb, σ', hr, q⟩ := optP_iff.1 k
          exact ⟨σ', .callv rfl hx hf hm h hb hr, q⟩
    | _ => rw [hx] at h; exact h.elim
def KRes (rs : List Rv) (K : V → St → Prop) : Ex → St → Prop
  | .exit _, _ => False
  | _, σ => optP (resVal σ rs) (fun v => K v σ)
theorem AtFn_eq {f : Nat} {F : Fn} {as : List V} {up : List Lv} {K : V → St → Prop} (hf : E.fn f = some F) : AtFn E f as up K = WC E F.code (St.ini as up) (KRes F.res K) := by
  refine propext ⟨fun h => ?_, fun h => ?_⟩
  · obtain ⟨v, σ', h, k⟩ := h
    cases h with
    | fn hf' h he hv =>
      rw [hf] at hf'; cases hf'
      refine ⟨_, _, h, ?_⟩
      rcases he with rfl | rfl <;> (simp only [KRes, hv]; exact k)
  · obtain ⟨e, σ', h, k⟩ := h
    cases e with
    | exit i => exact k.elim
    | normal => obtain ⟨v, hv, k⟩ := optP_iff.1 k; exact ⟨v, σ', .fn hf h (.inl rfl) hv, k⟩
    | ret => obtain ⟨v, hv, k⟩ := optP_iff.1 k; exact ⟨v, σ', .fn hf h (.inr rfl) hv, k⟩
/-- A function that answers with data, whatever it made for itself. -/
def KAns (v : V) (r : V) (σ : St) : Prop := ∃ ns, dat true σ r = some (v, ns)
def Ans (E : Env) (f : Nat) (as : List V) (v : V) : Prop := AtFn E f as [] (KAns v)
theorem AtCall_of {f : Nat} {as : List V} {v : V} {d : Nat} (h : Ans E f as v) : AtCall E f as σ is d none Q = WO E is (σ.set d v) Q := by
  obtain ⟨r, σc, hr, ns, hd⟩ := h
  refine propext ⟨fun h => ?_, fun h => ⟨r, σc, hr, ?_⟩⟩
  · obtain ⟨r', σ', hr', k⟩ := h
    have := Ev.det hr hr'
    cases this
    simpa [KBack, back, leave, hd, optP] using k
  · simpa [KBack, back, leave, hd, optP] using h
/-- A call from inside whose result and effect are known. -/
theorem AtFn_of {f : Nat} {as : List V} {up : List Lv} {v : V} {σc : St} {K : V → St → Prop} (h : Ret E f as up v σc) : AtFn E f as up K = K v σc :=
  propext ⟨fun ⟨v', σ', h', k⟩ => by have := Ev.det h h'; cases this; exact k, fun k => ⟨v, σc, h, k⟩⟩
end
end Go.Proofs.YtcgjebaomhfbdaaGreat.Vm

/- The rules as one set ('go_sem'), and what stands at a function's beginning and end. -/
namespace Go.Proofs.YtcgjebaomhfbdaaGreat.Vm
open Go
section
variable {E : Env} {σ : St} {Q : St → Prop} {is : List G}
theorem WO_nilr {d nm s} : WO E (⟨.nilr d nm s, none⟩ :: is) σ Q = optP (step σ (.nilr d nm s)) (KSt E is Q) := WO_step rfl
theorem WO_eqs {d ne ks x y} : WO E (⟨.eqs d ne ks x y, none⟩ :: is) σ Q = optP (step σ (.eqs d ne ks x y)) (KSt E is Q) := WO_step rfl
theorem WO_cvt {d k x} : WO E (⟨.cvt d k x, none⟩ :: is) σ Q = optP (step σ (.cvt d k x)) (KSt E is Q) := WO_step rfl
theorem WO_alloc {d nm z} : WO E (⟨.alloc d nm z, none⟩ :: is) σ Q = optP (step σ (.alloc d nm z)) (KSt E is Q) := WO_step rfl
theorem WO_box {d nm x w} : WO E (⟨.box d nm x w, none⟩ :: is) σ Q = optP (step σ (.box d nm x w)) (KSt E is Q) := WO_step rfl
theorem WO_fval {d x off w} : WO E (⟨.fval d x off w, none⟩ :: is) σ Q = optP (step σ (.fval d x off w)) (KSt E is Q) := WO_step rfl
theorem WO_ixb {d x i n s} : WO E (⟨.ixb d x i n s, none⟩ :: is) σ Q = optP (step σ (.ixb d x i n s)) (KSt E is Q) := WO_step rfl
theorem WO_ixa {d x i n s} : WO E (⟨.ixa d x i n s, none⟩ :: is) σ Q = optP (step σ (.ixa d x i n s)) (KSt E is Q) := WO_step rfl
theorem WO_stx {d bs i} : WO E (⟨.stx d bs i, none⟩ :: is) σ Q = optP (stx bs (σ.val i)) (KSet E is σ d Q) := WO_set rfl rfl
theorem WO_bld {d z ps} : WO E (⟨.bld d z ps, none⟩ :: is) σ Q = optP (step σ (.bld d z ps)) (KSt E is Q) := WO_step rfl
theorem WO_bsl {d nm s n z ps} : WO E (⟨.bsl d nm s n z ps, none⟩ :: is) σ Q = optP (step σ (.bsl d nm s n z ps)) (KSt E is Q) := WO_step rfl
theorem WO_mks {d nm s n c z} : WO E (⟨.mks d nm s n c z, none⟩ :: is) σ Q = optP (step σ (.mks d nm s n c z)) (KSt E is Q) := WO_step rfl
theorem WO_clr {s x z} : WO E (⟨.clr s x z, none⟩ :: is) σ Q = optP (step σ (.clr s x z)) (KSt E is Q) := WO_step rfl
theorem WO_xt {d x i} : WO E (⟨.xt d x i, none⟩ :: is) σ Q = optP (step σ (.xt d x i)) (KSt E is Q) := WO_step rfl
theorem WO_chk {d x} : WO E (⟨.chk d x, none⟩ :: is) σ Q = optP (step σ (.chk d x)) (KSt E is Q) := WO_step rfl
theorem WO_mv {d x} : WO E (⟨.mv d x, none⟩ :: is) σ Q = WO E is (σ.set d (σ.val x)) Q := WO_step rfl
theorem WO_fn {d f caps} : WO E (⟨.fn d f caps, none⟩ :: is) σ Q = WO E is (σ.set d (.cl f (σ.vals caps))) Q := WO_step rfl
theorem WO_pick {d c a b} : WO E (⟨.pick d c a b, none⟩ :: is) σ Q = boolP (σ.val c) (KPick E is σ d (σ.val a) (σ.val b) Q) := by
  rw [WO_step rfl]; simp only [step]; cases σ.val c with
  | d p t => cases t <;> rfl
  | _ => rfl
theorem WO_beq {d ne x y} : WO E (⟨.beq d ne x y, none⟩ :: is) σ Q = optP (beq ne (σ.val x) (σ.val y)) (KSet E is σ d Q) := WO_set rfl rfl
theorem WO_bin {d op x y} : WO E (⟨.bin d op x y, none⟩ :: is) σ Q = optP (bin op (σ.val x) (σ.val y)) (KSet E is σ d Q) := WO_set rfl rfl
theorem WO_un {d op x} : WO E (⟨.un d op x, none⟩ :: is) σ Q = optP (un op (σ.val x)) (KSet E is σ d Q) := WO_set rfl rfl
theorem WO_load {d x w} : WO E (⟨.load d x w, none⟩ :: is) σ Q = optP (σ.load (σ.val x) w) (KSet E is σ d Q) := WO_set rfl rfl
theorem WO_fad {d x off w} : WO E (⟨.fad d x off w, none⟩ :: is) σ Q = optP (fad (σ.val x) off w) (KSet E is σ d Q) := WO_set rfl rfl
theorem WO_ix {d x i s} : WO E (⟨.ix d x i s, none⟩ :: is) σ Q = optP (σ.ix (σ.val x) (σ.val i) s) (KSet E is σ d Q) := WO_set rfl rfl
theorem WO_slc {d s x lo hi m} : WO E (⟨.slc d s x lo hi m, none⟩ :: is) σ Q = optP (St.slc s (σ.val x) (lo.map σ.val) (hi.map σ.val) (m.map σ.val)) (KSet E is σ d Q) := WO_set rfl rfl
theorem WO_mx {d x xs} : WO E (⟨.mx d x xs, none⟩ :: is) σ Q = optP (maxOf true (σ.val x) (σ.vals xs)) (KSet E is σ d Q) := WO_set rfl rfl
theorem WO_mn {d x xs} : WO E (⟨.mn d x xs, none⟩ :: is) σ Q = optP (maxOf false (σ.val x) (σ.vals xs)) (KSet E is σ d Q) := WO_set rfl rfl
theorem WO_len {d x} : WO E (⟨.len d x, none⟩ :: is) σ Q = optP (lenOf (σ.val x)) (KLen E is σ d Q) := by rw [WO_step rfl]; simp only [step]; cases lenOf (σ.val x) <;> rfl
theorem WO_store {x y w} : WO E (⟨.store x y w, none⟩ :: is) σ Q = optP (σ.store (σ.val x) (σ.val y) w) (KSt E is Q) := WO_step rfl
theorem WO_app {d nm s x y} : WO E (⟨.app d nm s x y, none⟩ :: is) σ Q = optP (σ.app d nm s (σ.val x) (σ.val y)) (KSt E is Q) := WO_step rfl
theorem WO_cpy {d s x y} : WO E (⟨.cpy d s x y, none⟩ :: is) σ Q = optP (σ.cpy d s (σ.val x) (σ.val y)) (KSt E is Q) := WO_step rfl
end
/-- a call: its body, and the result's slots -/
theorem Ret.of {E : Env} {f : Nat} {F : Fn} {as : List V} {up : List Lv} {v : V} {R : St → Prop} (hf : E.fn f = some F)
    (h : WC E F.code (St.ini as up) (fun e σ => (e = .normal ∨ e = .ret) ∧ resVal σ F.res = some v ∧ R σ)) : ∃ σ, Ret E f as up v σ ∧ R σ := by
  obtain ⟨e, σ, h, he, hv, hR⟩ := h
  exact ⟨σ, .fn hf h he hv, hR⟩
end Go.Proofs.YtcgjebaomhfbdaaGreat.Vm

/- What the machine's values say of Go's memory. -/
namespace Go.Proofs.YtcgjebaomhfbdaaGreat.Vm
open Go

def T.isCell : T → Bool
  | .agg _ => false
  | _ => true
/-! Data: 'ok' are the blocks that stay as they are. -/
mutual
/-- the cells of a value -/
def DenC (w : World) (ok : Nat → Prop) : T → List Value → Prop
  | .int k n, vs => vs = [.int k n]
  | .bool b, vs => vs = [.bool b]
  | .lst s es, vs => ∃ A c, vs = [.slice A es.length c] ∧ es.length ≤ c ∧ (es = [] ∨ ∃ b o, A = some ⟨b, o, none⟩ ∧ ok b ∧ DenR w ok b s o es)
  | .agg cs, vs => DenL w ok cs vs
def DenL (w : World) (ok : Nat → Prop) : List T → List Value → Prop
  | [], vs => vs = []
  | t :: ts, vs => ∃ v vs', vs = v :: vs' ∧ t.isCell = true ∧ DenC w ok t [v] ∧ DenL w ok ts vs'
/-- elements in a row, from a cell on -/
def DenR (w : World) (ok : Nat → Prop) (b s : Nat) : Nat → List T → Prop
  | _, [] => True
  | o, e :: es => (∃ vs, vs.length = s ∧ (∀ j, j < s → w.cell? ⟨b, o + j, none⟩ = vs[j]?) ∧ DenC w ok e vs) ∧ DenR w ok b s (o + s) es
end
def Den (w : World) (ok : Nat → Prop) : T → Value → Prop
  | .agg cs, v => ∃ vs, v = .agg vs.toArray ∧ DenL w ok cs vs
  | t, v => DenC w ok t [v]
theorem cell_of_heap {w w' : World} {b o : Nat} (h : w'.heap[b]? = w.heap[b]?) : w'.cell? ⟨b, o, none⟩ = w.cell? ⟨b, o, none⟩ := by
  simp [World.cell?, h]
theorem frozen_of_heap {w w' : World} {b o : Nat} (h : w'.heap[b]? = w.heap[b]?) : w'.frozen? ⟨b, o, none⟩ = w.frozen? ⟨b, o, none⟩ := by
  simp [World.frozen?, h]
section
variable {w w' : World} {ok ok' : Nat → Prop}
mutual
theorem DenC.mono (hs : ∀ b, ok b → w'.heap[b]? = w.heap[b]?) (ho : ∀ b, ok b → ok' b) : ∀ (t : T) (vs : List Value), DenC w ok t vs → DenC w' ok' t vs
  | .int _ _, _, h => h
  | .bool _, _, h => h
  | .lst s es, vs, h => by
    obtain ⟨A, c, hv, hc, h⟩ := h
    refine ⟨A, c, hv, hc, ?_⟩
    rcases h with h | ⟨b, o, hA, hb, hr⟩
    · exact .inl h
    · exact .inr ⟨b, o, hA, ho b hb, DenR.mono hs ho b s (hs b hb) o es hr⟩
  | .agg cs, vs, h => DenL.mono hs ho cs vs h
theorem DenL.mono (hs : ∀ b, ok b → w'.heap[b]? = w.heap[b]?) (ho : ∀ b, ok b → ok' b) : ∀ (ts : List T) (vs : List Value), DenL w ok ts vs → DenL w' ok' ts vs
  | [], _, h => h
  | t :: ts, _, h => by
    obtain ⟨v, vs', rfl, h0, h1, h2⟩ := h
    exact ⟨v, vs', rfl, h0, DenC.mono hs ho t _ h1, DenL.mono hs ho ts _ h2⟩
theorem DenR.mono (hs : ∀ b, ok b → w'.heap[b]? = w.heap[b]?) (ho : ∀ b, ok b → ok' b) (b s : Nat) (hb : w'.heap[b]? = w.heap[b]?) : ∀ (o : Nat) (es : List T), DenR w ok b s o es → DenR w' ok' b s o es
  | _, [], _ => trivial
  | o, e :: es, h => by
    obtain ⟨⟨vs, hl, hc, he⟩, hr⟩ := h
    exact ⟨⟨vs, hl, fun j hj => by rw [cell_of_heap hb]; exact hc j hj, DenC.mono hs ho e vs he⟩, DenR.mono hs ho b s hb (o + s) es hr⟩
end
theorem Den.mono (hs : ∀ b, ok b → w'.heap[b]? = w.heap[b]?) (ho : ∀ b, ok b → ok' b) {t : T} {v : Value} (h : Den w ok t v) : Den w' ok' t v := by
  cases t with
  | agg cs => obtain ⟨vs, hv, h⟩ := h; exact ⟨vs, hv, DenL.mono hs ho cs vs h⟩
  | _ => exact DenC.mono hs ho _ _ h
end
theorem Den.cells {w : World} {ok : Nat → Prop} {t : T} {v : Value} (h : Den w ok t v) : DenC w ok t v.cells.toList := by
  cases t with
  | agg cs => obtain ⟨vs, rfl, h⟩ := h; simp only [DenC]; simpa [Value.cells] using h
  | int k n => simp only [Den, DenC, List.cons.injEq, and_true] at h; subst h; simp [Value.cells, DenC]
  | bool b => simp only [Den, DenC, List.cons.injEq, and_true] at h; subst h; simp [Value.cells, DenC]
  | lst s es =>
    obtain ⟨A, c, hv, h⟩ := h
    simp only [List.cons.injEq, and_true] at hv
    subst hv
    exact ⟨A, c, by simp [Value.cells], h⟩

/-! Rows: parts and changes. -/
section
variable {w : World} {ok : Nat → Prop} {b s : Nat}
theorem DenR.get : ∀ (es : List T) (o i : Nat) (e : T), DenR w ok b s o es → es[i]? = some e →
    ∃ vs, vs.length = s ∧ (∀ j, j < s → w.cell? ⟨b, o + i * s + j, none⟩ = vs[j]?) ∧ DenC w ok e vs
  | [], _, _, _, _, h => by simp at h
  | e :: es, o, 0, e', h, he => by
    simp at he; subst he
    simpa using h.1
  | _ :: es, o, i + 1, e', h, he => by
    simp at he
    obtain ⟨vs, hl, hc, hd⟩ := DenR.get es (o + s) i e' h.2 he
    refine ⟨vs, hl, fun j hj => ?_, hd⟩
    rw [← hc j hj, Nat.add_mul, Nat.one_mul]
    congr 2; omega
theorem DenR.drop : ∀ (k : Nat) (es : List T) (o : Nat), DenR w ok b s o es → DenR w ok b s (o + k * s) (es.drop k)
  | 0, es, o, h => by simpa using h
  | k + 1, [], o, h => by simp [DenR]
  | k + 1, e :: es, o, h => by
    have := DenR.drop k es (o + s) h.2
    rw [List.drop_succ_cons, Nat.add_mul, Nat.one_mul]
    have e : o + (k * s + s) = o + s + k * s := by omega
    rw [e]; exact this
theorem DenR.take : ∀ (k : Nat) (es : List T) (o : Nat), DenR w ok b s o es → DenR w ok b s o (es.take k)
  | 0, es, o, h => by simp [DenR]
  | k + 1, [], o, h => by simp [DenR]
  | k + 1, e :: es, o, h => ⟨h.1, DenR.take k es (o + s) h.2⟩
theorem DenR.slice {es : List T} {o lo len : Nat} (h : DenR w ok b s o es) : DenR w ok b s (o + lo * s) (Vm.slice lo len es) := (h.drop lo).take len _ _
theorem DenR.append : ∀ (es fs : List T) (o : Nat), DenR w ok b s o es → DenR w ok b s (o + es.length * s) fs → DenR w ok b s o (es ++ fs)
  | [], fs, o, _, h => by simpa using h
  | e :: es, fs, o, h, k => by
    refine ⟨h.1, DenR.append es fs (o + s) h.2 ?_⟩
    simp only [List.length_cons, Nat.add_mul, Nat.one_mul] at k
    have e : o + s + es.length * s = o + (es.length * s + s) := by omega
    rw [e]; exact k
/-- Rows hang on their own cells and on what 'ok' keeps. -/
theorem DenR.of_cells {w' : World} {b' : Nat} (hs : ∀ b, ok b → w'.heap[b]? = w.heap[b]?) : ∀ (es : List T) (o o' : Nat),
    (∀ i, i < es.length * s → w'.cell? ⟨b', o' + i, none⟩ = w.cell? ⟨b, o + i, none⟩) → DenR w ok b s o es → DenR w' ok b' s o' es
  | [], _, _, _, _ => trivial
  | e :: es, o, o', hc, h => by
    obtain ⟨⟨vs, hl, hv, hd⟩, hr⟩ := h
    refine ⟨⟨vs, hl, fun j hj => ?_, DenC.mono hs (fun _ h => h) e vs hd⟩, DenR.of_cells hs es (o + s) (o' + s) (fun i hi => ?_) hr⟩
    · rw [hc j (by simp only [List.length_cons, Nat.add_mul, Nat.one_mul]; omega)]; exact hv j hj
    · have := hc (s + i) (by simp only [List.length_cons, Nat.add_mul, Nat.one_mul]; omega)
      rw [Nat.add_assoc, this, Nat.add_assoc]
end

/-! The machine's objects in memory. -/
structure Gh where
  own : Nat → Option (Nat × Nat)
  loc : Nat → Nat → Nat × Nat × Nat
  ok : Nat → Prop
  base : Nat
abbrev Obs := Nat → Nat → Option Ob
/-- the objects by absolute levels: 0 is the outermost frame's -/
def St.O (σ : St) : Obs := fun a n => if a < σ.up.length + 1 then σ.obj (σ.up.length - a) n else none

/-- lent data: the elements stay for good, the row itself as long as the call lasts -/
def DenT (w : World) (g : Gh) : T → Value → Prop
  | .lst s es, v => ∃ A c, v = .slice A es.length c ∧ es.length ≤ c ∧ (es = [] ∨ ∃ b o, A = some ⟨b, o, none⟩ ∧ (g.ok b ∨ b < g.base) ∧ DenR w g.ok b s o es)
  | t, v => Den w g.ok t v
def RowV (g : Gh) (w : World) (O : Obs) (a n lo len s : Nat) (A : Option Addr) (c : Nat) : Prop :=
  match O a n with
  | some (.rw s' es gr) => s' = s ∧ lo + len ≤ es.length ∧ len ≤ c ∧ (c = 0 ∨ ∃ b o, A = some ⟨b, o, none⟩ ∧ g.own b = some (a, n) ∧ DenR w g.ok b s o (slice lo len es) ∧
      ((b = (g.loc a n).1 ∧ o = (g.loc a n).2.1 + lo * s ∧ lo + c ≤ (g.loc a n).2.2) ∨ (gr = true ∧ lo + len < es.length ∧ b ≠ (g.loc a n).1)))
  | some (.fz s' es) => s' = s ∧ lo + len ≤ es.length ∧ len ≤ c ∧ (len = 0 ∨ ∃ b o, A = some ⟨b, o, none⟩ ∧ g.ok b ∧ DenR w g.ok b s o (slice lo len es))
  | some .gone => len ≤ c
  | some (.box cs) => s = 1 ∧ len ≤ c ∧ lo + len ≤ cs.length ∧ (c = 0 ∨ (A = some ⟨(g.loc a n).1, lo, none⟩ ∧ lo + c ≤ (g.loc a n).2.2))
  | _ => False
def RelV (g : Gh) (w : World) (O : Obs) (a n i off : Nat) (v : Value) : Prop :=
  match O a n with
  | some (.rw s es gr) => ∃ b o e vs, v = .pointer (some ⟨b, o + off, none⟩) ∧ g.own b = some (a, n) ∧ es[i]? = some e ∧ vs.length = s ∧ (∀ j, j < s → w.cell? ⟨b, o + j, none⟩ = vs[j]?) ∧ DenC w g.ok e vs ∧
      (gr = false → b = (g.loc a n).1) ∧ (b = (g.loc a n).1 → o = (g.loc a n).2.1 + i * s)
  | some (.fz s es) => ∃ b o e vs, v = .pointer (some ⟨b, o + off, none⟩) ∧ g.ok b ∧ es[i]? = some e ∧ vs.length = s ∧ (∀ j, j < s → w.cell? ⟨b, o + j, none⟩ = vs[j]?) ∧ DenC w g.ok e vs
  | some .gone => ∃ b o, v = .pointer (some ⟨b, o + off, none⟩)
  | _ => False
def PtrV (g : Gh) (O : Obs) (a n off : Nat) (v : Value) : Prop :=
  match O a n with
  | some (.box _) => v = .pointer (some ⟨(g.loc a n).1, off, none⟩)
  | some .gone => ∃ b o, v = .pointer (some ⟨b, o + off, none⟩)
  | some (.fz _ _) => ∃ b o, v = .pointer (some ⟨b, o + off, none⟩)
  | _ => False
theorem PtrV.box {g : Gh} {O : Obs} {a n off : Nat} {v : Value} {cs : List V} (h : PtrV g O a n off v) (hO : O a n = some (.box cs)) : v = .pointer (some ⟨(g.loc a n).1, off, none⟩) := by
  unfold PtrV at h; rw [hO] at h; exact h
theorem PtrV.shape {g : Gh} {O : Obs} {a n off : Nat} {v : Value} (h : PtrV g O a n off v) : ∃ b o, v = .pointer (some ⟨b, o + off, none⟩) ∧ ∀ off', PtrV g O a n off' (.pointer (some ⟨b, o + off', none⟩)) := by
  unfold PtrV at h ⊢
  split at h
  · exact ⟨_, 0, by rw [Nat.zero_add]; exact h, fun off' => by simp only [Nat.zero_add]⟩
  · obtain ⟨b, o, h⟩ := h; exact ⟨b, o, h, fun off' => ⟨b, o, rfl⟩⟩
  · obtain ⟨b, o, h⟩ := h; exact ⟨b, o, h, fun off' => ⟨b, o, rfl⟩⟩
  · exact h.elim
theorem PtrV.of {g : Gh} {O : Obs} {a n off : Nat} {v : Value} {cs : List V} (hO : O a n = some (.box cs)) (h : v = .pointer (some ⟨(g.loc a n).1, off, none⟩)) : PtrV g O a n off v := by
  unfold PtrV; rw [hO]; exact h
def clV (f : Nat) (vs : List Value) : Value := match Nat.ble nilF f with
  | true => .pointer none
  | false => match Nat.ble bndF f with
    | true => .func (.func (f - bndF)) vs.toArray #[]
    | false => .func (.func f) #[] vs.toArray
theorem clV_one (f : Nat) (vs : List Value) : (clV f vs).oneCell' = true := by
  unfold clV
  cases Nat.ble nilF f with
  | true => rfl
  | false => cases Nat.ble bndF f <;> rfl
theorem clV_cases {f : Nat} (h : ¬ Nat.ble nilF f = true) (vs : List Value) : ∃ h a b, clV f vs = .func (.func h) a b := by
  unfold clV
  rw [Bool.eq_false_iff.2 h]
  cases Nat.ble bndF f with
  | true => exact ⟨_, _, _, rfl⟩
  | false => exact ⟨_, _, _, rfl⟩
theorem clV_nil (vs : List Value) : clV nilF vs = .pointer none := rfl
theorem clV_small {f : Nat} (h : f < bndF) (vs : List Value) : clV f vs = .func (.func f) #[] vs.toArray := by
  have : Nat.ble bndF f = false := by rw [Bool.eq_false_iff]; intro e; have := Nat.le_of_ble_eq_true e; omega
  have h2 : Nat.ble nilF f = false := by rw [Bool.eq_false_iff]; intro e; have := Nat.le_of_ble_eq_true e; unfold nilF at this; unfold bndF at h; omega
  unfold clV; rw [h2, this]
theorem clV_big {f : Nat} (h : f < bndF) (vs : List Value) : clV (f + bndF) vs = .func (.func f) vs.toArray #[] := by
  have : Nat.ble bndF (f + bndF) = true := Nat.ble_eq_true_of_le (by omega)
  have h2 : Nat.ble nilF (f + bndF) = false := by rw [Bool.eq_false_iff]; intro e; have := Nat.le_of_ble_eq_true e; unfold nilF at this; unfold bndF at h this; omega
  unfold clV; rw [h2, this, Nat.add_sub_cancel]
mutual
/-- a value in a frame of depth D -/
def VR (g : Gh) (w : World) (O : Obs) (D : Nat) : V → Value → Prop
  | .d true t, v => Den w g.ok t v
  | .d false t, v => DenT w g t v
  | .dx p t, v => (match p with | true => Den w g.ok t v | false => DenT w g t v) ∧ ∃ A n, v = .slice A n n
  | .nil _, v => ∃ A, v = .slice A 0 0
  | .row l n lo len s, v => l < D ∧ ∃ A c, v = .slice A len c ∧ RowV g w O (D - 1 - l) n lo len s A c
  | .ptr l n off, v => l < D ∧ PtrV g O (D - 1 - l) n off v
  | .rel l n i off, v => l < D ∧ RelV g w O (D - 1 - l) n i off v
  | .pd t, v => ∃ b o vs, v = .pointer (some ⟨b, o, none⟩) ∧ (g.ok b ∨ b < g.base) ∧ (∀ j, j < vs.length → w.cell? ⟨b, o + j, none⟩ = vs[j]?) ∧ DenC w g.ok t vs
  | .ag cs, v => ∃ vs, v = .agg vs.toArray ∧ VRs g w O D cs vs ∧ ∀ x ∈ vs, x.oneCell' = true
  | .tp cs, v => ∃ vs, v = .tuple vs.toArray ∧ VRs g w O D cs vs
  | .cl f cs, v => ∃ vs : List Value, v = clV f vs ∧ VRs g w O D cs vs
  | .u, _ => True
def VRs (g : Gh) (w : World) (O : Obs) (D : Nat) : List V → List Value → Prop
  | [], vs => vs = []
  | c :: cs, vs => ∃ v vs', vs = v :: vs' ∧ VR g w O D c v ∧ VRs g w O D cs vs'
end
mutual
/-- what does not name the objects in 'bad' (absolute levels) -/
def V.clean (D : Nat) (bad : Nat → Nat → Prop) : V → Prop
  | .row l n _ _ _ | .ptr l n _ | .rel l n _ _ => l < D → ¬ bad (D - 1 - l) n
  | .ag cs | .tp cs | .cl _ cs => V.cleans D bad cs
  | _ => True
def V.cleans (D : Nat) (bad : Nat → Nat → Prop) : List V → Prop
  | [] => True
  | v :: vs => V.clean D bad v ∧ V.cleans D bad vs
end
/-- What a change must leave as it was, for values of depth at most D that name nothing bad. -/
structure Keep (D : Nat) (bad : Nat → Nat → Prop) (g : Gh) (w : World) (O : Obs) (g' : Gh) (w' : World) (O' : Obs) : Prop where
  base : g'.base = g.base
  ok : ∀ b, g.ok b → g'.ok b
  heap : ∀ b, g.ok b ∨ b < g.base → w'.heap[b]? = w.heap[b]?
  row : ∀ a n lo len s A c, a < D → ¬ bad a n → RowV g w O a n lo len s A c → RowV g' w' O' a n lo len s A c
  rel : ∀ a n i off v, a < D → ¬ bad a n → RelV g w O a n i off v → RelV g' w' O' a n i off v
  ptr : ∀ a n off v, a < D → ¬ bad a n → PtrV g O a n off v → PtrV g' O' a n off v
section
variable {D : Nat} {bad : Nat → Nat → Prop} {g g' : Gh} {w w' : World} {O O' : Obs}
theorem DenT.keep (K : Keep D bad g w O g' w' O') {t : T} {v : Value} (h : DenT w g t v) : DenT w' g' t v := by
  have hs : ∀ b, g.ok b → w'.heap[b]? = w.heap[b]? := fun b hb => K.heap b (.inl hb)
  cases t with
  | lst s es =>
    obtain ⟨A, c, hv, hc, h⟩ := h
    refine ⟨A, c, hv, hc, ?_⟩
    rcases h with h | ⟨b, o, hA, hb, hr⟩
    · exact .inl h
    · refine .inr ⟨b, o, hA, ?_, DenR.mono hs K.ok b s (K.heap b hb) o es hr⟩
      rcases hb with hb | hb
      · exact .inl (K.ok b hb)
      · exact .inr (K.base ▸ hb)
  | int k n => exact Den.mono (t := .int k n) hs K.ok h
  | bool b => exact Den.mono (t := .bool b) hs K.ok h
  | agg cs => exact Den.mono (t := .agg cs) hs K.ok h
mutual
theorem VR.keep (K : Keep D bad g w O g' w' O') : ∀ (d : Nat) (_ : d ≤ D) (v : V) (x : Value), V.clean d bad v → VR g w O d v x → VR g' w' O' d v x
  | d, hd, .d true t, x, _, h => Den.mono (fun b hb => K.heap b (.inl hb)) K.ok h
  | d, hd, .d false t, x, _, h => DenT.keep K h
  | d, hd, .dx true t, x, _, h => ⟨Den.mono (fun b hb => K.heap b (.inl hb)) K.ok h.1, h.2⟩
  | d, hd, .dx false t, x, _, h => ⟨DenT.keep K h.1, h.2⟩
  | d, hd, .nil _, x, _, h => h
  | d, hd, .row l n lo len s, x, hc, h => by
    obtain ⟨hl, A, c, hv, h⟩ := h
    exact ⟨hl, A, c, hv, K.row _ _ _ _ _ _ _ (by omega) (hc hl) h⟩
  | d, hd, .ptr l n off, x, hc, h => ⟨h.1, K.ptr _ _ _ _ (by have := h.1; omega) (hc h.1) h.2⟩
  | d, hd, .rel l n i off, x, hc, h => ⟨h.1, K.rel _ _ _ _ _ (by have := h.1; omega) (hc h.1) h.2⟩
  | d, hd, .pd t, x, _, h => by
    obtain ⟨b, o, vs, hv, hb, hc, ht⟩ := h
    refine ⟨b, o, vs, hv, ?_, fun j hj => by rw [cell_of_heap (K.heap b hb)]; exact hc j hj, DenC.mono (fun b hb => K.heap b (.inl hb)) K.ok t vs ht⟩
    rcases hb with hb | hb
    · exact .inl (K.ok b hb)
    · exact .inr (K.base ▸ hb)
  | d, hd, .ag cs, x, hc, h => let ⟨vs, hv, h, h1⟩ := h; ⟨vs, hv, VRs.keep K d hd cs vs hc h, h1⟩
  | d, hd, .tp cs, x, hc, h => let ⟨vs, hv, h⟩ := h; ⟨vs, hv, VRs.keep K d hd cs vs hc h⟩
  | d, hd, .cl f cs, x, hc, h => let ⟨vs, hv, h⟩ := h; ⟨vs, hv, VRs.keep K d hd cs vs hc h⟩
  | d, hd, .u, x, _, _ => trivial
theorem VRs.keep (K : Keep D bad g w O g' w' O') : ∀ (d : Nat) (_ : d ≤ D) (cs : List V) (vs : List Value), V.cleans d bad cs → VRs g w O d cs vs → VRs g' w' O' d cs vs
  | d, hd, [], _, _, h => h
  | d, hd, c :: cs, _, hc, h => by
    obtain ⟨v, vs', rfl, h1, h2⟩ := h
    exact ⟨v, vs', rfl, VR.keep K d hd c v hc.1 h1, VRs.keep K d hd cs vs' hc.2 h2⟩
end
end
end Go.Proofs.YtcgjebaomhfbdaaGreat.Vm

/- States of the machine and of Go: the relation, and what keeps it. -/
namespace Go.Proofs.YtcgjebaomhfbdaaGreat.Vm
open Go

def ObR (g : Gh) (w : World) (O : Obs) (a n : Nat) : Ob → Prop
  | .box cs => g.own (g.loc a n).1 = some (a, n) ∧ ∃ vs rest elem, w.heap[(g.loc a n).1]? = some (.cells (vs ++ rest).toArray elem (0, 0)) ∧ VRs g w O (a + 1) cs vs ∧ (∀ x ∈ vs ++ rest, x.oneCell' = true) ∧ (g.loc a n).2.2 ≤ vs.length + rest.length
  | .rw s es _ => (es = [] ∧ (g.loc a n).2.2 = 0) ∨ (g.own (g.loc a n).1 = some (a, n) ∧ es.length ≤ (g.loc a n).2.2 ∧ ∃ cells elem,
      w.heap[(g.loc a n).1]? = some (.cells cells elem (0, 0)) ∧ (g.loc a n).2.1 + (g.loc a n).2.2 * s ≤ cells.size ∧ DenR w g.ok (g.loc a n).1 s (g.loc a n).2.1 es)
  | .fz _ _ => True
  | .gone => True
abbrev Roots := List (Nat × V × Value)
structure Rel (g : Gh) (σ : St) (tmps : Array Value) (rts : Roots) (w : World) : Prop where
  sl : ∀ i, VR g w σ.O (σ.up.length + 1) (σ.get i) (tmps.getD i undef)
  ob : ∀ a n o, a < σ.up.length + 1 → σ.O a n = some o → ObR g w σ.O a n o
  rt : ∀ r ∈ rts, r.1 ≤ σ.up.length ∧ VR g w σ.O r.1 r.2.1 r.2.2
  own : ∀ b a n, g.own b = some (a, n) → b < w.heap.size ∧ ¬ g.ok b ∧ g.base ≤ b ∧ a < σ.up.length + 1
  okb : ∀ b, g.ok b → b < w.heap.size
  base : g.base ≤ w.heap.size
/-- what a run does to what is not its own: nothing -/
structure Adv (g : Gh) (w : World) (g' : Gh) (w' : World) : Prop where
  base : g'.base = g.base
  ok : ∀ b, g.ok b → g'.ok b
  okNew : ∀ b, g'.ok b → g.ok b ∨ w.heap.size ≤ b ∨ g.own b ≠ none
  ownNew : ∀ b, g'.own b ≠ none → g.own b ≠ none ∨ w.heap.size ≤ b
  heap : ∀ b, b < w.heap.size → g.own b = none → w'.heap[b]? = w.heap[b]?
  size : w.heap.size ≤ w'.heap.size
  os : w'.os = w.os
  tape : w'.tape = w.tape
  output : w'.output = w.output
theorem Adv.refl (g : Gh) (w : World) : Adv g w g w := ⟨rfl, fun _ h => h, fun _ h => .inl h, fun _ h => .inl h, fun _ _ _ => rfl, Nat.le_refl _, rfl, rfl, rfl⟩
theorem Adv.trans {g₀ g₁ g₂ : Gh} {w₀ w₁ w₂ : World} (h : Adv g₀ w₀ g₁ w₁) (k : Adv g₁ w₁ g₂ w₂) : Adv g₀ w₀ g₂ w₂ where
  base := k.base.trans h.base
  ok := fun b hb => k.ok b (h.ok b hb)
  okNew := fun b hb => by
    rcases k.okNew b hb with hb | hb | hb
    · exact h.okNew b hb
    · exact .inr (.inl (Nat.le_trans h.size hb))
    · rcases h.ownNew b hb with hb | hb
      · exact .inr (.inr hb)
      · exact .inr (.inl hb)
  ownNew := fun b hb => by
    rcases k.ownNew b hb with hb | hb
    · exact h.ownNew b hb
    · exact .inr (Nat.le_trans h.size hb)
  heap := fun b hb ho => by
    have h1 : g₁.own b = none := by
      cases h1 : g₁.own b with
      | none => rfl
      | some x => rcases h.ownNew b (by rw [h1]; simp) with hx | hx
                  · exact absurd ho hx
                  · omega
    rw [k.heap b (Nat.lt_of_lt_of_le hb h.size) h1, h.heap b hb ho]
  size := Nat.le_trans h.size k.size
  os := k.os.trans h.os
  tape := k.tape.trans h.tape
  output := k.output.trans h.output

/-! Values of no object. -/
mutual
theorem V.clean_false (D : Nat) : ∀ v : V, V.clean D (fun _ _ => False) v
  | .row .. | .ptr .. | .rel .. => fun _ h => h
  | .ag cs | .tp cs | .cl _ cs => V.cleans_false D cs
  | .d .. | .dx .. | .nil .. | .pd .. | .u => trivial
theorem V.cleans_false (D : Nat) : ∀ vs : List V, V.cleans D (fun _ _ => False) vs
  | [] => trivial
  | v :: vs => ⟨V.clean_false D v, V.cleans_false D vs⟩
end
section
variable {g g' : Gh} {w w' : World} {O O' : Obs} {D : Nat}
theorem VR.keep' (K : Keep D (fun _ _ => False) g w O g' w' O') {d : Nat} (hd : d ≤ D) {v : V} {x : Value} (h : VR g w O d v x) : VR g' w' O' d v x :=
  VR.keep K d hd v x (V.clean_false d v) h
theorem VRs.keep' (K : Keep D (fun _ _ => False) g w O g' w' O') {d : Nat} (hd : d ≤ D) {v : List V} {x : List Value} (h : VRs g w O d v x) : VRs g' w' O' d v x :=
  VRs.keep K d hd v x (V.cleans_false d v) h
/-- A world with the same memory. -/
theorem Keep.same (hh : w'.heap = w.heap) : Keep D (fun _ _ => False) g w O g w' O := by
  have hs : ∀ b, g.ok b → w'.heap[b]? = w.heap[b]? := fun b _ => by rw [hh]
  have hr : ∀ b s o es, DenR w g.ok b s o es → DenR w' g.ok b s o es := fun b s o es h => DenR.mono hs (fun _ h => h) b s (by rw [hh]) o es h
  refine ⟨rfl, fun _ h => h, fun b _ => by rw [hh], fun a n lo len s A c _ _ h => ?_, fun a n i off v _ _ h => ?_, fun a n off v _ _ h => h⟩
  · unfold RowV at h ⊢
    split at h
    · obtain ⟨h1, h2, h3, h4⟩ := h
      exact ⟨h1, h2, h3, h4.imp id fun ⟨b, o, hA, ho, hd, hx⟩ => ⟨b, o, hA, ho, hr _ _ _ _ hd, hx⟩⟩
    · obtain ⟨h1, h2, h3, h4⟩ := h
      exact ⟨h1, h2, h3, h4.imp id fun ⟨b, o, hA, ho, hd⟩ => ⟨b, o, hA, ho, hr _ _ _ _ hd⟩⟩
    · exact h
    · exact h
    · exact h
  · unfold RelV at h ⊢
    split at h
    · obtain ⟨b, o, e, vs, hv, ho, he, hl, hc, hd, hg⟩ := h
      exact ⟨b, o, e, vs, hv, ho, he, hl, fun j hj => (cell_of_heap (w := w) (w' := w') (by rw [hh])).trans (hc j hj), DenC.mono hs (fun _ h => h) _ _ hd, hg⟩
    · obtain ⟨b, o, e, vs, hv, ho, he, hl, hc, hd⟩ := h
      exact ⟨b, o, e, vs, hv, ho, he, hl, fun j hj => (cell_of_heap (w := w) (w' := w') (by rw [hh])).trans (hc j hj), DenC.mono hs (fun _ h => h) _ _ hd⟩
    · exact h
    · exact h
end
theorem St.O_set (σ : St) (i : Nat) (v : V) : (σ.set i v).O = σ.O := by
  funext a n
  simp [St.O, St.obj_set, St.up_set]
section
variable {g : Gh} {σ : St} {tmps : Array Value} {rts : Roots} {w : World}
theorem ObR.keep' {g' : Gh} {w' : World} {O O' : Obs} {D a n : Nat} {o : Ob} (K : Keep D (fun _ _ => False) g w O g' w' O') (ha : a < D)
    (hl : g'.loc a n = g.loc a n) (ho : ∀ b, g.own b = some (a, n) → g'.own b = some (a, n)) (hh : w'.heap[(g.loc a n).1]? = w.heap[(g.loc a n).1]?) (h : ObR g w O a n o) : ObR g' w' O' a n o := by
  cases o with
  | box cs =>
    obtain ⟨h1, vs, rest, elem, h2, h3, h4⟩ := h
    exact ⟨by rw [hl]; exact ho _ h1, vs, rest, elem, by rw [hl, hh]; exact h2, VRs.keep' K (by omega) h3, h4.1, by rw [hl]; exact h4.2⟩
  | rw s es gr =>
    rcases h with h | ⟨h1, h2, cells, elem, h3, h4, h5⟩
    · exact .inl (by rw [hl]; exact h)
    · refine .inr ⟨by rw [hl]; exact ho _ h1, by rw [hl]; exact h2, cells, elem, by rw [hl, hh]; exact h3, by rw [hl]; exact h4, ?_⟩
      rw [hl]
      exact DenR.mono (fun b hb => K.heap b (.inl hb)) K.ok _ _ hh _ _ h5
  | fz s es => trivial
  | gone => trivial
theorem Rel.same {w' : World} (h : Rel g σ tmps rts w) (hh : w'.heap = w.heap) : Rel g σ tmps rts w' where
  sl := fun i => VR.keep' (D := σ.up.length + 1) (Keep.same hh) (Nat.le_refl _) (h.sl i)
  ob := fun a n o ha ho => ObR.keep' (D := σ.up.length + 1) (Keep.same hh) ha rfl (fun _ h => h) (by rw [hh]) (h.ob a n o ha ho)
  rt := fun r hr => ⟨(h.rt r hr).1, VR.keep' (D := σ.up.length + 1) (Keep.same hh) (Nat.le_succ_of_le (h.rt r hr).1) (h.rt r hr).2⟩
  own := fun b a n hb => by rw [hh]; exact h.own b a n hb
  okb := fun b hb => by rw [hh]; exact h.okb b hb
  base := by rw [hh]; exact h.base
/-- A slot is written. -/
theorem Rel.set {d : Nat} {v : V} {x : Value} (h : Rel g σ tmps rts w) (hd : d < tmps.size) (hv : VR g w σ.O (σ.up.length + 1) v x) : Rel g (σ.set d v) (tmps.setIfInBounds d x) rts w where
  sl := fun i => by
    rw [St.O_set, St.get_set, St.up_set]
    by_cases hi : d = i
    · subst hi
      simpa [hd] using hv
    · rw [if_neg hi]
      have : (tmps.setIfInBounds d x).getD i undef = tmps.getD i undef := by simp [Array.getElem?_setIfInBounds_ne hi]
      rw [this]
      exact h.sl i
  ob := fun a n o ha ho => by rw [St.O_set] at ho ⊢; exact h.ob a n o ha ho
  rt := fun r hr => by rw [St.O_set]; exact h.rt r hr
  own := h.own
  okb := h.okb
  base := h.base
end
/-! Objects: where they stand. -/
theorem st_length {α : Type} (d : α) : ∀ (l : List α) (i : Nat) (v : α), i < l.length → (st d l i v).length = l.length
  | [], i, v, h => by simp at h
  | a :: l, 0, v, h => by simp [st]
  | a :: l, i + 1, v, h => by simp [st, st_length d l i v (by simpa using h)]
theorem St.up_setObj (σ : St) (l n : Nat) (o : Option Ob) (hl : l ≤ σ.up.length) : (σ.setObj l n o).up.length = σ.up.length := by
  cases l with
  | zero => rfl
  | succ l => exact st_length _ _ _ _ (by omega)
theorem St.O_setObj (σ : St) (l n : Nat) (o : Option Ob) (hl : l ≤ σ.up.length) (a m : Nat) :
    (σ.setObj l n o).O a m = if a = σ.up.length - l ∧ m = n then o else σ.O a m := by
  simp only [St.O, St.up_setObj σ l n o hl, St.obj_setObj]
  by_cases ha : a < σ.up.length + 1
  · simp only [ha, if_true]
    by_cases h : l = σ.up.length - a ∧ n = m
    · obtain ⟨h1, h2⟩ := h
      rw [if_pos ⟨h1, h2⟩, if_pos ⟨by omega, h2.symm⟩]
    · rw [if_neg h, if_neg (fun hh => h ⟨by omega, hh.2.symm⟩)]
  · simp only [ha, if_false]
    rw [if_neg (fun hh => by omega)]
theorem St.O_obj (σ : St) (l n : Nat) (hl : l ≤ σ.up.length) : σ.O (σ.up.length - l) n = σ.obj l n := by
  simp only [St.O]
  rw [if_pos (by omega)]
  congr 1; omega
theorem push_old {w w' : World} {o : Obj} (hw : w'.heap = w.heap.push o) {b : Nat} (hb : b < w.heap.size) : w'.heap[b]? = w.heap[b]? := by
  rw [hw, Array.getElem?_push, if_neg (by omega)]
theorem push_new {w w' : World} {o : Obj} (hw : w'.heap = w.heap.push o) : w'.heap[w.heap.size]? = some o := by
  rw [hw, Array.getElem?_push, if_pos rfl]
/-- Growth of rows, and every other change that leaves each view what it was. -/
structure Grow (bad : Nat → Nat → Prop) (g : Gh) (w : World) (O : Obs) (g' : Gh) (w' : World) (O' : Obs) : Prop where
  base : g'.base = g.base
  ok : ∀ b, g.ok b → g'.ok b
  heap : ∀ b, g.ok b ∨ b < g.base ∨ g.own b ≠ none → w'.heap[b]? = w.heap[b]?
  own : ∀ b a n, ¬ bad a n → g.own b = some (a, n) → g'.own b = some (a, n)
  loc : ∀ a n, ¬ bad a n → g'.loc a n = g.loc a n
  obj : ∀ a n, ¬ bad a n → O' a n = O a n
theorem Grow.keep {D : Nat} {bad : Nat → Nat → Prop} {g g' : Gh} {w w' : World} {O O' : Obs} (G : Grow bad g w O g' w' O') : Keep D bad g w O g' w' O' := by
  have hs : ∀ b, g.ok b → w'.heap[b]? = w.heap[b]? := fun b hb => G.heap b (.inl hb)
  refine ⟨G.base, G.ok, fun b hb => G.heap b (hb.imp id .inl), fun a n lo len s A c _ hb h => ?_, fun a n i off v _ hb h => ?_, fun a n off v _ hb h => ?_⟩
  · unfold RowV at h ⊢
    rw [G.obj a n hb, G.loc a n hb]
    split at h
    · obtain ⟨h1, h2, h3, h4⟩ := h
      refine ⟨h1, h2, h3, h4.imp id fun ⟨b, o, hA, ho, hd, hx⟩ => ⟨b, o, hA, G.own b a n hb ho, ?_, hx⟩⟩
      exact DenR.mono hs G.ok b s (G.heap b (.inr (.inr (by rw [ho]; simp)))) o _ hd
    · obtain ⟨h1, h2, h3, h4⟩ := h
      refine ⟨h1, h2, h3, h4.imp id fun ⟨b, o, hA, ho, hd⟩ => ⟨b, o, hA, G.ok b ho, ?_⟩⟩
      exact DenR.mono hs G.ok b s (hs b ho) o _ hd
    · exact h
    · exact h
    · exact h
  · unfold RelV at h ⊢
    rw [G.obj a n hb, G.loc a n hb]
    split at h
    · obtain ⟨b, o, e, vs, hv, ho, he, hl, hc, hd, hg⟩ := h
      exact ⟨b, o, e, vs, hv, G.own b a n hb ho, he, hl, fun j hj => (cell_of_heap (w := w) (w' := w') (G.heap b (.inr (.inr (by rw [ho]; simp))))).trans (hc j hj), DenC.mono hs G.ok _ _ hd, hg⟩
    · obtain ⟨b, o, e, vs, hv, ho, he, hl, hc, hd⟩ := h
      exact ⟨b, o, e, vs, hv, G.ok b ho, he, hl, fun j hj => (cell_of_heap (w := w) (w' := w') (hs b ho)).trans (hc j hj), DenC.mono hs G.ok _ _ hd⟩
    · exact h
    · exact h
  · unfold PtrV at h ⊢
    rw [G.obj a n hb, G.loc a n hb]
    exact h
/-- one block more, owned by (a, n) -/
def Gh.new (g : Gh) (b a n cap : Nat) : Gh :=
  { g with own := fun c => if c = b then some (a, n) else g.own c, loc := fun c m => if c = a ∧ m = n then (b, 0, cap) else g.loc c m }
section
variable {g : Gh} {σ : St} {tmps : Array Value} {rts : Roots} {w w' : World}
/-- Views of what there is not. -/
theorem Keep.absent {D : Nat} {g g' : Gh} {w w' : World} {O O' : Obs} {a₀ n₀ : Nat} (hO : O a₀ n₀ = none) (K : Keep D (fun a n => a = a₀ ∧ n = n₀) g w O g' w' O') : Keep D (fun _ _ => False) g w O g' w' O' where
  base := K.base
  ok := K.ok
  heap := K.heap
  row := fun a n lo len s A c ha _ h => by
    by_cases hb : a = a₀ ∧ n = n₀
    · obtain ⟨rfl, rfl⟩ := hb; simp only [RowV, hO] at h
    · exact K.row a n lo len s A c ha hb h
  rel := fun a n i off v ha _ h => by
    by_cases hb : a = a₀ ∧ n = n₀
    · obtain ⟨rfl, rfl⟩ := hb; simp only [RelV, hO] at h
    · exact K.rel a n i off v ha hb h
  ptr := fun a n off v ha _ h => by
    by_cases hb : a = a₀ ∧ n = n₀
    · obtain ⟨rfl, rfl⟩ := hb; simp only [PtrV, hO] at h
    · exact K.ptr a n off v ha hb h
theorem Rel.newU (h : Rel g σ tmps rts w) {l n cap : Nat} {o : Ob} {cells : Array Value} {elem : TypeId} (hl : l ≤ σ.up.length) (hn : σ.obj l n = none) (hw : w'.heap = w.heap.push (.cells cells elem (0, 0)))
    (hob : ∀ g' O', g' = g.new w.heap.size (σ.up.length - l) n cap → O' = (σ.setObj l n (some o)).O → Keep (σ.up.length + 1) (fun _ _ => False) g w σ.O g' w' O' → ObR g' w' O' (σ.up.length - l) n o) :
    Rel (g.new w.heap.size (σ.up.length - l) n cap) (σ.setObj l n (some o)) tmps rts w' ∧ Keep (σ.up.length + 1) (fun _ _ => False) g w σ.O (g.new w.heap.size (σ.up.length - l) n cap) w' (σ.setObj l n (some o)).O := by
  have hO : ∀ a m, (σ.setObj l n (some o)).O a m = if a = σ.up.length - l ∧ m = n then some o else σ.O a m := fun a m => by
    have := St.O_setObj σ l n (some o) hl a m
    simpa using this
  have hnone : σ.O (σ.up.length - l) n = none := by
    have := St.O_obj σ l n hl
    simpa using this.trans hn
  have hsz : w'.heap.size = w.heap.size + 1 := by rw [hw]; simp
  have G : Grow (fun a m => a = σ.up.length - l ∧ m = n) g w σ.O (g.new w.heap.size (σ.up.length - l) n cap) w' (σ.setObj l n (some o)).O := by
    refine ⟨rfl, fun _ h => h, fun b hb => push_old hw ?_, fun b a m _ hb => ?_, fun a m hb => ?_, fun a m hb => ?_⟩
    · rcases hb with hb | hb | hb
      · exact h.okb b hb
      · exact Nat.lt_of_lt_of_le hb h.base
      · cases hx : g.own b with
        | none => exact absurd hx hb
        | some x => exact (h.own b x.1 x.2 hx).1
    · simp only [Gh.new]
      rw [if_neg (by have := (h.own b a m hb).1; omega)]
      exact hb
    · simp only [Gh.new]; rw [if_neg hb]
    · rw [hO, if_neg hb]
  have K : Keep (σ.up.length + 1) (fun _ _ => False) g w σ.O (g.new w.heap.size (σ.up.length - l) n cap) w' (σ.setObj l n (some o)).O := Keep.absent hnone G.keep
  refine ⟨⟨fun i => ?_, fun a m o' ha ho => ?_, fun r hr => ?_, fun b a m hb => ?_, fun b hb => ?_, ?_⟩, K⟩
  · rw [St.up_setObj σ l n (some o) hl, St.get_setObj]
    exact VR.keep' K (Nat.le_refl _) (h.sl i)
  · rw [St.up_setObj σ l n (some o) hl] at ha
    by_cases hb : a = σ.up.length - l ∧ m = n
    · obtain ⟨rfl, rfl⟩ := hb
      rw [hO, if_pos ⟨rfl, rfl⟩] at ho
      cases ho
      exact hob _ _ rfl rfl K
    · rw [hO, if_neg hb] at ho
      have hold := h.ob a m o' ha ho
      have hl : (g.new w.heap.size (σ.up.length - l) n cap).loc a m = g.loc a m := G.loc a m hb
      cases o' with
      | box cs =>
        obtain ⟨h1, vs, rest, el, h2, h3, h4⟩ := hold
        exact ⟨by rw [hl]; exact G.own _ _ _ hb h1, vs, rest, el, by rw [hl, G.heap _ (.inr (.inr (by rw [h1]; simp)))]; exact h2, VRs.keep' K (by omega) h3, h4.1, by rw [hl]; exact h4.2⟩
      | rw s es gr =>
        rcases hold with hold | ⟨h1, h2, cs, el, h3, h4, h5⟩
        · exact .inl (by rw [hl]; exact hold)
        · refine .inr ⟨by rw [hl]; exact G.own _ _ _ hb h1, by rw [hl]; exact h2, cs, el, by rw [hl, G.heap _ (.inr (.inr (by rw [h1]; simp)))]; exact h3, by rw [hl]; exact h4, ?_⟩
          rw [hl]
          exact DenR.mono (fun b hb => K.heap b (.inl hb)) K.ok _ _ (G.heap _ (.inr (.inr (by rw [h1]; simp)))) _ _ h5
      | fz s es => trivial
      | gone => trivial
  · rw [St.up_setObj σ l n (some o) hl]
    exact ⟨(h.rt r hr).1, VR.keep' K (by have := (h.rt r hr).1; omega) (h.rt r hr).2⟩
  · rw [St.up_setObj σ l n (some o) hl, hsz]
    simp only [Gh.new] at hb ⊢
    by_cases hbb : b = w.heap.size
    · subst hbb
      simp only [if_true, Option.some.injEq, Prod.mk.injEq] at hb
      exact ⟨by omega, fun hk => by have := h.okb _ hk; omega, h.base, by omega⟩
    · rw [if_neg hbb] at hb
      have := h.own b a m hb
      exact ⟨by omega, this.2⟩
  · rw [hsz]; have := h.okb b hb; omega
  · rw [hsz]; have := h.base; show g.base ≤ _; omega
theorem Rel.new (h : Rel g σ tmps rts w) {n cap : Nat} {o : Ob} {cells : Array Value} {elem : TypeId} (hn : σ.obj 0 n = none) (hw : w'.heap = w.heap.push (.cells cells elem (0, 0)))
    (hob : ∀ g' O', g' = g.new w.heap.size σ.up.length n cap → O' = (σ.setObj 0 n (some o)).O → Keep (σ.up.length + 1) (fun _ _ => False) g w σ.O g' w' O' → ObR g' w' O' σ.up.length n o) :
    Rel (g.new w.heap.size σ.up.length n cap) (σ.setObj 0 n (some o)) tmps rts w' ∧ Keep (σ.up.length + 1) (fun _ _ => False) g w σ.O (g.new w.heap.size σ.up.length n cap) w' (σ.setObj 0 n (some o)).O :=
  Rel.newU (l := 0) h (Nat.zero_le _) hn hw hob
theorem Adv.newU {a n cap : Nat} {o : Obj} (hw : w'.heap = w.heap.push o) (ho : w'.os = w.os) (ht : w'.tape = w.tape) (hp : w'.output = w.output) :
    Adv g w (g.new w.heap.size a n cap) w' where
  base := rfl
  ok := fun _ h => h
  okNew := fun _ h => .inl h
  ownNew := fun b hb => by
    simp only [Gh.new] at hb
    by_cases hbb : b = w.heap.size
    · exact .inr (by omega)
    · rw [if_neg hbb] at hb; exact .inl hb
  heap := fun b hb _ => push_old hw hb
  size := by rw [hw]; simp
  os := ho
  tape := ht
  output := hp
theorem Adv.new {n cap : Nat} {o : Obj} (hw : w'.heap = w.heap.push o) (ho : w'.os = w.os) (ht : w'.tape = w.tape) (hp : w'.output = w.output) :
    Adv g w (g.new w.heap.size σ.up.length n cap) w' := Adv.newU hw ho ht hp
end
end Go.Proofs.YtcgjebaomhfbdaaGreat.Vm

/- The relation under writes: boxes, rows, freezing, forgetting. -/
namespace Go.Proofs.YtcgjebaomhfbdaaGreat.Vm
open Go
section
variable {g g' : Gh} {σ : St} {tmps : Array Value} {rts : Roots} {w w' : World}
/-- All parts of the relation but for one object, carried over. -/
theorem Rel.over {σ' : St} {a₀ n₀ : Nat} (h : Rel g σ tmps rts w) (hup : σ'.up.length = σ.up.length) (hget : ∀ i, σ'.get i = σ.get i)
    (K : Keep (σ.up.length + 1) (fun _ _ => False) g w σ.O g' w' σ'.O) (hO : ∀ a m, ¬ (a = a₀ ∧ m = n₀) → σ'.O a m = σ.O a m)
    (hl : ∀ a m, ¬ (a = a₀ ∧ m = n₀) → g'.loc a m = g.loc a m) (hown : ∀ b a m, ¬ (a = a₀ ∧ m = n₀) → g.own b = some (a, m) → g'.own b = some (a, m) ∧ w'.heap[b]? = w.heap[b]?)
    (hob : ∀ o, σ'.O a₀ n₀ = some o → ObR g' w' σ'.O a₀ n₀ o)
    (ho : ∀ b a n, g'.own b = some (a, n) → b < w'.heap.size ∧ ¬ g'.ok b ∧ g'.base ≤ b ∧ a < σ.up.length + 1) (hk : ∀ b, g'.ok b → b < w'.heap.size) (hb : g'.base ≤ w'.heap.size) :
    Rel g' σ' tmps rts w' where
  sl := fun i => by rw [hup, hget]; exact VR.keep' K (Nat.le_refl _) (h.sl i)
  ob := fun a m o ha hoo => by
    by_cases hbb : a = a₀ ∧ m = n₀
    · obtain ⟨rfl, rfl⟩ := hbb; exact hob o hoo
    · rw [hO a m hbb] at hoo
      rw [hup] at ha
      have hold := h.ob a m o ha hoo
      have hl' := hl a m hbb
      cases o with
      | box cs =>
        obtain ⟨h1, vs, rest, el, h2, h3, h4⟩ := hold
        have := hown _ a m hbb h1
        exact ⟨by rw [hl']; exact this.1, vs, rest, el, by rw [hl', this.2]; exact h2, VRs.keep' K (by omega) h3, h4.1, by rw [hl']; exact h4.2⟩
      | rw s es gr =>
        rcases hold with hold | ⟨h1, h2, cs, el, h3, h4, h5⟩
        · exact .inl (by rw [hl']; exact hold)
        · have := hown _ a m hbb h1
          refine .inr ⟨by rw [hl']; exact this.1, by rw [hl']; exact h2, cs, el, by rw [hl', this.2]; exact h3, by rw [hl']; exact h4, ?_⟩
          rw [hl']
          exact DenR.mono (fun b hb => K.heap b (.inl hb)) K.ok _ _ this.2 _ _ h5
      | fz s es => trivial
      | gone => trivial
  rt := fun r hr => by rw [hup]; exact ⟨(h.rt r hr).1, VR.keep' K (by have := (h.rt r hr).1; omega) (h.rt r hr).2⟩
  own := by rw [hup]; exact ho
  okb := hk
  base := hb
/-- A box is written: the block of (a₀, n₀) holds what 'vs' lists. -/
theorem Rel.box {l n : Nat} {cs cs' : List V} {vs rest : List Value} {elem : TypeId} (h : Rel g σ tmps rts w) (hl : l ≤ σ.up.length) (hO : σ.obj l n = some (.box cs))
    (hsz : w'.heap.size = w.heap.size) (hother : ∀ c, c ≠ (g.loc (σ.up.length - l) n).1 → w'.heap[c]? = w.heap[c]?)
    (hblk : w'.heap[(g.loc (σ.up.length - l) n).1]? = some (.cells (vs ++ rest).toArray elem (0, 0))) (hvs : VRs g w σ.O (σ.up.length - l + 1) cs' vs) (h1 : ∀ x ∈ vs ++ rest, x.oneCell' = true) (hroom : (g.loc (σ.up.length - l) n).2.2 ≤ vs.length + rest.length) (hlen : cs.length ≤ cs'.length) :
    Rel g (σ.setObj l n (some (.box cs'))) tmps rts w' := by
  have hO' : σ.O (σ.up.length - l) n = some (.box cs) := (St.O_obj σ l n hl).trans hO
  have hset := St.O_setObj σ l n (some (.box cs')) hl
  obtain ⟨hown, _⟩ := h.ob _ n _ (by omega) hO'
  have hnok : ¬ g.ok (g.loc (σ.up.length - l) n).1 := (h.own _ _ _ hown).2.1
  have hbase : g.base ≤ (g.loc (σ.up.length - l) n).1 := (h.own _ _ _ hown).2.2.1
  have hheap : ∀ b, g.ok b ∨ b < g.base → w'.heap[b]? = w.heap[b]? := fun b hb => hother b (by
    rintro rfl; rcases hb with hb | hb
    · exact hnok hb
    · omega)
  have hs : ∀ b, g.ok b → w'.heap[b]? = w.heap[b]? := fun b hb => hheap b (.inl hb)
  have hne : ∀ b a m, g.own b = some (a, m) → ¬ (a = σ.up.length - l ∧ m = n) → w'.heap[b]? = w.heap[b]? := fun b a m hb hx => hother b (by
    rintro rfl; rw [hown] at hb; cases hb; exact hx ⟨rfl, rfl⟩)
  have K : Keep (σ.up.length + 1) (fun _ _ => False) g w σ.O g w' (σ.setObj l n (some (.box cs'))).O := by
    refine ⟨rfl, fun _ h => h, hheap, fun a m lo len s A c ha _ hv => ?_, fun a m i off v ha _ hv => ?_, fun a m off v ha _ hv => ?_⟩
    · by_cases hx : a = σ.up.length - l ∧ m = n
      · obtain ⟨rfl, rfl⟩ := hx; simp only [RowV, hO'] at hv; simp only [RowV, hset, and_self, if_true]; exact ⟨hv.1, hv.2.1, by omega, hv.2.2.2⟩
      · unfold RowV at hv ⊢
        rw [hset, if_neg hx]
        split at hv
        · obtain ⟨h1, h2, h3, h4⟩ := hv
          exact ⟨h1, h2, h3, h4.imp id fun ⟨b, o, hA, ho, hd, hy⟩ => ⟨b, o, hA, ho, DenR.mono hs (fun _ h => h) b s (hne b a m ho hx) o _ hd, hy⟩⟩
        · obtain ⟨h1, h2, h3, h4⟩ := hv
          exact ⟨h1, h2, h3, h4.imp id fun ⟨b, o, hA, ho, hd⟩ => ⟨b, o, hA, ho, DenR.mono hs (fun _ h => h) b s (hs b ho) o _ hd⟩⟩
        · exact hv
        · exact hv
        · exact hv
    · by_cases hx : a = σ.up.length - l ∧ m = n
      · obtain ⟨rfl, rfl⟩ := hx; simp only [RelV, hO'] at hv
      · unfold RelV at hv ⊢
        rw [hset, if_neg hx]
        split at hv
        · obtain ⟨b, o, e, us, hv, ho, he, hll, hc, hd, hg⟩ := hv
          exact ⟨b, o, e, us, hv, ho, he, hll, fun j hj => (cell_of_heap (w := w) (w' := w') (hne b a m ho hx)).trans (hc j hj), DenC.mono hs (fun _ h => h) _ _ hd, hg⟩
        · obtain ⟨b, o, e, us, hv, ho, he, hll, hc, hd⟩ := hv
          exact ⟨b, o, e, us, hv, ho, he, hll, fun j hj => (cell_of_heap (w := w) (w' := w') (hs b ho)).trans (hc j hj), DenC.mono hs (fun _ h => h) _ _ hd⟩
        · exact hv
        · exact hv
    · by_cases hx : a = σ.up.length - l ∧ m = n
      · obtain ⟨rfl, rfl⟩ := hx; exact PtrV.of (by rw [hset, if_pos ⟨rfl, rfl⟩]) (hv.box hO')
      · unfold PtrV at hv ⊢; rw [hset, if_neg hx]; exact hv
  refine Rel.over (a₀ := σ.up.length - l) (n₀ := n) h (St.up_setObj σ l n _ hl) (fun i => St.get_setObj _ _ _ _ _) K (fun a m hx => by rw [hset, if_neg hx]) (fun _ _ _ => rfl)
    (fun b a m hx hb => ⟨hb, hne b a m hb hx⟩) (fun o ho => ?_) (fun b a m hb => by rw [hsz]; exact h.own b a m hb) (fun b hb => by rw [hsz]; exact h.okb b hb) (by rw [hsz]; exact h.base)
  rw [hset, if_pos ⟨rfl, rfl⟩] at ho
  cases ho
  exact ⟨hown, vs, rest, elem, hblk, VRs.keep' K (by omega) hvs, h1, hroom⟩
/-- A row is written in place, or grows in place. -/
theorem Rel.row {l n s : Nat} {es es' : List T} {gr gr' : Bool} {cells : Array Value} {elem : TypeId} (h : Rel g σ tmps rts w) (hl : l ≤ σ.up.length) (hO : σ.obj l n = some (.rw s es gr))
    (hown : g.own (g.loc (σ.up.length - l) n).1 = some (σ.up.length - l, n))
    (hsz : w'.heap.size = w.heap.size) (hother : ∀ c, c ≠ (g.loc (σ.up.length - l) n).1 → w'.heap[c]? = w.heap[c]?)
    (hblk : w'.heap[(g.loc (σ.up.length - l) n).1]? = some (.cells cells elem (0, 0))) (hroom : (g.loc (σ.up.length - l) n).2.1 + (g.loc (σ.up.length - l) n).2.2 * s ≤ cells.size)
    (hcap : es'.length ≤ (g.loc (σ.up.length - l) n).2.2) (hlen : es.length ≤ es'.length) (hgr : gr = true → gr' = true ∧ ∃ ys, es' = es ++ ys)
    (hden : DenR w' g.ok (g.loc (σ.up.length - l) n).1 s (g.loc (σ.up.length - l) n).2.1 es') :
    Rel g (σ.setObj l n (some (.rw s es' gr'))) tmps rts w' := by
  have hO' : σ.O (σ.up.length - l) n = some (.rw s es gr) := (St.O_obj σ l n hl).trans hO
  have hset := St.O_setObj σ l n (some (.rw s es' gr')) hl
  have hnok : ¬ g.ok (g.loc (σ.up.length - l) n).1 := (h.own _ _ _ hown).2.1
  have hbase : g.base ≤ (g.loc (σ.up.length - l) n).1 := (h.own _ _ _ hown).2.2.1
  have hheap : ∀ b, g.ok b ∨ b < g.base → w'.heap[b]? = w.heap[b]? := fun b hb => hother b (by
    rintro rfl; rcases hb with hb | hb
    · exact hnok hb
    · omega)
  have hs : ∀ b, g.ok b → w'.heap[b]? = w.heap[b]? := fun b hb => hheap b (.inl hb)
  have hne : ∀ b a m, g.own b = some (a, m) → ¬ (a = σ.up.length - l ∧ m = n) → w'.heap[b]? = w.heap[b]? := fun b a m hb hx => hother b (by
    rintro rfl; rw [hown] at hb; cases hb; exact hx ⟨rfl, rfl⟩)
  have K : Keep (σ.up.length + 1) (fun _ _ => False) g w σ.O g w' (σ.setObj l n (some (.rw s es' gr'))).O := by
    refine ⟨rfl, fun _ h => h, hheap, fun a m lo len s' A c ha _ hv => ?_, fun a m i off v ha _ hv => ?_, fun a m off v ha _ hv => ?_⟩
    · by_cases hx : a = σ.up.length - l ∧ m = n
      · obtain ⟨rfl, rfl⟩ := hx
        simp only [RowV, hO'] at hv
        simp only [RowV, hset, and_self, if_true]
        obtain ⟨rfl, h2, h3, h4⟩ := hv
        refine ⟨rfl, by omega, h3, h4.imp id fun ⟨b, o, hA, ho, hd, hy⟩ => ⟨b, o, hA, ho, ?_, ?_⟩⟩
        · rcases hy with ⟨rfl, rfl, _⟩ | ⟨hg, _, hb⟩
          · exact hden.slice
          · obtain ⟨_, ys, rfl⟩ := hgr hg
            have : slice lo len (es ++ ys) = slice lo len es := by
              simp only [slice]
              rw [List.drop_append_of_le_length (by omega), List.take_append_of_le_length (by simp; omega)]
            rw [this]
            exact DenR.mono hs (fun _ h => h) b _ (hother b hb) o _ hd
        · rcases hy with hy | ⟨hg, hlt, hb⟩
          · exact .inl hy
          · exact .inr ⟨(hgr hg).1, by omega, hb⟩
      · unfold RowV at hv ⊢
        rw [hset, if_neg hx]
        split at hv
        · obtain ⟨h1, h2, h3, h4⟩ := hv
          exact ⟨h1, h2, h3, h4.imp id fun ⟨b, o, hA, ho, hd, hy⟩ => ⟨b, o, hA, ho, DenR.mono hs (fun _ h => h) b s' (hne b a m ho hx) o _ hd, hy⟩⟩
        · obtain ⟨h1, h2, h3, h4⟩ := hv
          exact ⟨h1, h2, h3, h4.imp id fun ⟨b, o, hA, ho, hd⟩ => ⟨b, o, hA, ho, DenR.mono hs (fun _ h => h) b s' (hs b ho) o _ hd⟩⟩
        · exact hv
        · exact hv
        · exact hv
    · by_cases hx : a = σ.up.length - l ∧ m = n
      · obtain ⟨rfl, rfl⟩ := hx
        simp only [RelV, hO'] at hv
        simp only [RelV, hset, and_self, if_true]
        obtain ⟨b, o, e, us, hv, ho, he, hll, hc, hd, hg1, hg2⟩ := hv
        by_cases hb : b = (g.loc (σ.up.length - l) m).1
        · subst hb
          have hi : i < es.length := by
            rcases Nat.lt_or_ge i es.length with hi | hi
            · exact hi
            · rw [List.getElem?_eq_none hi] at he; cases he
          obtain ⟨us', hl', hc', hd'⟩ := DenR.get es' _ i (es'[i]) hden (List.getElem?_eq_getElem (by omega))
          refine ⟨_, o, es'[i], us', hv, ho, List.getElem?_eq_getElem (by omega), hl', fun j hj => ?_, hd', fun _ => rfl, fun _ => hg2 rfl⟩
          rw [hg2 rfl]; exact hc' j hj
        · have hgt : gr = true := by
            cases gr with
            | true => rfl
            | false => exact absurd (hg1 rfl) hb
          obtain ⟨hg', ys, rfl⟩ := hgr hgt
          have he' : (es ++ ys)[i]? = some e := by
            rw [List.getElem?_append_left (by
              rcases Nat.lt_or_ge i es.length with hi | hi
              · exact hi
              · rw [List.getElem?_eq_none hi] at he; cases he)]
            exact he
          exact ⟨b, o, e, us, hv, ho, he', hll, fun j hj => (cell_of_heap (w := w) (w' := w') (hother b hb)).trans (hc j hj), DenC.mono hs (fun _ h => h) _ _ hd,
            fun hf => (by rw [hg'] at hf; cases hf), fun hbb => absurd hbb hb⟩
      · unfold RelV at hv ⊢
        rw [hset, if_neg hx]
        split at hv
        · obtain ⟨b, o, e, us, hv, ho, he, hll, hc, hd, hg⟩ := hv
          exact ⟨b, o, e, us, hv, ho, he, hll, fun j hj => (cell_of_heap (w := w) (w' := w') (hne b a m ho hx)).trans (hc j hj), DenC.mono hs (fun _ h => h) _ _ hd, hg⟩
        · obtain ⟨b, o, e, us, hv, ho, he, hll, hc, hd⟩ := hv
          exact ⟨b, o, e, us, hv, ho, he, hll, fun j hj => (cell_of_heap (w := w) (w' := w') (hs b ho)).trans (hc j hj), DenC.mono hs (fun _ h => h) _ _ hd⟩
        · exact hv
        · exact hv
    · by_cases hx : a = σ.up.length - l ∧ m = n
      · obtain ⟨rfl, rfl⟩ := hx; simp only [PtrV, hO'] at hv
      · unfold PtrV at hv ⊢; rw [hset, if_neg hx]; exact hv
  refine Rel.over (a₀ := σ.up.length - l) (n₀ := n) h (St.up_setObj σ l n _ hl) (fun i => St.get_setObj _ _ _ _ _) K (fun a m hx => by rw [hset, if_neg hx]) (fun _ _ _ => rfl)
    (fun b a m hx hb => ⟨hb, hne b a m hb hx⟩) (fun o ho => ?_) (fun b a m hb => by rw [hsz]; exact h.own b a m hb) (fun b hb => by rw [hsz]; exact h.okb b hb) (by rw [hsz]; exact h.base)
  rw [hset, if_pos ⟨rfl, rfl⟩] at ho
  cases ho
  exact .inr ⟨hown, hcap, cells, elem, hblk, hroom, hden⟩
theorem Adv.own {b a n : Nat} (hown : g.own b = some (a, n)) (hsz : w'.heap.size = w.heap.size) (hother : ∀ c, c ≠ b → w'.heap[c]? = w.heap[c]?)
    (ho : w'.os = w.os) (ht : w'.tape = w.tape) (hp : w'.output = w.output) : Adv g w g w' where
  base := rfl
  ok := fun _ h => h
  okNew := fun _ h => .inl h
  ownNew := fun _ h => .inl h
  heap := fun c _ hc => hother c (by rintro rfl; rw [hown] at hc; cases hc)
  size := by rw [hsz]; exact Nat.le_refl _
  os := ho
  tape := ht
  output := hp
end
end Go.Proofs.YtcgjebaomhfbdaaGreat.Vm

/- The relation: rows that move, freezing, forgetting. -/
namespace Go.Proofs.YtcgjebaomhfbdaaGreat.Vm
open Go
section
variable {g g' : Gh} {σ : St} {tmps : Array Value} {rts : Roots} {w w' : World}
/-- A row grows into a new block. -/
theorem Rel.move {l n s cap : Nat} {es ys : List T} {gr : Bool} {cells : Array Value} {elem : TypeId} (h : Rel g σ tmps rts w) (hl : l ≤ σ.up.length) (hO : σ.obj l n = some (.rw s es gr))
    (hys : ys ≠ []) (hw : w'.heap = w.heap.push (.cells cells elem (0, 0))) (hcap : es.length + ys.length ≤ cap) (hroom : cap * s ≤ cells.size)
    (hden : DenR w' g.ok w.heap.size s 0 (es ++ ys)) :
    Rel (g.new w.heap.size (σ.up.length - l) n cap) (σ.setObj l n (some (.rw s (es ++ ys) true))) tmps rts w' := by
  have hO' : σ.O (σ.up.length - l) n = some (.rw s es gr) := (St.O_obj σ l n hl).trans hO
  have hset := St.O_setObj σ l n (some (.rw s (es ++ ys) true)) hl
  have hsz : w'.heap.size = w.heap.size + 1 := by rw [hw]; simp
  have hpos : 0 < ys.length := by cases ys with
    | nil => exact absurd rfl hys
    | cons => simp
  have hold : ∀ b, b < w.heap.size → w'.heap[b]? = w.heap[b]? := fun b hb => push_old hw hb
  have hlt : ∀ b x, g.own b = some x → b < w.heap.size := fun b x hb => (h.own b x.1 x.2 hb).1
  have hs : ∀ b, g.ok b → w'.heap[b]? = w.heap[b]? := fun b hb => hold b (h.okb b hb)
  have hown' : ∀ b x, g.own b = some x → (g.new w.heap.size (σ.up.length - l) n cap).own b = some x := fun b x hb => by
    simp only [Gh.new]; rw [if_neg (by have := hlt b x hb; omega)]; exact hb
  have hloc : ∀ a m, ¬ (a = σ.up.length - l ∧ m = n) → (g.new w.heap.size (σ.up.length - l) n cap).loc a m = g.loc a m := fun a m hx => by
    simp only [Gh.new]; rw [if_neg hx]
  have hloc' : (g.new w.heap.size (σ.up.length - l) n cap).loc (σ.up.length - l) n = (w.heap.size, 0, cap) := by simp [Gh.new]
  have K : Keep (σ.up.length + 1) (fun _ _ => False) g w σ.O (g.new w.heap.size (σ.up.length - l) n cap) w' (σ.setObj l n (some (.rw s (es ++ ys) true))).O := by
    refine ⟨rfl, fun _ h => h, fun b hb => hold b ?_, fun a m lo len s' A c ha _ hv => ?_, fun a m i off v ha _ hv => ?_, fun a m off v ha _ hv => ?_⟩
    · rcases hb with hb | hb
      · exact h.okb b hb
      · exact Nat.lt_of_lt_of_le hb h.base
    · by_cases hx : a = σ.up.length - l ∧ m = n
      · obtain ⟨rfl, rfl⟩ := hx
        simp only [RowV, hO'] at hv
        simp only [RowV, hset, and_self, if_true]
        obtain ⟨rfl, h2, h3, h4⟩ := hv
        refine ⟨(by first | rfl | trivial), by simp; omega, h3, h4.imp id fun ⟨b, o, hA, ho, hd, hy⟩ => ⟨b, o, hA, hown' b _ ho, ?_, .inr ⟨(by first | rfl | trivial), by simp; omega, ?_⟩⟩⟩
        · have : slice lo len (es ++ ys) = slice lo len es := by
            simp only [slice]
            rw [List.drop_append_of_le_length (by omega), List.take_append_of_le_length (by simp; omega)]
          rw [this]
          exact DenR.mono hs (fun _ h => h) b _ (hold b (hlt b _ ho)) o _ hd
        · rw [hloc']; have := hlt b _ ho; simp; omega
      · unfold RowV at hv ⊢
        rw [hset, if_neg hx, hloc a m hx]
        split at hv
        · obtain ⟨h1, h2, h3, h4⟩ := hv
          exact ⟨h1, h2, h3, h4.imp id fun ⟨b, o, hA, ho, hd, hy⟩ => ⟨b, o, hA, hown' b _ ho, DenR.mono hs (fun _ h => h) b s' (hold b (hlt b _ ho)) o _ hd, hy⟩⟩
        · obtain ⟨h1, h2, h3, h4⟩ := hv
          exact ⟨h1, h2, h3, h4.imp id fun ⟨b, o, hA, ho, hd⟩ => ⟨b, o, hA, ho, DenR.mono hs (fun _ h => h) b s' (hs b ho) o _ hd⟩⟩
        · exact hv
        · exact hv
        · exact hv
    · by_cases hx : a = σ.up.length - l ∧ m = n
      · obtain ⟨rfl, rfl⟩ := hx
        simp only [RelV, hO'] at hv
        simp only [RelV, hset, and_self, if_true]
        obtain ⟨b, o, e, us, hv, ho, he, hll, hc, hd, hg1, hg2⟩ := hv
        have hi : i < es.length := by
          rcases Nat.lt_or_ge i es.length with hi | hi
          · exact hi
          · rw [List.getElem?_eq_none hi] at he; cases he
        refine ⟨b, o, e, us, hv, hown' b _ ho, by rw [List.getElem?_append_left hi]; exact he, hll, fun j hj => (cell_of_heap (w := w) (w' := w') (hold b (hlt b _ ho))).trans (hc j hj),
          DenC.mono hs (fun _ h => h) _ _ hd, (fun hf => by cases hf), fun hb => ?_⟩
        rw [hloc'] at hb
        have := hlt b _ ho
        simp at hb; omega
      · unfold RelV at hv ⊢
        rw [hset, if_neg hx, hloc a m hx]
        split at hv
        · obtain ⟨b, o, e, us, hv, ho, he, hll, hc, hd, hg⟩ := hv
          exact ⟨b, o, e, us, hv, hown' b _ ho, he, hll, fun j hj => (cell_of_heap (w := w) (w' := w') (hold b (hlt b _ ho))).trans (hc j hj), DenC.mono hs (fun _ h => h) _ _ hd, hg⟩
        · obtain ⟨b, o, e, us, hv, ho, he, hll, hc, hd⟩ := hv
          exact ⟨b, o, e, us, hv, ho, he, hll, fun j hj => (cell_of_heap (w := w) (w' := w') (hs b ho)).trans (hc j hj), DenC.mono hs (fun _ h => h) _ _ hd⟩
        · exact hv
        · exact hv
    · by_cases hx : a = σ.up.length - l ∧ m = n
      · obtain ⟨rfl, rfl⟩ := hx; simp only [PtrV, hO'] at hv
      · unfold PtrV at hv ⊢
        rw [hset, if_neg hx, hloc a m hx]
        exact hv
  refine Rel.over (a₀ := σ.up.length - l) (n₀ := n) h (St.up_setObj σ l n _ hl) (fun i => St.get_setObj _ _ _ _ _) K (fun a m hx => by rw [hset, if_neg hx]) hloc
    (fun b a m hx hb => ⟨hown' b _ hb, hold b (hlt b _ hb)⟩) (fun o ho => ?_) (fun b a m hb => ?_) (fun b hb => ?_) ?_
  · rw [hset, if_pos ⟨rfl, rfl⟩] at ho
    cases ho
    refine .inr ⟨by rw [hloc']; simp [Gh.new], by rw [hloc']; simpa using hcap, cells, elem, by rw [hloc']; exact push_new hw, by rw [hloc']; simpa using hroom, ?_⟩
    rw [hloc']; exact hden
  · rw [hsz]
    simp only [Gh.new] at hb ⊢
    by_cases hbb : b = w.heap.size
    · subst hbb
      simp only [if_true, Option.some.injEq, Prod.mk.injEq] at hb
      exact ⟨by omega, fun hk => by have := h.okb _ hk; omega, h.base, by omega⟩
    · rw [if_neg hbb] at hb
      have := h.own b a m hb
      exact ⟨by omega, this.2⟩
  · rw [hsz]; have := h.okb b hb; omega
  · rw [hsz]; have := h.base; show g.base ≤ _; omega
theorem Adv.move {a n cap : Nat} {o : Obj} (hw : w'.heap = w.heap.push o) (ho : w'.os = w.os) (ht : w'.tape = w.tape) (hp : w'.output = w.output) : Adv g w (g.new w.heap.size a n cap) w' where
  base := rfl
  ok := fun _ h => h
  okNew := fun _ h => .inl h
  ownNew := fun b hb => by
    simp only [Gh.new] at hb
    by_cases hbb : b = w.heap.size
    · exact .inr (by omega)
    · rw [if_neg hbb] at hb; exact .inl hb
  heap := fun b hb _ => push_old hw hb
  size := by rw [hw]; simp
  os := ho
  tape := ht
  output := hp

/-! A row becomes data for good. -/
def Gh.frz (g : Gh) (a n : Nat) : Gh :=
  { g with ok := fun b => g.ok b ∨ g.own b = some (a, n), own := fun b => if g.own b = some (a, n) then none else g.own b }
theorem Adv.frz (a n : Nat) : Adv g w (g.frz a n) w where
  base := rfl
  ok := fun _ h => .inl h
  okNew := fun b hb => by
    rcases hb with hb | hb
    · exact .inl hb
    · exact .inr (.inr (by rw [hb]; simp))
  ownNew := fun b hb => by
    simp only [Gh.frz] at hb
    split at hb
    · exact absurd rfl hb
    · exact .inl hb
  heap := fun _ _ _ => rfl
  size := Nat.le_refl _
  os := rfl
  tape := rfl
  output := rfl
theorem Rel.frz {n s : Nat} {es : List T} {gr : Bool} (h : Rel g σ tmps rts w) (hO : σ.obj 0 n = some (.rw s es gr)) :
    Rel (g.frz σ.up.length n) (σ.setObj 0 n (some (.fz s es))) tmps rts w ∧
      Keep (σ.up.length + 1) (fun _ _ => False) g w σ.O (g.frz σ.up.length n) w (σ.setObj 0 n (some (.fz s es))).O := by
  have hO' : σ.O σ.up.length n = some (.rw s es gr) := by
    have := St.O_obj σ 0 n (Nat.zero_le _)
    simpa using this.trans hO
  have hset : ∀ a m, (σ.setObj 0 n (some (.fz s es))).O a m = if a = σ.up.length ∧ m = n then some (.fz s es) else σ.O a m := fun a m => by
    simpa using St.O_setObj σ 0 n (some (.fz s es)) (Nat.zero_le _) a m
  have hdm : ∀ b s o es, DenR w g.ok b s o es → DenR w (g.frz σ.up.length n).ok b s o es := fun b s o es h => DenR.mono (fun _ _ => rfl) (fun _ h => .inl h) b s rfl o es h
  have hdc : ∀ e us, DenC w g.ok e us → DenC w (g.frz σ.up.length n).ok e us := fun e us h => DenC.mono (fun _ _ => rfl) (fun _ h => .inl h) e us h
  have hother : ∀ b a m, ¬ (a = σ.up.length ∧ m = n) → g.own b = some (a, m) → (g.frz σ.up.length n).own b = some (a, m) := fun b a m hx hb => by
    simp only [Gh.frz]
    rw [if_neg (by rw [hb]; intro hh; cases hh; exact hx ⟨rfl, rfl⟩)]; exact hb
  have K : Keep (σ.up.length + 1) (fun _ _ => False) g w σ.O (g.frz σ.up.length n) w (σ.setObj 0 n (some (.fz s es))).O := by
    refine ⟨rfl, fun _ h => .inl h, fun _ _ => rfl, fun a m lo len s' A c ha _ hv => ?_, fun a m i off v ha _ hv => ?_, fun a m off v ha _ hv => ?_⟩
    · by_cases hx : a = σ.up.length ∧ m = n
      · obtain ⟨rfl, rfl⟩ := hx
        simp only [RowV, hO'] at hv
        simp only [RowV, hset, and_self, if_true]
        obtain ⟨rfl, h2, h3, h4⟩ := hv
        refine ⟨rfl, h2, h3, ?_⟩
        rcases h4 with h4 | ⟨b, o, hA, ho, hd, _⟩
        · exact .inl (by omega)
        · exact .inr ⟨b, o, hA, .inr ho, hdm _ _ _ _ hd⟩
      · unfold RowV at hv ⊢
        rw [hset, if_neg hx]
        split at hv
        · obtain ⟨h1, h2, h3, h4⟩ := hv
          exact ⟨h1, h2, h3, h4.imp id fun ⟨b, o, hA, ho, hd, hy⟩ => ⟨b, o, hA, hother b a m hx ho, hdm _ _ _ _ hd, hy⟩⟩
        · obtain ⟨h1, h2, h3, h4⟩ := hv
          exact ⟨h1, h2, h3, h4.imp id fun ⟨b, o, hA, ho, hd⟩ => ⟨b, o, hA, .inl ho, hdm _ _ _ _ hd⟩⟩
        · exact hv
        · exact hv
        · exact hv
    · by_cases hx : a = σ.up.length ∧ m = n
      · obtain ⟨rfl, rfl⟩ := hx
        simp only [RelV, hO'] at hv
        simp only [RelV, hset, and_self, if_true]
        obtain ⟨b, o, e, us, hv, ho, he, hll, hc, hd, _⟩ := hv
        exact ⟨b, o, e, us, hv, .inr ho, he, hll, hc, hdc _ _ hd⟩
      · unfold RelV at hv ⊢
        rw [hset, if_neg hx]
        split at hv
        · obtain ⟨b, o, e, us, hv, ho, he, hll, hc, hd, hg⟩ := hv
          exact ⟨b, o, e, us, hv, hother b a m hx ho, he, hll, hc, hdc _ _ hd, hg⟩
        · obtain ⟨b, o, e, us, hv, ho, he, hll, hc, hd⟩ := hv
          exact ⟨b, o, e, us, hv, .inl ho, he, hll, hc, hdc _ _ hd⟩
        · exact hv
        · exact hv
    · by_cases hx : a = σ.up.length ∧ m = n
      · obtain ⟨rfl, rfl⟩ := hx; simp only [PtrV, hO'] at hv
      · unfold PtrV at hv ⊢
        rw [hset, if_neg hx]
        exact hv
  refine ⟨Rel.over (a₀ := σ.up.length) (n₀ := n) h rfl (fun i => St.get_setObj _ _ _ _ _) K (fun a m hx => by rw [hset, if_neg hx]) (fun _ _ _ => rfl)
    (fun b a m hx hb => ⟨hother b a m hx hb, rfl⟩) (fun o ho => ?_) (fun b a m hb => ?_) (fun b hb => ?_) h.base, K⟩
  · rw [hset, if_pos ⟨rfl, rfl⟩] at ho
    cases ho
    trivial
  · simp only [Gh.frz] at hb ⊢
    split at hb
    · cases hb
    · rename_i hne
      have := h.own b a m hb
      exact ⟨this.1, fun hk => hk.elim this.2.1 hne, this.2.2⟩
  · rcases hb with hb | hb
    · exact h.okb b hb
    · exact (h.own b _ _ hb).1

/-! Forgetting. -/
mutual
theorem VR.kill {O : Obs} {D a b : Nat} : ∀ (v : V) (x : Value), VR g w O D v x → VR g w O D (V.kill a b v) x ∧ V.clean D (fun y n => y = D - 1 ∧ a ≤ n ∧ n < b) (V.kill a b v)
  | .row 0 n lo len s, x, h => by
    simp only [V.kill]
    split
    · exact ⟨trivial, trivial⟩
    · rename_i hn; exact ⟨h, fun _ hb => hn ⟨hb.2.1, hb.2.2⟩⟩
  | .row (l + 1) n lo len s, x, h => by
    simp only [V.kill]
    exact ⟨h, fun hl hb => by omega⟩
  | .ptr 0 n off, x, h => by
    simp only [V.kill]
    split
    · exact ⟨trivial, trivial⟩
    · rename_i hn; exact ⟨h, fun _ hb => hn ⟨hb.2.1, hb.2.2⟩⟩
  | .ptr (l + 1) n off, x, h => by
    simp only [V.kill]
    exact ⟨h, fun hl hb => by omega⟩
  | .rel 0 n i off, x, h => by
    simp only [V.kill]
    split
    · exact ⟨trivial, trivial⟩
    · rename_i hn; exact ⟨h, fun _ hb => hn ⟨hb.2.1, hb.2.2⟩⟩
  | .rel (l + 1) n i off, x, h => by
    simp only [V.kill]
    exact ⟨h, fun hl hb => by omega⟩
  | .ag cs, x, h => by
    obtain ⟨vs, hv, h, h1⟩ := h
    simp only [V.kill]
    exact ⟨⟨vs, hv, (VRs.kill cs vs h).1, h1⟩, (VRs.kill cs vs h).2⟩
  | .tp cs, x, h => by
    obtain ⟨vs, hv, h⟩ := h
    simp only [V.kill]
    exact ⟨⟨vs, hv, (VRs.kill cs vs h).1⟩, (VRs.kill cs vs h).2⟩
  | .cl f cs, x, h => by
    obtain ⟨vs, hv, h⟩ := h
    simp only [V.kill]
    exact ⟨⟨vs, hv, (VRs.kill cs vs h).1⟩, (VRs.kill cs vs h).2⟩
  | .d p t, x, h => by simp only [V.kill]; exact ⟨h, trivial⟩
  | .dx p t, x, h => by simp only [V.kill]; exact ⟨h, trivial⟩
  | .nil s, x, h => by simp only [V.kill]; exact ⟨h, trivial⟩
  | .pd t, x, h => by simp only [V.kill]; exact ⟨h, trivial⟩
  | .u, x, h => by simp only [V.kill]; exact ⟨h, trivial⟩
theorem VRs.kill {O : Obs} {D a b : Nat} : ∀ (vs : List V) (xs : List Value), VRs g w O D vs xs → VRs g w O D (V.kills a b vs) xs ∧ V.cleans D (fun y n => y = D - 1 ∧ a ≤ n ∧ n < b) (V.kills a b vs)
  | [], xs, h => ⟨h, trivial⟩
  | v :: vs, _, h => by
    obtain ⟨x, xs, rfl, h1, h2⟩ := h
    have k1 := VR.kill (a := a) (b := b) v x h1
    have k2 := VRs.kill (a := a) (b := b) vs xs h2
    exact ⟨⟨x, xs, rfl, k1.1, k2.1⟩, k1.2, k2.2⟩
end
mutual
theorem V.clean_up {D d a b : Nat} (hd : d ≤ D) : ∀ v : V, V.clean d (fun y n => y = D ∧ a ≤ n ∧ n < b) v
  | .row .. | .ptr .. | .rel .. => fun hl hb => by omega
  | .ag cs | .tp cs | .cl _ cs => V.cleans_up hd cs
  | .d .. | .dx .. | .nil .. | .pd .. | .u => trivial
theorem V.cleans_up {D d a b : Nat} (hd : d ≤ D) : ∀ vs : List V, V.cleans d (fun y n => y = D ∧ a ≤ n ∧ n < b) vs
  | [] => trivial
  | v :: vs => ⟨V.clean_up hd v, V.cleans_up hd vs⟩
end
theorem St.O_kill (σ : St) (a b y n : Nat) : (σ.kill a b).O y n = if y = σ.up.length then (if a ≤ n ∧ n < b then none else (σ.O y n).map (Ob.kill a b)) else σ.O y n := by
  show (if y < σ.up.length + 1 then (σ.kill a b).obj (σ.up.length - y) n else none) = _
  simp only [St.O]
  by_cases hy : y = σ.up.length
  · subst hy
    simp [St.obj_kill0]
  · rw [if_neg hy]
    obtain hk | ⟨k, hk⟩ : ¬ y < σ.up.length + 1 ∨ ∃ k, σ.up.length - y = k + 1 := by
      by_cases hlt : y < σ.up.length + 1
      · exact .inr ⟨σ.up.length - y - 1, by omega⟩
      · exact .inl hlt
    · simp [hk]
    · rw [hk]; simp only [St.obj_killS]
theorem V.kills_length (a b : Nat) : ∀ cs : List V, (V.kills a b cs).length = cs.length
  | [] => rfl
  | c :: cs => by simp only [V.kills, List.length_cons, V.kills_length a b cs]
theorem Rel.kill (a b : Nat) (h : Rel g σ tmps rts w) : Rel g (σ.kill a b) tmps rts w := by
  have hO := St.O_kill σ a b
  have K : Keep (σ.up.length + 1) (fun y n => y = σ.up.length ∧ a ≤ n ∧ n < b) g w σ.O g w (σ.kill a b).O := by
    have key : ∀ y n, ¬ (y = σ.up.length ∧ a ≤ n ∧ n < b) → (σ.kill a b).O y n = σ.O y n ∨ ∃ cs, σ.O y n = some (.box cs) ∧ (σ.kill a b).O y n = some (.box (V.kills a b cs)) := fun y n hx => by
      rw [hO]
      by_cases hy : y = σ.up.length
      · rw [if_pos hy, if_neg (fun hh => hx ⟨hy, hh.1, hh.2⟩)]
        cases ho : σ.O y n with
        | none => exact .inl rfl
        | some o =>
          cases o with
          | box cs => exact .inr ⟨cs, rfl, rfl⟩
          | rw s es gr => exact .inl rfl
          | fz s es => exact .inl rfl
          | gone => exact .inl rfl
      · rw [if_neg hy]; exact .inl rfl
    refine ⟨rfl, fun _ h => h, fun _ _ => rfl, fun y n lo len s A c _ hx hv => ?_, fun y n i off v _ hx hv => ?_, fun y n off v _ hx hv => ?_⟩
    · rcases key y n hx with hk | ⟨cs, hk, hk'⟩
      · unfold RowV at hv ⊢; rw [hk]; exact hv
      · simp only [RowV, hk] at hv; simp only [RowV, hk', V.kills_length]; exact hv
    · rcases key y n hx with hk | ⟨cs, hk, _⟩
      · unfold RelV at hv ⊢; rw [hk]; exact hv
      · simp only [RelV, hk] at hv
    · rcases key y n hx with hk | ⟨cs, hk, hk'⟩
      · unfold PtrV at hv ⊢; rw [hk]; exact hv
      · exact PtrV.of hk' (hv.box hk)
  refine ⟨fun i => ?_, fun y n o hy ho => ?_, fun r hr => ?_, h.own, h.okb, h.base⟩
  · rw [St.get_kill, St.up_kill]
    have := VR.kill (a := a) (b := b) _ _ (h.sl i)
    exact VR.keep K _ (Nat.le_refl _) _ _ this.2 this.1
  · rw [St.up_kill] at hy
    rw [hO] at ho
    by_cases hyy : y = σ.up.length
    · subst hyy
      rw [if_pos rfl] at ho
      by_cases hx : a ≤ n ∧ n < b
      · rw [if_pos hx] at ho; cases ho
      · rw [if_neg hx] at ho
        cases hoo : σ.O σ.up.length n with
        | none => rw [hoo] at ho; cases ho
        | some o' =>
          rw [hoo] at ho
          cases ho
          have hold := h.ob _ n o' hy hoo
          cases o' with
          | box cs =>
            obtain ⟨h1, vs, rest, el, h2, h3, h4⟩ := hold
            have := VRs.kill (a := a) (b := b) _ _ h3
            exact ⟨h1, vs, rest, el, h2, VRs.keep K _ (Nat.le_refl _) _ _ this.2 this.1, h4⟩
          | rw s es gr => exact hold
          | fz s es => trivial
          | gone => trivial
    · rw [if_neg hyy] at ho
      have hold := h.ob y n o hy ho
      cases o with
      | box cs =>
        obtain ⟨h1, vs, rest, el, h2, h3, h4⟩ := hold
        exact ⟨h1, vs, rest, el, h2, VRs.keep K _ (by omega) _ _ (V.cleans_up (by omega) cs) h3, h4⟩
      | rw s es gr => exact hold
      | fz s es => trivial
      | gone => trivial
  · rw [St.up_kill]
    have := h.rt r hr
    exact ⟨this.1, VR.keep K _ (by omega) _ _ (V.clean_up this.1 _) this.2⟩
end
end Go.Proofs.YtcgjebaomhfbdaaGreat.Vm

/- The relation and lists of values; operands; loads. -/
namespace Go.Proofs.YtcgjebaomhfbdaaGreat.Vm
open Go
section
variable {g : Gh} {w : World} {O : Obs} {D : Nat}
theorem VRs.length : ∀ (cs : List V) (vs : List Value), VRs g w O D cs vs → cs.length = vs.length
  | [], _, h => by simp [VRs] at h; simp [h]
  | c :: cs, _, h => by
    obtain ⟨v, vs, rfl, _, h⟩ := h
    simp [VRs.length cs vs h]
theorem VRs.get : ∀ (cs : List V) (vs : List Value) (i : Nat) (c : V), VRs g w O D cs vs → cs[i]? = some c → ∃ v, vs[i]? = some v ∧ VR g w O D c v
  | [], _, i, c, _, hc => by simp at hc
  | c :: cs, _, 0, c', h, hc => by
    obtain ⟨v, vs, rfl, h, _⟩ := h
    simp at hc; subst hc
    exact ⟨v, by simp, h⟩
  | c :: cs, _, i + 1, c', h, hc => by
    obtain ⟨v, vs, rfl, _, h⟩ := h
    simp at hc
    obtain ⟨x, hx, hr⟩ := VRs.get cs vs i c' h hc
    exact ⟨x, by simpa using hx, hr⟩
theorem VRs.take : ∀ (k : Nat) (cs : List V) (vs : List Value), VRs g w O D cs vs → VRs g w O D (cs.take k) (vs.take k)
  | 0, cs, vs, _ => by simp [VRs]
  | k + 1, [], vs, h => by simp only [VRs] at h; subst h; simp [VRs]
  | k + 1, c :: cs, _, h => by
    obtain ⟨v, vs, rfl, h1, h2⟩ := h
    exact ⟨v, vs.take k, by simp, h1, VRs.take k cs vs h2⟩
theorem VRs.drop : ∀ (k : Nat) (cs : List V) (vs : List Value), VRs g w O D cs vs → VRs g w O D (cs.drop k) (vs.drop k)
  | 0, cs, vs, h => by simpa using h
  | k + 1, [], vs, h => by simp only [VRs] at h; subst h; simp [VRs]
  | k + 1, c :: cs, _, h => by
    obtain ⟨v, vs, rfl, h1, h2⟩ := h
    simpa using VRs.drop k cs vs h2
theorem VRs.append : ∀ (cs ds : List V) (vs us : List Value), VRs g w O D cs vs → VRs g w O D ds us → VRs g w O D (cs ++ ds) (vs ++ us)
  | [], ds, vs, us, h, k => by simp only [VRs] at h; subst h; simpa using k
  | c :: cs, ds, _, us, h, k => by
    obtain ⟨v, vs, rfl, h1, h2⟩ := h
    exact ⟨v, vs ++ us, by simp, h1, VRs.append cs ds vs us h2 k⟩
theorem VRs.slice {o n : Nat} {cs : List V} {vs : List Value} (h : VRs g w O D cs vs) : VRs g w O D (Vm.slice o n cs) (Vm.slice o n vs) := VRs.take _ _ _ (VRs.drop _ _ _ h)
theorem VRs.put {o : Nat} {cs new : List V} {vs nv : List Value} (h : VRs g w O D cs vs) (k : VRs g w O D new nv) : VRs g w O D (Vm.put o new cs) (Vm.put o nv vs) := by
  unfold Vm.put
  rw [← VRs.length _ _ k]
  exact VRs.append _ _ _ _ (VRs.append _ _ _ _ (VRs.take _ _ _ h) k) (VRs.drop _ _ _ h)
theorem slice_length {α : Type} {o n : Nat} {l : List α} (h : o + n ≤ l.length) : (Vm.slice o n l).length = n := by
  simp [Vm.slice]; omega
theorem slice_get {α : Type} {o n j : Nat} {l : List α} (hj : j < n) : (Vm.slice o n l)[j]? = l[o + j]? := by
  simp [Vm.slice, List.getElem?_take_of_lt hj]
theorem put_length {α : Type} {o : Nat} {new l : List α} (h : o + new.length ≤ l.length) : (Vm.put o new l).length = l.length := by
  simp [Vm.put]; omega
theorem mem_slice {α : Type} {o n : Nat} {l : List α} {x : α} (h : x ∈ Vm.slice o n l) : x ∈ l := List.mem_of_mem_drop (List.mem_of_mem_take h)
theorem mem_put {α : Type} {o : Nat} {new l : List α} {x : α} (h : x ∈ Vm.put o new l) : x ∈ new ∨ x ∈ l := by
  simp only [Vm.put, List.mem_append] at h
  rcases h with (h | h) | h
  · exact .inr (List.mem_of_mem_take h)
  · exact .inl h
  · exact .inr (List.mem_of_mem_drop h)

/-! Single cells. -/
theorem DenC.one {ok : Nat → Prop} {t : T} {v : Value} (ht : t.isCell = true) (h : DenC w ok t [v]) : v.oneCell' = true := by
  cases t with
  | agg cs => cases ht
  | int k n => simp only [DenC, List.cons.injEq, and_true] at h; subst h; rfl
  | bool b => simp only [DenC, List.cons.injEq, and_true] at h; subst h; rfl
  | lst s es => obtain ⟨A, c, h, _⟩ := h; simp only [List.cons.injEq, and_true] at h; subst h; rfl
theorem Den.ofC {ok : Nat → Prop} {t : T} {v : Value} (ht : t.isCell = true) (h : DenC w ok t [v]) : Den w ok t v := by
  cases t with
  | agg cs => cases ht
  | _ => exact h
theorem DenL.VRs : ∀ (ts : List T) (vs : List Value), DenL w g.ok ts vs → Vm.VRs g w O D (ts.map (.d true)) vs ∧ ∀ x ∈ vs, x.oneCell' = true
  | [], vs, h => by simp only [DenL] at h; subst h; exact ⟨rfl, by simp⟩
  | t :: ts, _, h => by
    obtain ⟨v, vs, rfl, h0, h1, h2⟩ := h
    have ih := DenL.VRs ts vs h2
    refine ⟨⟨v, vs, rfl, Den.ofC h0 h1, ih.1⟩, fun x hx => ?_⟩
    rcases List.mem_cons.1 hx with rfl | hx
    · exact DenC.one h0 h1
    · exact ih.2 x hx
theorem DenC.VRs {t : T} {vs : List Value} (h : DenC w g.ok t vs) : Vm.VRs g w O D (t.cells.map (.d true)) vs ∧ ∀ x ∈ vs, x.oneCell' = true := by
  cases t with
  | agg cs => exact DenL.VRs cs vs h
  | int k n => simp only [DenC] at h; subst h; exact ⟨⟨_, [], rfl, rfl, rfl⟩, by simp [Value.oneCell']⟩
  | bool b => simp only [DenC] at h; subst h; exact ⟨⟨_, [], rfl, rfl, rfl⟩, by simp [Value.oneCell']⟩
  | lst s es =>
    obtain ⟨A, c, hv, h⟩ := h
    subst hv
    exact ⟨⟨_, [], rfl, ⟨A, c, rfl, h⟩, rfl⟩, by simp [Value.oneCell']⟩
theorem DenC.length {ok : Nat → Prop} : ∀ {t : T} {vs : List Value}, DenC w ok t vs → vs.length = t.cells.length := by
  intro t vs h
  have := (DenC.VRs (g := ⟨fun _ => none, fun _ _ => (0, 0, 0), ok, 0⟩) (O := fun _ _ => none) (D := 0) h).1
  have := VRs.length _ _ this
  simpa using this.symm

/-! Levels. -/
mutual
theorem VR.shift {k : Nat} (hk : k ≤ D) : ∀ (v : V) (x : Value), VR g w O (D - k) v x → VR g w O D (V.shift k v) x
  | .row l n lo len s, x, h => by
    obtain ⟨hl, A, c, hv, h⟩ := h
    simp only [V.shift]
    exact ⟨by omega, A, c, hv, by have e : D - 1 - (l + k) = D - k - 1 - l := by omega
                                  rw [e]; exact h⟩
  | .ptr l n off, x, h => by
    simp only [V.shift]
    exact ⟨by have := h.1; omega, by have e : D - 1 - (l + k) = D - k - 1 - l := by omega
                                     rw [e]; exact h.2⟩
  | .rel l n i off, x, h => by
    simp only [V.shift]
    exact ⟨by have := h.1; omega, by have e : D - 1 - (l + k) = D - k - 1 - l := by omega
                                     rw [e]; exact h.2⟩
  | .ag cs, x, h => by obtain ⟨vs, hv, h, h1⟩ := h; simp only [V.shift]; exact ⟨vs, hv, VRs.shift hk cs vs h, h1⟩
  | .tp cs, x, h => by obtain ⟨vs, hv, h⟩ := h; simp only [V.shift]; exact ⟨vs, hv, VRs.shift hk cs vs h⟩
  | .cl f cs, x, h => by obtain ⟨vs, hv, h⟩ := h; simp only [V.shift]; exact ⟨vs, hv, VRs.shift hk cs vs h⟩
  | .d true t, x, h => by simp only [V.shift]; exact h
  | .d false t, x, h => by simp only [V.shift]; exact h
  | .dx p t, x, h => by simp only [V.shift]; exact h
  | .nil s, x, h => by simp only [V.shift]; exact h
  | .pd t, x, h => by simp only [V.shift]; exact h
  | .u, x, h => by simp only [V.shift]; exact h
theorem VRs.shift {k : Nat} (hk : k ≤ D) : ∀ (cs : List V) (vs : List Value), Vm.VRs g w O (D - k) cs vs → Vm.VRs g w O D (V.shifts k cs) vs
  | [], vs, h => h
  | c :: cs, _, h => by
    obtain ⟨v, vs, rfl, h1, h2⟩ := h
    exact ⟨v, vs, rfl, VR.shift hk c v h1, VRs.shift hk cs vs h2⟩
end
mutual
theorem VR.down {k : Nat} : ∀ (v v' : V) (x : Value), V.down k v = some v' → VR g w O D v x → VR g w O (D - k) v' x
  | .row l n lo len s, v', x, e, h => by
    simp only [V.down, downL] at e
    split at e
    · simp at e; subst e
      obtain ⟨hl, A, c, hv, h⟩ := h
      exact ⟨by omega, A, c, hv, by have e : D - k - 1 - (l - k) = D - 1 - l := by omega
                                    rw [e]; exact h⟩
    · simp at e
  | .ptr l n off, v', x, e, h => by
    simp only [V.down, downL] at e
    split at e
    · simp at e; subst e
      exact ⟨by have := h.1; omega, by have e : D - k - 1 - (l - k) = D - 1 - l := by omega
                                       rw [e]; exact h.2⟩
    · simp at e
  | .rel l n i off, v', x, e, h => by
    simp only [V.down, downL] at e
    split at e
    · simp at e; subst e
      exact ⟨by have := h.1; omega, by have e : D - k - 1 - (l - k) = D - 1 - l := by omega
                                       rw [e]; exact h.2⟩
    · simp at e
  | .ag cs, v', x, e, h => by
    simp only [V.down] at e
    cases hc : V.downs k cs with
    | none => rw [hc] at e; simp at e
    | some cs' =>
      rw [hc] at e; simp at e; subst e
      obtain ⟨vs, hv, h, h1⟩ := h
      exact ⟨vs, hv, VRs.down cs cs' vs hc h, h1⟩
  | .tp cs, v', x, e, h => by
    simp only [V.down] at e
    cases hc : V.downs k cs with
    | none => rw [hc] at e; simp at e
    | some cs' =>
      rw [hc] at e; simp at e; subst e
      obtain ⟨vs, hv, h⟩ := h
      exact ⟨vs, hv, VRs.down cs cs' vs hc h⟩
  | .cl f cs, v', x, e, h => by
    simp only [V.down] at e
    cases hc : V.downs k cs with
    | none => rw [hc] at e; simp at e
    | some cs' =>
      rw [hc] at e; simp at e; subst e
      obtain ⟨vs, hv, h⟩ := h
      exact ⟨vs, hv, VRs.down cs cs' vs hc h⟩
  | .d true t, v', x, e, h => by simp only [V.down, Option.some.injEq] at e; subst e; exact h
  | .d false t, v', x, e, h => by simp only [V.down, Option.some.injEq] at e; subst e; exact h
  | .dx p t, v', x, e, h => by simp only [V.down, Option.some.injEq] at e; subst e; exact h
  | .nil s, v', x, e, h => by simp only [V.down, Option.some.injEq] at e; subst e; exact h
  | .pd t, v', x, e, h => by simp only [V.down, Option.some.injEq] at e; subst e; exact h
  | .u, v', x, e, h => by simp only [V.down, Option.some.injEq] at e; subst e; trivial
theorem VRs.down {k : Nat} : ∀ (cs cs' : List V) (vs : List Value), V.downs k cs = some cs' → Vm.VRs g w O D cs vs → Vm.VRs g w O (D - k) cs' vs
  | [], cs', vs, e, h => by simp only [V.downs, Option.some.injEq] at e; subst e; exact h
  | c :: cs, cs', _, e, h => by
    obtain ⟨v, vs, rfl, h1, h2⟩ := h
    simp only [V.downs] at e
    split at e
    · rename_i c' cs'' e1 e2
      cases e
      exact ⟨v, vs, rfl, VR.down c c' v e1 h1, VRs.down cs cs'' vs e2 h2⟩
    · cases e
end
/-- a value taken apart into its cells -/
theorem VR.cells {k : Nat} {v : V} {x : Value} {cs : List V} (hc : cellsOf k v = some cs) (h : VR g w O D v x) :
    Vm.VRs g w O D cs x.cells.toList ∧ (∀ y ∈ x.cells.toList, y.oneCell' = true) ∧ x.cells.size = wid k := by
  cases k with
  | zero =>
    have one : x.oneCell' = true → Vm.VRs g w O D [v] x.cells.toList ∧ (∀ y ∈ x.cells.toList, y.oneCell' = true) ∧ x.cells.size = wid 0 := fun h1 => by
      have e : x.cells = #[x] := by cases x <;> first | rfl | (simp [Value.oneCell'] at h1; done)
      rw [e]
      exact ⟨⟨x, [], rfl, h, rfl⟩, by simpa using h1, rfl⟩
    have e : cs = [v] ∨ False := by
      unfold cellsOf at hc
      split at hc <;> simp_all
    rcases e with rfl | e
    · refine one ?_
      cases v with
      | d p t =>
        have ht : t.isCell = true := by cases t <;> first | rfl | (simp [cellsOf] at hc; done)
        cases p with
        | true => exact DenC.one (w := w) (ok := g.ok) ht (by cases t <;> first | exact h | (simp [T.isCell] at ht; done))
        | false =>
          cases t with
          | lst s es => obtain ⟨A, c, rfl, _⟩ := h; rfl
          | int k n => exact DenC.one (w := w) (ok := g.ok) (t := .int k n) rfl h
          | bool b => exact DenC.one (w := w) (ok := g.ok) (t := .bool b) rfl h
          | agg cs => cases ht
      | dx p t => obtain ⟨_, A, n, rfl⟩ := h; rfl
      | nil s => obtain ⟨A, rfl⟩ := h; rfl
      | row l n lo len s => obtain ⟨_, A, c, rfl, _⟩ := h; rfl
      | ptr l n off => obtain ⟨_, h⟩ := h; obtain ⟨b, o, rfl, _⟩ := h.shape; rfl
      | rel l n i off =>
        obtain ⟨_, h⟩ := h
        unfold RelV at h
        split at h
        · obtain ⟨b, o, e, vs, rfl, _⟩ := h; rfl
        · obtain ⟨b, o, e, vs, rfl, _⟩ := h; rfl
        · obtain ⟨b, o, rfl⟩ := h; rfl
        · exact h.elim
      | pd t => obtain ⟨b, o, vs, rfl, _⟩ := h; rfl
      | cl f cs => obtain ⟨vs, rfl, _⟩ := h; exact clV_one f vs
      | ag cs => simp [cellsOf] at hc
      | tp cs => simp [cellsOf] at hc
      | u => simp [cellsOf] at hc
    · exact e.elim
  | succ k =>
    cases v with
    | ag cs' =>
      simp only [cellsOf] at hc
      split at hc
      · rename_i hl
        simp at hc; subst hc
        obtain ⟨vs, rfl, h, h1⟩ := h
        refine ⟨by simpa [Value.cells] using h, by simpa [Value.cells] using h1, ?_⟩
        simp only [Value.cells, List.size_toArray, wid]
        rw [← VRs.length _ _ h, hl]
      · cases hc
    | _ => simp [cellsOf] at hc
/-- .. and put together -/
def ofVals (k : Nat) (vs : List Value) : Value := match k with
  | 0 => vs.getD 0 undef
  | _ + 1 => .agg vs.toArray
theorem VR.ofCells {k : Nat} {v : V} {cs : List V} {vs : List Value} (hc : ofCells k cs = some v) (hl : cs.length = wid k) (h : Vm.VRs g w O D cs vs) (h1 : ∀ y ∈ vs, y.oneCell' = true) :
    VR g w O D v (ofVals k vs) := by
  cases k with
  | zero =>
    match cs, hl with
    | [c], _ =>
      simp [Vm.ofCells] at hc; subst hc
      obtain ⟨x, xs, rfl, h, _⟩ := h
      simpa [ofVals] using h
  | succ k =>
    simp [Vm.ofCells] at hc; subst hc
    exact ⟨vs, rfl, h, h1⟩
end
end Go.Proofs.YtcgjebaomhfbdaaGreat.Vm

/- Operations: what Go does, as the machine says. -/
namespace Go.Proofs.YtcgjebaomhfbdaaGreat.Vm
open Go

/-! Operands. -/
mutual
def okC : V → Value → Bool
  | .u, _ => true
  | .d true (.int k n), .int k' n' => decide (k = k') && decide (n = n')
  | .d true (.bool b), .bool b' => b == b'
  | .nil _, .slice none 0 0 => true
  | .ag cs, .agg vs => okCs cs vs.toList
  | _, _ => false
def okCs : List V → List Value → Bool
  | [], [] => true
  | c :: cs, v :: vs => okC c v && v.oneCell' && okCs cs vs
  | _, _ => false
end
def okX : X → Operand → Bool
  | .t n, .tmp m => decide (n = m)
  | .c (.cl f []), .func h => decide (f = h) && decide (f < bndF)
  | .c (.cl f []), .const (.pointer none) => decide (f = nilF)
  | .c v, .const x => okC v x
  | _, _ => false
def okXs : List X → List Operand → Bool
  | [], [] => true
  | x :: xs, p :: ps => okX x p && okXs xs ps
  | _, _ => false
def okXo : Option X → Option Operand → Bool
  | none, none => true
  | some x, some p => okX x p
  | _, _ => false
def evalT (tmps : Array Value) (x : Operand) : Value := Act.eval ⟨tmps, []⟩ x
theorem Act.eval_T (a : Act) : a.eval = evalT a.tmps := by funext x; cases x <;> rfl
section
variable {g : Gh} {w : World} {O : Obs} {D : Nat}
mutual
theorem okC.vr : ∀ (v : V) (x : Value), okC v x = true → VR g w O D v x
  | .u, _, _ => trivial
  | .d true (.int k n), x, h => by
    cases x <;> simp [okC] at h
    obtain ⟨rfl, rfl⟩ := h
    rfl
  | .d true (.bool b), x, h => by
    cases x <;> simp [okC] at h
    subst h
    rfl
  | .nil _, x, h => by
    unfold okC at h
    split at h <;> simp_all
    exact ⟨none, rfl⟩
  | .ag cs, x, h => by
    cases x <;> simp [okC] at h
    rename_i vs
    have := okCs.vr cs vs.toList h
    exact ⟨vs.toList, by simp, this.1, this.2⟩
  | .d false _, x, h => by cases x <;> simp [okC] at h
  | .d true (.lst _ _), x, h => by cases x <;> simp [okC] at h
  | .d true (.agg _), x, h => by cases x <;> simp [okC] at h
  | .dx _ _, x, h => by cases x <;> simp [okC] at h
  | .row .., x, h => by cases x <;> simp [okC] at h
  | .ptr .., x, h => by cases x <;> simp [okC] at h
  | .rel .., x, h => by cases x <;> simp [okC] at h
  | .pd _, x, h => by cases x <;> simp [okC] at h
  | .tp _, x, h => by cases x <;> simp [okC] at h
  | .cl _ _, x, h => by cases x <;> simp [okC] at h
theorem okCs.vr : ∀ (cs : List V) (vs : List Value), okCs cs vs = true → VRs g w O D cs vs ∧ ∀ y ∈ vs, y.oneCell' = true
  | [], [], _ => ⟨rfl, by simp⟩
  | [], _ :: _, h => by simp [okCs] at h
  | _ :: _, [], h => by simp [okCs] at h
  | c :: cs, v :: vs, h => by
    simp only [okCs, Bool.and_eq_true] at h
    have ih := okCs.vr cs vs h.2
    refine ⟨⟨v, vs, rfl, okC.vr c v h.1.1, ih.1⟩, fun y hy => ?_⟩
    rcases List.mem_cons.1 hy with rfl | hy
    · exact h.1.2
    · exact ih.2 y hy
end
end
section
variable {P : Program} {g : Gh} {σ : St} {tmps : Array Value} {rts : Roots} {w : World}
theorem Rel.val (h : Rel g σ tmps rts w) {x : X} {p : Operand} (hx : okX x p = true) : VR g w σ.O (σ.up.length + 1) (σ.val x) (evalT tmps p) := by
  unfold okX at hx
  split at hx
  · have := of_decide_eq_true hx
    subst this
    have := h.sl ‹Nat›
    simpa [evalT, Act.eval, St.val] using this
  · simp only [Bool.and_eq_true, decide_eq_true_eq] at hx
    obtain ⟨rfl, hlt⟩ := hx
    exact ⟨[], (clV_small hlt []).symm, rfl⟩
  · have := of_decide_eq_true hx
    subst this
    exact ⟨[], rfl, rfl⟩
  · exact okC.vr _ _ hx
  · cases hx
theorem Rel.vals (h : Rel g σ tmps rts w) : ∀ {xs : List X} {ps : List Operand}, okXs xs ps = true → VRs g w σ.O (σ.up.length + 1) (σ.vals xs) (ps.map (evalT tmps))
  | [], [], _ => rfl
  | [], _ :: _, hx => by simp [okXs] at hx
  | _ :: _, [], hx => by simp [okXs] at hx
  | x :: xs, p :: ps, hx => by
    simp only [okXs, Bool.and_eq_true] at hx
    exact ⟨_, _, rfl, h.val hx.1, Rel.vals h hx.2⟩
def putT (tmps : Array Value) (d : Option Nat) (x : Value) : Array Value := match d with
  | some d => tmps.setIfInBounds d x
  | none => tmps
/-- An operation is done, as the machine says. -/
def Done (P : Program) (g : Gh) (σ : St) (tmps : Array Value) (rts : Roots) (w : World) (o : Oper) (σ' : St) : Prop :=
  ∃ g' w' x, ((execOp (evalT tmps) o).run P w = .ok (.value x) w' ∨ ((execOp (evalT tmps) o).run P w = .ok .skip w' ∧ x = undef)) ∧
    Rel g' σ' (putT tmps o.dst x) rts w' ∧ Adv g w g' w' ∧ σ'.up.length = σ.up.length
theorem Done.value (h : Rel g σ tmps rts w) {o : Oper} {d : Nat} {v : V} {x : Value} (hd : o.dst = some d) (hs : d < tmps.size)
    (hr : (execOp (evalT tmps) o).run P w = .ok (.value x) w) (hv : VR g w σ.O (σ.up.length + 1) v x) : Done P g σ tmps rts w o (σ.set d v) :=
  ⟨g, w, x, .inl hr, by rw [hd]; exact h.set hs hv, Adv.refl g w, rfl⟩
/-! Numbers. -/
theorem VR.int {O : Obs} {D : Nat} {p : Bool} {k : IntKind} {n : Int} {x : Value} (h : VR g w O D (.d p (.int k n)) x) : x = .int k n := by
  cases p with
  | true => simpa [VR, Den, DenC] using h
  | false => simpa [VR, DenT, Den, DenC] using h
theorem VR.bool {O : Obs} {D : Nat} {p : Bool} {b : Bool} {x : Value} (h : VR g w O D (.d p (.bool b)) x) : x = .bool b := by
  cases p with
  | true => simpa [VR, Den, DenC] using h
  | false => simpa [VR, DenT, Den, DenC] using h
theorem VR.dInt {O : Obs} {D : Nat} {p : Bool} (k : IntKind) (n : Int) : VR g w O D (.d p (.int k n)) (.int k n) := by cases p <;> rfl
theorem VR.dBool {O : Obs} {D : Nat} {p : Bool} (b : Bool) : VR g w O D (.d p (.bool b)) (.bool b) := by cases p <;> rfl
def T.val : T → Value
  | .int k n => .int k n
  | .bool b => .bool b
  | _ => undef
theorem VR.flat {O : Obs} {D : Nat} {p : Bool} {t : T} (h : t.flat = true) : VR g w O D (.d p t) t.val := by
  cases t with
  | int k n => exact VR.dInt k n
  | bool b => exact VR.dBool b
  | lst s es => cases h
  | agg cs => cases h
theorem run_arith {op : BinOp} {k k' : IntKind} {a b : Int} {t : T} {xt : TypeId} {p q : Operand} (hk : k = k' ∨ isShift op = true) (h : arith op k a b = some t) :
    (do eqGuard op xt p q (.int k a) (.int k' b); binOp op xt (.int k a) (.int k' b) : Sem Value).run P w = .ok t.val w ∧ t.flat = true := by
  have hg : (eqGuard op xt p q (.int k a) (.int k' b)).run P w = .ok () w := by
    unfold eqGuard; split <;> rfl
  rw [Sem.run_bind, hg]
  simp only [Result.andThen_ok]
  cases op with
  | shl => simp only [arith] at h; split at h <;> simp_all [binOp, Op.shift] <;> (subst h; exact ⟨by rw [if_neg (by omega)]; rfl, rfl⟩)
  | shr => simp only [arith] at h; split at h <;> simp_all [binOp, Op.shift] <;> (subst h; exact ⟨by rw [if_neg (by omega)]; rfl, rfl⟩)
  | quo =>
    have hk : k = k' := by simpa [isShift] using hk
    subst hk
    simp only [arith] at h; split at h <;> simp_all [binOp, Op.intDiv] <;> (subst h; exact ⟨rfl, rfl⟩)
  | rem =>
    have hk : k = k' := by simpa [isShift] using hk
    subst hk
    simp only [arith] at h; split at h <;> simp_all [binOp, Op.intDiv] <;> (subst h; exact ⟨rfl, rfl⟩)
  | _ =>
    have hk : k = k' := by simpa [isShift] using hk
    subst hk
    simp only [arith, Option.some.injEq] at h
    subst h
    simp [binOp, Op.intArith, Op.intBits, Op.intCmp, T.val, T.flat]
end
end Go.Proofs.YtcgjebaomhfbdaaGreat.Vm

/- Operations that write nothing. -/
namespace Go.Proofs.YtcgjebaomhfbdaaGreat.Vm
open Go
/-- a type's cells: 0: one cell that is no struct; w + 1: a struct or array of w cells -/
def wOf (P : Program) (t : TypeId) : Option Nat :=
  match P.underlying t, P.info? t with
  | some (.struct _), some i | some (.array _ _), some i => some (i.size + 1)
  | some _, some i => if i.size = 1 then some 0 else none
  | _, _ => none
def szOf (P : Program) (t : TypeId) : Option Nat := (P.info? t).map (·.size)
def isW (P : Program) (t : TypeId) (w : Nat) : Bool := decide (wOf P t = some w)
section
variable {P : Program} {g : Gh} {σ : St} {tmps : Array Value} {rts : Roots} {w : World}
theorem wOf_size {t : TypeId} {k : Nat} (h : wOf P t = some k) : ∃ i, P.info? t = some i ∧ i.size = wid k := by
  unfold wOf at h
  split at h
  · rename_i i _ hi; simp at h; subst h; exact ⟨i, hi, rfl⟩
  · rename_i i _ hi; simp at h; subst h; exact ⟨i, hi, rfl⟩
  · rename_i i _ _ _ hi
    split at h
    · rename_i hs; simp at h; subst h; exact ⟨i, hi, hs⟩
    · cases h
  · cases h
theorem run_isAgg {t : TypeId} {k : Nat} (h : wOf P t = some k) : (isAgg t).run P w = .ok (match k with | 0 => false | _ + 1 => true) w := by
  unfold wOf at h
  unfold isAgg
  split at h
  · rename_i hu hi; simp at h; subst h; simp [run_underlying hu]
  · rename_i hu hi; simp at h; subst h; simp [run_underlying hu]
  · rename_i d i hn1 hn2 hu hi
    split at h
    · simp at h; subst h
      simp only [Sem.run_bind, run_underlying hu, Result.andThen_ok]
      rfl
    · cases h
  · cases h
theorem run_loadW {t : TypeId} {k b o : Nat} {vs : List Value} (hk : wOf P t = some k) (hl : vs.length = wid k) (hc : ∀ j, j < vs.length → w.cell? ⟨b, o + j, none⟩ = vs[j]?) :
    (loadVar t ⟨b, o, none⟩).run P w = .ok (ofVals k vs) w := by
  have hadd : ∀ j, (⟨b, o, none⟩ : Addr).add j = ⟨b, o + j, none⟩ := fun j => by unfold Addr.add; split <;> simp_all
  unfold loadVar
  rw [Sem.run_bind, run_isAgg hk]
  simp only [Result.andThen_ok]
  cases k with
  | zero =>
    simp only [wid] at hl
    obtain ⟨v, rfl⟩ : ∃ v, vs = [v] := by
      match vs, hl with
      | [v], _ => exact ⟨v, rfl⟩
    have := hc 0 (by simp)
    simp only [Nat.add_zero, List.getElem?_cons_zero] at this
    simp [this, ofVals]
  | succ k =>
    obtain ⟨i, hi, hs⟩ := wOf_size hk
    have hsz : (sizeOf t).run P w = .ok vs.length w := by simp [sizeOf, typeInfo, hi, hs, hl]
    have := run_loadCells_list (P := P) w ⟨b, o, none⟩ vs (fun j v hv => by
      rw [hadd, hc j (List.getElem?_eq_some_iff.1 hv).1]; exact hv)
    simp [hsz, this, ofVals]
/-- loads -/
theorem Rel.load (h : Rel g σ tmps rts w) {x v : V} {y : Value} {t : TypeId} {k : Nat} (hk : wOf P t = some k) (hx : VR g w σ.O (σ.up.length + 1) x y) (hl : σ.load x k = some v) :
    ∃ z, (Instr.loadAt t y).run P w = .ok z w ∧ VR g w σ.O (σ.up.length + 1) v z := by
  unfold St.load at hl
  split at hl
  · -- a cell that stays
    rename_i t'
    obtain ⟨b, o, vs, rfl, hb, hc, hd⟩ := hx
    simp only at hl
    split at hl
    · rename_i hlen
      have hv := DenC.VRs (O := σ.O) (D := σ.up.length + 1) hd
      have hlv : vs.length = wid k := by rw [← VRs.length _ _ hv.1]; exact hlen
      refine ⟨_, ?_, VR.ofCells hl hlen hv.1 hv.2⟩
      simp only [Instr.loadAt, Instr.sureAddr, Sem.run_bind, Sem.run_pure, Result.andThen_ok]
      exact run_loadW hk hlv hc
    · cases hl
  · rename_i l n off
    obtain ⟨hlt, hp⟩ := hx
    have hO' := St.O_obj σ l n (by omega)
    have e : σ.up.length + 1 - 1 - l = σ.up.length - l := by omega
    split at hl
    · rename_i cs hO
      rw [e] at hp
      obtain rfl := hp.box (hO'.trans hO)
      split at hl
      · rename_i cs'' hsub
        obtain ⟨hown, vs, rest, el, hh, hvs, h1, _⟩ := h.ob (σ.up.length - l) n _ (by omega) (hO'.trans hO)
        unfold sub? at hsub
        split at hsub
        · rename_i hfit
          cases hsub
          have hlen := VRs.length _ _ hvs
          have hsl := VRs.slice (o := off) (n := wid k) hvs
          have hsh := VRs.shift (g := g) (w := w) (O := σ.O) (D := σ.up.length + 1) (k := l) (by omega) _ _ (by
            have e : σ.up.length + 1 - l = σ.up.length - l + 1 := by omega
            rw [e]; exact hsl)
          have hlen' : (slice off (wid k) vs).length = wid k := slice_length (by omega)
          refine ⟨_, ?_, VR.ofCells hl (by rw [VRs.length _ _ hsh, hlen']) hsh (fun y hy => h1 y (List.mem_append_left _ (mem_slice hy)))⟩
          simp only [Instr.loadAt, Instr.sureAddr, Sem.run_bind, Sem.run_pure, Result.andThen_ok]
          refine run_loadW hk hlen' (fun j hj => ?_)
          rw [hlen'] at hj
          rw [slice_get hj]
          have hlt2 : off + j < vs.length := by omega
          simp [World.cell?, hh, List.getElem?_append_left hlt2]
        · cases hsub
      · cases hl
    · cases hl
  · rename_i l n i off
    obtain ⟨hlt, hv⟩ := hx
    have e : σ.up.length + 1 - 1 - l = σ.up.length - l := by omega
    rw [e] at hv
    have hO' := St.O_obj σ l n (by omega)
    have key : ∀ (s : Nat) (es : List T), (∃ b o e vs, y = .pointer (some ⟨b, o + off, none⟩) ∧ es[i]? = some e ∧ vs.length = s ∧ (∀ j, j < s → w.cell? ⟨b, o + j, none⟩ = vs[j]?) ∧ DenC w g.ok e vs) →
        (match es[i]? with
          | some t => match sub? off (wid k) t.cells with
            | some cs => ofCells k (cs.map (.d true))
            | none => none
          | none => none) = some v → ∃ z, (Instr.loadAt t y).run P w = .ok z w ∧ VR g w σ.O (σ.up.length + 1) v z := by
      rintro s es ⟨b, o, e, vs, rfl, he, hls, hc, hd⟩ hl
      rw [he] at hl
      simp only at hl
      split at hl
      · rename_i cs hsub
        unfold sub? at hsub
        split at hsub
        · rename_i hfit
          cases hsub
          have hvs := DenC.VRs (O := σ.O) (D := σ.up.length + 1) hd
          have hlen := VRs.length _ _ hvs.1
          have hsl := VRs.slice (o := off) (n := wid k) hvs.1
          have hm : slice off (wid k) (List.map (V.d true) e.cells) = List.map (V.d true) (slice off (wid k) e.cells) := by simp [slice]
          rw [hm] at hsl
          have hfit' : off + wid k ≤ vs.length := by rw [← hlen]; simpa using hfit
          have hlen' : (slice off (wid k) vs).length = wid k := slice_length hfit'
          refine ⟨_, ?_, VR.ofCells hl (by rw [VRs.length _ _ hsl, hlen']) hsl (fun y hy => hvs.2 y (mem_slice hy))⟩
          simp only [Instr.loadAt, Instr.sureAddr, Sem.run_bind, Sem.run_pure, Result.andThen_ok]
          refine run_loadW hk hlen' (fun j hj => ?_)
          rw [hlen'] at hj
          rw [slice_get hj, Nat.add_assoc]
          exact hc (off + j) (by omega)
        · cases hsub
      · cases hl
    split at hl
    · rename_i s es gr hobj
      simp only [RelV, hO'.trans hobj] at hv
      obtain ⟨b, o, e, vs, h1, _, h2, h3, h4, h5, _⟩ := hv
      exact key s es ⟨b, o, e, vs, h1, h2, h3, h4, h5⟩ hl
    · rename_i s es hobj
      simp only [RelV, hO'.trans hobj] at hv
      obtain ⟨b, o, e, vs, h1, _, h2, h3, h4, h5⟩ := hv
      exact key s es ⟨b, o, e, vs, h1, h2, h3, h4, h5⟩ hl
    · cases hl
  · cases hl

/-! Addresses. -/
theorem Addr.add_none (b o n : Nat) : (⟨b, o, none⟩ : Addr).add n = ⟨b, o + n, none⟩ := by unfold Addr.add; split <;> simp_all
theorem VR.pdAt {D : Nat} {O : Obs} {t : T} {y : Value} (h : VR g w O D (.pd t) y) : ∃ b o, y = .pointer (some ⟨b, o, none⟩) := by
  obtain ⟨b, o, vs, rfl, _⟩ := h; exact ⟨b, o, rfl⟩
theorem VR.fad {D : Nat} {O : Obs} {x v : V} {y : Value} {off k : Nat} (hx : VR g w O D x y) (hf : Vm.fad x off k = some v) :
    ∃ b o, y = .pointer (some ⟨b, o, none⟩) ∧ VR g w O D v (.pointer (some ⟨b, o + off, none⟩)) := by
  unfold Vm.fad at hf
  split at hf
  · rename_i l n o
    cases hf
    obtain ⟨hl, hx⟩ := hx
    obtain ⟨b, o', rfl, hs⟩ := hx.shape
    exact ⟨b, o' + o, rfl, hl, by have := hs (o + off); rwa [← Nat.add_assoc] at this⟩
  · rename_i l n i o
    cases hf
    obtain ⟨hl, hx⟩ := hx
    unfold RelV at hx
    split at hx
    · rename_i s es gr hobj
      obtain ⟨b, o', e, vs, rfl, h⟩ := hx
      refine ⟨b, o' + o, rfl, hl, ?_⟩
      unfold RelV; rw [hobj]
      exact ⟨b, o', e, vs, by rw [Nat.add_assoc], h⟩
    · rename_i s es hobj
      obtain ⟨b, o', e, vs, rfl, h⟩ := hx
      refine ⟨b, o' + o, rfl, hl, ?_⟩
      unfold RelV; rw [hobj]
      exact ⟨b, o', e, vs, by rw [Nat.add_assoc], h⟩
    · rename_i hobj
      obtain ⟨b, o', rfl⟩ := hx
      refine ⟨b, o' + o, rfl, hl, ?_⟩
      unfold RelV; rw [hobj]
      exact ⟨b, o', by rw [Nat.add_assoc]⟩
    · exact hx.elim
  · rename_i cs
    obtain ⟨b, o, vs, rfl, hb, hc, hd⟩ := hx
    have hlen : vs.length = cs.length := DenC.length hd
    split at hf
    · rename_i c hsub
      unfold sub? at hsub
      split at hsub
      · rename_i hfit
        cases hsub
        have hdl : ∀ (m : Nat) (ts : List T) (us : List Value), DenL w g.ok ts us → DenL w g.ok (ts.drop m) (us.drop m) := by
          intro m
          induction m with
          | zero => intro ts us h; simpa using h
          | succ m ih =>
            intro ts us h
            cases ts with
            | nil => simp only [DenL] at h; subst h; simp [DenL]
            | cons t ts => obtain ⟨u, us', rfl, _, _, h⟩ := h; simpa using ih ts us' h
        have htl : ∀ (m : Nat) (ts : List T) (us : List Value), DenL w g.ok ts us → DenL w g.ok (ts.take m) (us.take m) := by
          intro m
          induction m with
          | zero => intro ts us h; simp [DenL]
          | succ m ih =>
            intro ts us h
            cases ts with
            | nil => simp only [DenL] at h; subst h; simp [DenL]
            | cons t ts => obtain ⟨u, us', rfl, h0, h1, h⟩ := h; exact ⟨u, us'.take m, by simp, h0, h1, ih ts us' h⟩
        have hsl : DenL w g.ok (slice off (wid k) cs) (slice off (wid k) vs) := htl _ _ _ (hdl _ _ _ hd)
        have hsc : ∀ j, j < (slice off (wid k) vs).length → w.cell? ⟨b, o + off + j, none⟩ = (slice off (wid k) vs)[j]? := fun j hj => by
          have hj' : j < wid k := by rwa [slice_length (by omega)] at hj
          rw [slice_get hj', Nat.add_assoc]
          exact hc (off + j) (by omega)
        refine ⟨b, o, rfl, ?_⟩
        cases k with
        | zero =>
          simp only at hf
          split at hf
          · rename_i t ht
            cases hf
            rw [ht] at hsl
            obtain ⟨u, us, hu, h0, h1, h2⟩ := hsl
            simp only [DenL] at h2
            subst h2
            exact ⟨b, o + off, [u], rfl, hb, by rw [← hu]; exact hsc, h1⟩
          · cases hf
        | succ k =>
          simp only [Option.some.injEq] at hf
          subst hf
          exact ⟨b, o + off, _, rfl, hb, hsc, hsl⟩
      · cases hsub
    · cases hf
  · cases hf
/-- the elements of a slice, wherever they lie -/
theorem natOf_some {len j : Nat} {i : V} {D : Nat} {O : Obs} {z : Value} (h : natOf len i = some j) (hz : VR g w O D i z) : ∃ k n, z = .int k n ∧ 0 ≤ n ∧ n < (len : Int) ∧ n.toNat = j := by
  unfold natOf at h
  split at h
  · rename_i p k n
    split at h
    · rename_i hn
      cases h
      exact ⟨k, n, hz.int, hn.1, hn.2, rfl⟩
    · cases h
  · cases h
theorem Rel.ix {x i v : V} {y z : Value} {t e : TypeId} {s : Nat} (ht : P.underlying t = some (.slice e)) (hs : szOf P e = some s)
    (hx : VR g w σ.O (σ.up.length + 1) x y) (hi : VR g w σ.O (σ.up.length + 1) i z) (hv : σ.ix x i s = some v) :
    ∃ u, (Instr.indexAt t y z).run P w = .ok u w ∧ VR g w σ.O (σ.up.length + 1) v u := by
  have hsz : (sizeOf e).run P w = .ok s w := by
    unfold szOf at hs
    cases hp : P.info? e with
    | none => rw [hp] at hs; cases hs
    | some inf => rw [hp] at hs; simp at hs; simp [sizeOf, typeInfo, hp, hs]
  have run : ∀ (b o len c : Nat) (k : IntKind) (n : Int), 0 ≤ n → n < (len : Int) → (Instr.indexAt t (.slice (some ⟨b, o, none⟩) len c) (.int k n)).run P w = .ok (.pointer (some ⟨b, o + n.toNat * s, none⟩)) w := by
    intro b o len c k n h0 h1
    simp [Instr.indexAt, asIntOf, run_underlying ht, hsz, h0, h1, Addr.add_none]
  unfold St.ix at hv
  have data : ∀ (s' : Nat) (es : List T), (∃ A c, y = .slice A es.length c ∧ (es = [] ∨ ∃ b o, A = some ⟨b, o, none⟩ ∧ (g.ok b ∨ b < g.base) ∧ DenR w g.ok b s' o es)) →
      (if s = s' then (natOf es.length i).bind fun j => (es[j]?).map .pd else none) = some v → ∃ u, (Instr.indexAt t y z).run P w = .ok u w ∧ VR g w σ.O (σ.up.length + 1) v u := by
    rintro s' es ⟨A, c, rfl, hd⟩ hv
    split at hv
    · rename_i hss
      subst hss
      cases hj : natOf es.length i with
      | none => rw [hj] at hv; cases hv
      | some j =>
        rw [hj] at hv
        obtain ⟨k, n, rfl, h0, h1, rfl⟩ := natOf_some hj hi
        simp only [Option.bind_some] at hv
        cases he : es[n.toNat]? with
        | none => rw [he] at hv; cases hv
        | some e' =>
          rw [he] at hv
          cases hv
          rcases hd with rfl | ⟨b, o, rfl, hb, hr⟩
          · simp at he
          · obtain ⟨vs, hl, hc, hd⟩ := DenR.get es o _ e' hr he
            exact ⟨_, run b o _ c k n h0 h1, b, _, vs, rfl, hb, fun j hj => hc j (by omega), hd⟩
    · cases hv
  split at hv
  · rename_i p s' es
    refine data s' es ?_ hv
    cases p with
    | true =>
      obtain ⟨A, c, hy, _, hd⟩ := hx
      simp only [List.cons.injEq, and_true] at hy
      exact ⟨A, c, hy, hd.imp id fun ⟨b, o, hA, hb, hr⟩ => ⟨b, o, hA, .inl hb, hr⟩⟩
    | false =>
      obtain ⟨A, c, hy, _, hd⟩ := hx
      exact ⟨A, c, hy, hd⟩
  · rename_i p s' es
    refine data s' es ?_ hv
    obtain ⟨hx, _⟩ := hx
    cases p with
    | true =>
      obtain ⟨A, c, hy, _, hd⟩ := hx
      simp only [List.cons.injEq, and_true] at hy
      exact ⟨A, c, hy, hd.imp id fun ⟨b, o, hA, hb, hr⟩ => ⟨b, o, hA, .inl hb, hr⟩⟩
    | false =>
      obtain ⟨A, c, hy, _, hd⟩ := hx
      exact ⟨A, c, hy, hd⟩
  · rename_i l n lo len s'
    obtain ⟨hl, A, c, rfl, hr⟩ := hx
    have e1 : σ.up.length + 1 - 1 - l = σ.up.length - l := by omega
    rw [e1] at hr
    have hO := St.O_obj σ l n (by omega)
    split at hv
    · rename_i hss
      subst hss
      cases hj : natOf len i with
      | none => rw [hj] at hv; cases hv
      | some j =>
        rw [hj] at hv
        obtain ⟨k, m, rfl, h0, h1, rfl⟩ := natOf_some hj hi
        simp only [Option.bind_some] at hv
        have hm : m.toNat < len := by omega
        split at hv
        · rename_i s'' es gr hobj
          split at hv
          · rename_i hfit
            cases hv
            simp only [RowV, hO.trans hobj] at hr
            obtain ⟨rfl, _, hlc, hr⟩ := hr
            rcases hr with hr | ⟨b, o, rfl, hown, hden, hpos⟩
            · omega
            · obtain ⟨vs, hls, hc, hd⟩ := DenR.get _ o m.toNat (es[lo + m.toNat]'(by omega)) hden (by rw [slice_get hm]; exact List.getElem?_eq_getElem _)
              refine ⟨_, run b o _ c k m h0 h1, hl, ?_⟩
              rw [e1]
              simp only [RelV, hO.trans hobj]
              refine ⟨b, o + m.toNat * s'', es[lo + m.toNat]'(by omega), vs, rfl, hown, List.getElem?_eq_getElem _, hls, hc, hd, fun hg => ?_, fun hb => ?_⟩
              · rcases hpos with hpos | hpos
                · exact hpos.1
                · rw [hpos.1] at hg; cases hg
              · rcases hpos with hpos | hpos
                · rw [hpos.2.1, Nat.add_mul]; omega
                · exact absurd hb hpos.2.2
          · cases hv
        · rename_i s'' es hobj
          split at hv
          · rename_i hfit
            cases hv
            simp only [RowV, hO.trans hobj] at hr
            obtain ⟨rfl, _, hlc, hr⟩ := hr
            rcases hr with hr | ⟨b, o, rfl, hok, hden⟩
            · omega
            · obtain ⟨vs, hls, hc, hd⟩ := DenR.get _ o m.toNat (es[lo + m.toNat]'(by omega)) hden (by rw [slice_get hm]; exact List.getElem?_eq_getElem _)
              refine ⟨_, run b o _ c k m h0 h1, hl, ?_⟩
              rw [e1]
              simp only [RelV, hO.trans hobj]
              exact ⟨b, o + m.toNat * s'', es[lo + m.toNat]'(by omega), vs, rfl, hok, List.getElem?_eq_getElem _, hls, hc, hd⟩
          · cases hv
        · cases hv
    · cases hv
  · cases hv
end
end Go.Proofs.YtcgjebaomhfbdaaGreat.Vm

/- Operations that write, or make memory. -/
namespace Go.Proofs.YtcgjebaomhfbdaaGreat.Vm
open Go
section
variable {P : Program} {g : Gh} {σ : St} {tmps : Array Value} {rts : Roots} {w : World}
/-! A list of cells as a row's elements. -/
def DenF (w : World) (ok : Nat → Prop) (s : Nat) : List T → List Value → Prop
  | [], vs => vs = []
  | e :: es, vs => ∃ a b, vs = a ++ b ∧ a.length = s ∧ DenC w ok e a ∧ DenF w ok s es b
theorem DenF.length {ok : Nat → Prop} {s : Nat} : ∀ (es : List T) (vs : List Value), DenF w ok s es vs → vs.length = es.length * s
  | [], vs, h => by simp only [DenF] at h; subst h; simp
  | e :: es, _, h => by
    obtain ⟨a, b, rfl, ha, _, h⟩ := h
    simp [ha, DenF.length es b h, Nat.add_mul]; omega
theorem DenF.append {ok : Nat → Prop} {s : Nat} : ∀ (es fs : List T) (vs us : List Value), DenF w ok s es vs → DenF w ok s fs us → DenF w ok s (es ++ fs) (vs ++ us)
  | [], fs, vs, us, h, k => by simp only [DenF] at h; subst h; simpa using k
  | e :: es, fs, _, us, h, k => by
    obtain ⟨a, b, rfl, ha, hd, h⟩ := h
    exact ⟨a, b ++ us, by simp, ha, hd, DenF.append es fs b us h k⟩
theorem DenF.row {w' : World} {ok : Nat → Prop} {b s : Nat} (hs : ∀ b, ok b → w'.heap[b]? = w.heap[b]?) : ∀ (es : List T) (vs : List Value) (o : Nat), DenF w ok s es vs →
    (∀ j, j < vs.length → w'.cell? ⟨b, o + j, none⟩ = vs[j]?) → DenR w' ok b s o es
  | [], _, _, _, _ => trivial
  | e :: es, _, o, h, hc => by
    obtain ⟨a, c, rfl, ha, hd, h⟩ := h
    refine ⟨⟨a, ha, fun j hj => ?_, DenC.mono hs (fun _ h => h) e a hd⟩, DenF.row hs es c (o + s) h (fun j hj => ?_)⟩
    · rw [hc j (by simp; omega), List.getElem?_append_left (by omega)]
    · have := hc (s + j) (by simp; omega)
      rw [← Nat.add_assoc] at this
      rw [this, List.getElem?_append_right (by omega)]
      congr 1; omega
theorem DenF.ofRow {ok : Nat → Prop} {b s : Nat} : ∀ (es : List T) (o : Nat), DenR w ok b s o es → ∃ vs, DenF w ok s es vs ∧ ∀ j, j < vs.length → w.cell? ⟨b, o + j, none⟩ = vs[j]?
  | [], o, _ => ⟨[], rfl, by simp⟩
  | e :: es, o, h => by
    obtain ⟨⟨a, ha, hc, hd⟩, hr⟩ := h
    obtain ⟨c, hf, hc'⟩ := DenF.ofRow es (o + s) hr
    refine ⟨a ++ c, ⟨a, c, rfl, ha, hd, hf⟩, fun j hj => ?_⟩
    by_cases hjs : j < s
    · rw [List.getElem?_append_left (by omega)]; exact hc j hjs
    · rw [List.getElem?_append_right (by omega), ha]
      rw [← hc' (j - s) (by simp at hj; omega)]
      congr 2; omega
theorem DenF.mono {w' : World} {ok ok' : Nat → Prop} {s : Nat} (hs : ∀ b, ok b → w'.heap[b]? = w.heap[b]?) (ho : ∀ b, ok b → ok' b) : ∀ (es : List T) (vs : List Value), DenF w ok s es vs → DenF w' ok' s es vs
  | [], _, h => h
  | e :: es, _, h => by
    obtain ⟨a, c, rfl, ha, hd, h⟩ := h
    exact ⟨a, c, rfl, ha, DenC.mono hs ho e a hd, DenF.mono hs ho es c h⟩
theorem DenF.replicate {ok : Nat → Prop} {s : Nat} {t : T} {z : List Value} (hz : z.length = s) (h : DenC w ok t z) : ∀ n, DenF w ok s (List.replicate n t) (List.replicate n z).flatten
  | 0 => rfl
  | n + 1 => ⟨z, _, by simp [List.replicate_succ], hz, h, DenF.replicate hz h n⟩
/-- the zero cells of a row, as the model writes them -/
theorem zeros_eq (z : Array Value) (n : Nat) : ((Array.range (n * z.size)).map (fun i => z[i % z.size]!)).toList = (List.replicate n z.toList).flatten := by
  induction n with
  | zero => simp
  | succ n ih =>
    have e : Array.range ((n + 1) * z.size) = Array.range (n * z.size) ++ (Array.range z.size).map (n * z.size + ·) := by
      apply Array.ext'
      simp [Array.toList_range, Nat.add_mul, List.range_add]
    rw [e, Array.map_append, Array.toList_append, ih, List.replicate_succ', List.flatten_append]
    congr 1
    apply List.ext_getElem?
    intro i
    simp only [Array.toList_map, Array.toList_range, List.map_map, List.flatten_cons, List.flatten_nil, List.append_nil]
    by_cases hi : i < z.size
    · simp [hi, Nat.mod_eq_of_lt hi]
    · simp [hi]
/-! A world with one block more. -/
def World.withRow (w : World) (cells : Array Value) (e : TypeId) : World := { w with heap := w.heap.push (.cells cells e) }
theorem run_newRow (e : TypeId) (cells : Array Value) : (newRow e cells).run P w = .ok ⟨w.heap.size, 0, none⟩ (World.withRow w cells e) := by
  simp [newRow, World.withRow]
theorem withRow_cell (cells : Array Value) (e : TypeId) (j : Nat) : (World.withRow w cells e).cell? ⟨w.heap.size, j, none⟩ = cells[j]? := by
  have h := push_new (w := w) (w' := World.withRow w cells e) (o := .cells cells e) rfl
  simp only [World.cell?, h]
  rfl
/-- A new row, in a frame. -/
theorem Rel.newRowU (h : Rel g σ tmps rts w) {l n s cap : Nat} {es : List T} {gr : Bool} {cells : Array Value} {e : TypeId} {vs : List Value} (hl : l ≤ σ.up.length) (hn : σ.obj l n = none)
    (hv : DenF w g.ok s es vs) (hc : ∀ j, j < vs.length → cells[j]? = vs[j]?) (hcap : es.length ≤ cap) (hroom : cap * s ≤ cells.size) :
    Rel (g.new w.heap.size (σ.up.length - l) n cap) (σ.setObj l n (some (.rw s es gr))) tmps rts (World.withRow w cells e) ∧
      VR (g.new w.heap.size (σ.up.length - l) n cap) (World.withRow w cells e) (σ.setObj l n (some (.rw s es gr))).O (σ.up.length + 1) (.row l n 0 es.length s) (.slice (some ⟨w.heap.size, 0, none⟩) es.length cap) := by
  have hw : (World.withRow w cells e).heap = w.heap.push (.cells cells e (0, 0)) := rfl
  have hs : ∀ b, g.ok b → (World.withRow w cells e).heap[b]? = w.heap[b]? := fun b hb => push_old hw (h.okb b hb)
  have hden : DenR (World.withRow w cells e) g.ok w.heap.size s 0 es := DenF.row hs es vs 0 hv (fun j hj => by rw [Nat.zero_add, withRow_cell]; exact hc j hj)
  have hloc : (g.new w.heap.size (σ.up.length - l) n cap).loc (σ.up.length - l) n = (w.heap.size, 0, cap) := by simp [Gh.new]
  have hO : (σ.setObj l n (some (.rw s es gr))).O (σ.up.length - l) n = some (.rw s es gr) := by
    have := St.O_setObj σ l n (some (.rw s es gr)) hl (σ.up.length - l) n
    simpa using this
  have R := Rel.newU (cap := cap) (o := .rw s es gr) h hl hn hw (fun g' O' hg' _ _ => by
    subst hg'
    refine .inr ⟨by rw [hloc]; simp [Gh.new], by rw [hloc]; exact hcap, cells, e, by rw [hloc]; exact push_new hw, by rw [hloc]; simpa using hroom, by rw [hloc]; exact hden⟩)
  refine ⟨R.1, by omega, _, _, rfl, ?_⟩
  have e1 : σ.up.length + 1 - 1 - l = σ.up.length - l := by omega
  rw [e1]
  simp only [RowV, hO]
  refine ⟨by first | rfl | trivial, by omega, hcap, .inr ⟨_, _, rfl, by simp [Gh.new], ?_, .inl ⟨by rw [hloc], by rw [hloc]; simp, by rw [hloc]; simp⟩⟩⟩
  have : slice 0 es.length es = es := by simp [slice]
  rw [this]; exact hden
/-- A new row. -/
theorem Rel.newRow (h : Rel g σ tmps rts w) {n s cap : Nat} {es : List T} {gr : Bool} {cells : Array Value} {e : TypeId} {vs : List Value} (hn : σ.obj 0 n = none)
    (hv : DenF w g.ok s es vs) (hc : ∀ j, j < vs.length → cells[j]? = vs[j]?) (hcap : es.length ≤ cap) (hroom : cap * s ≤ cells.size) :
    Rel (g.new w.heap.size σ.up.length n cap) (σ.setObj 0 n (some (.rw s es gr))) tmps rts (World.withRow w cells e) ∧
      VR (g.new w.heap.size σ.up.length n cap) (World.withRow w cells e) (σ.setObj 0 n (some (.rw s es gr))).O (σ.up.length + 1) (.row 0 n 0 es.length s) (.slice (some ⟨w.heap.size, 0, none⟩) es.length cap) :=
  Rel.newRowU (l := 0) h (Nat.zero_le _) hn hv hc hcap hroom
/-- A new box. -/
theorem Rel.newBox (h : Rel g σ tmps rts w) {n : Nat} {cs : List V} {vs : List Value} {e : TypeId} (hn : σ.obj 0 n = none) (hv : VRs g w σ.O (σ.up.length + 1) cs vs) (h1 : ∀ y ∈ vs, y.oneCell' = true) :
    Rel (g.new w.heap.size σ.up.length n 0) (σ.setObj 0 n (some (.box cs))) tmps rts (World.withRow w vs.toArray e) ∧
      VR (g.new w.heap.size σ.up.length n 0) (World.withRow w vs.toArray e) (σ.setObj 0 n (some (.box cs))).O (σ.up.length + 1) (.ptr 0 n 0) (.pointer (some ⟨w.heap.size, 0, none⟩)) := by
  have hw : (World.withRow w vs.toArray e).heap = w.heap.push (.cells vs.toArray e (0, 0)) := rfl
  have hloc : (g.new w.heap.size σ.up.length n 0).loc σ.up.length n = (w.heap.size, 0, 0) := by simp [Gh.new]
  have hO : (σ.setObj 0 n (some (.box cs))).O σ.up.length n = some (.box cs) := by
    have := St.O_setObj σ 0 n (some (.box cs)) (Nat.zero_le _) σ.up.length n
    simpa using this
  have R := Rel.new (cap := 0) (o := .box cs) h hn hw (fun g' O' hg' hO' K => by
    subst hg'; subst hO'
    exact ⟨by rw [hloc]; simp [Gh.new], vs, [], e, by rw [hloc, List.append_nil]; exact push_new hw, VRs.keep' K (Nat.le_refl _) hv, by rw [List.append_nil]; exact h1, by rw [hloc]; exact Nat.zero_le _⟩)
  refine ⟨R.1, by omega, ?_⟩
  have e1 : σ.up.length + 1 - 1 - 0 = σ.up.length := by omega
  rw [e1]
  exact PtrV.of hO (by rw [hloc])
theorem Adv.withRow {n cap : Nat} {cells : Array Value} {e : TypeId} : Adv g w (g.new w.heap.size σ.up.length n cap) (World.withRow w cells e) := Adv.new (σ := σ) rfl rfl rfl rfl
theorem Adv.withRowU {a n cap : Nat} {cells : Array Value} {e : TypeId} : Adv g w (g.new w.heap.size a n cap) (World.withRow w cells e) := Adv.newU rfl rfl rfl rfl

/-! Stores. -/
theorem put_append {α : Type} {off : Nat} {new l r : List α} (h : off + new.length ≤ l.length) : put off new (l ++ r) = put off new l ++ r := by
  unfold put
  rw [List.take_append_of_le_length (by omega), List.drop_append_of_le_length h]
  simp
theorem run_storeW {t : TypeId} {k b o : Nat} {x : Value} {cur : Array Value} {e : TypeId} (hk : wOf P t = some k) (hl : x.cells.size = wid k) (h1 : ∀ y ∈ x.cells.toList, y.oneCell' = true)
    (hh : w.heap[b]? = some (.cells cur e (0, 0))) (hfit : o + wid k ≤ cur.size) :
    (storeVar t ⟨b, o, none⟩ x).run P w = .ok () (w.setRow b (put o x.cells.toList cur.toList).toArray) := by
  obtain ⟨i, hi, hs⟩ := wOf_size hk
  unfold storeVar
  have hsz : (sizeOf t).run P w = .ok x.cells.size w := by simp [sizeOf, typeInfo, hi, hs, hl]
  rw [Sem.run_bind, hsz]
  simp only [Result.andThen_ok, ne_eq, not_true_eq_false, if_false]
  have hlen : x.cells.toList.length = wid k := by simpa using hl
  have := run_storeCells_at P b o e x.cells.toList 0 cur w hh (by rw [hlen]; simpa using hfit) h1
  simp only [Nat.add_zero] at this
  simp only [Vm.put]
  first | exact this | (simp only [Sem.run_bind, Sem.run_pure, Result.andThen_ok]; exact this)
theorem Rel.store (h : Rel g σ tmps rts w) {x y : V} {p q : Value} {t : TypeId} {k : Nat} {σ' : St} (hk : wOf P t = some k) (hx : VR g w σ.O (σ.up.length + 1) x p) (hy : VR g w σ.O (σ.up.length + 1) y q)
    (hpt : ∃ l n off, x = .ptr l n off) (hs : σ.store x y k = some σ') :
    ∃ w', (Instr.storeAt t p q).run P w = .ok () w' ∧ Rel g σ' tmps rts w' ∧ Adv g w g w' ∧ σ'.up.length = σ.up.length := by
  obtain ⟨l, n, off, rfl⟩ := hpt
  obtain ⟨hl, hp⟩ := hx
  have e1 : σ.up.length + 1 - 1 - l = σ.up.length - l := by omega
  rw [e1] at hp
  have hO' := St.O_obj σ l n (by omega)
  simp only [St.store] at hs
  split at hs
  · rename_i cs new hcs hnew
    have hO := hO'.trans hcs
    obtain rfl := hp.box hO
    split at hs
    · rename_i hfit
      cases hs
      cases hc : cellsOf k y with
      | none => rw [hc] at hnew; cases hnew
      | some c =>
        rw [hc] at hnew
        simp only [Option.bind_some] at hnew
        obtain ⟨hv, h1, hsz⟩ := VR.cells hc hy
        have hdn := VRs.down (k := l) _ _ _ hnew hv
        have e2 : σ.up.length + 1 - l = σ.up.length - l + 1 := by omega
        rw [e2] at hdn
        obtain ⟨hown, vs, rest, el, hh, hvs, hone, hcapb⟩ := h.ob (σ.up.length - l) n _ (by omega) hO
        have hlen := VRs.length _ _ hvs
        have hln := VRs.length _ _ hdn
        have hln' : q.cells.toList.length = wid k := by simpa using hsz
        have run := run_storeW (o := off) hk hsz h1 hh (by simp; omega)
        have run' : (Instr.storeAt t (.pointer (some ⟨(g.loc (σ.up.length - l) n).1, off, none⟩)) q).run P w = .ok () (w.setRow (g.loc (σ.up.length - l) n).1 (put off q.cells.toList (vs ++ rest).toArray.toList).toArray) := by
          simp only [Instr.storeAt, Instr.sureAddr, Sem.run_bind, Sem.run_pure, Result.andThen_ok]
          exact run
        refine ⟨_, run', ?_, Adv.own hown ?_ (fun c hc => setRow_other _ _ _ _ hc) rfl rfl rfl, St.up_setObj σ l n _ (by omega)⟩
        · have hpa : put off q.cells.toList (vs ++ rest) = put off q.cells.toList vs ++ rest := put_append (by omega)
          have hpl : (put off q.cells.toList vs).length = vs.length := put_length (by omega)
          refine Rel.box (elem := el) (vs := put off q.cells.toList vs) (rest := rest) h (by omega) (hO'.symm.trans hO) ?_ (fun c hc => setRow_other _ _ _ _ hc) ?_ (VRs.put hvs hdn) (fun y hy => ?_) (by rw [hpl]; exact hcapb) (by rw [put_length hfit]; exact Nat.le_refl _)
          · simp [World.setRow]
          · have := setRow_heap w _ _ (put off q.cells.toList (vs ++ rest).toArray.toList).toArray _ _ hh
            rw [← hpa]
            simpa using this
          · rcases List.mem_append.1 hy with hy | hy
            · rcases mem_put hy with hy | hy
              · exact h1 y hy
              · exact hone y (List.mem_append_left _ hy)
            · exact hone y (List.mem_append_right _ hy)
        · simp [World.setRow]
    · cases hs
  · cases hs
end
end Go.Proofs.YtcgjebaomhfbdaaGreat.Vm

