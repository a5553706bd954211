/- Runs by computing, quickly: operations. -/
import Derived.Test.YtcgjebaomhfbdaaGreatVmE2
namespace Go.Proofs.YtcgjebaomhfbdaaGreat.Vm
open Go
section
variable {τ : StF} {σ : St}
/-! Numbers. -/
def kEq (k k' : IntKind) : Bool := match k, k' with
  | .i64, .i64 => true
  | .u64, .u64 => true
  | .u8, .u8 => true
  | a, b => decide (a = b)
theorem kEq_eq (k k' : IntKind) : kEq k k' = decide (k = k') := by
  unfold kEq
  split <;> simp
def ltI : Int → Int → Bool
  | .ofNat m, .ofNat n => Nat.ble (m + 1) n
  | .negSucc _, .ofNat _ => true
  | .ofNat _, .negSucc _ => false
  | .negSucc m, .negSucc n => Nat.ble (n + 1) m
theorem ltI_eq (a b : Int) : ltI a b = decide (a < b) := by
  have ble : ∀ m n : Nat, Nat.ble m n = decide (m ≤ n) := fun m n => by
    by_cases h : m ≤ n
    · rw [Nat.ble_eq_true_of_le h, decide_eq_true h]
    · rw [decide_eq_false h]
      cases hb : Nat.ble m n with
      | false => rfl
      | true => exact absurd (Nat.le_of_ble_eq_true hb) h
  cases a with
  | ofNat m => cases b with
    | ofNat n => simp only [ltI, ble]; congr 1; simp only [Int.ofNat_eq_natCast, eq_iff_iff]; omega
    | negSucc n => simp only [ltI]; rw [eq_comm, decide_eq_false_iff_not]; simp only [Int.ofNat_eq_natCast]; omega
  | negSucc m => cases b with
    | ofNat n => simp only [ltI]; rw [eq_comm, decide_eq_true_iff]; simp only [Int.ofNat_eq_natCast]; omega
    | negSucc n => simp only [ltI, ble]; congr 1; simp only [eq_iff_iff]; omega
def eqI : Int → Int → Bool
  | .ofNat m, .ofNat n => Nat.beq m n
  | .negSucc m, .negSucc n => Nat.beq m n
  | _, _ => false
theorem eqI_eq (a b : Int) : eqI a b = (a == b) := by
  have beq : ∀ m n : Nat, Nat.beq m n = decide (m = n) := fun m n => by
    by_cases h : m = n
    · subst h; simp
    · rw [decide_eq_false h]
      cases hb : Nat.beq m n with
      | false => rfl
      | true => exact absurd (Nat.eq_of_beq_eq_true hb) h
  rw [show (a == b) = decide (a = b) from rfl]
  cases a with
  | ofNat m => cases b with
    | ofNat n => simp only [eqI, beq]; congr 1; simp only [Int.ofNat_eq_natCast, eq_iff_iff]; omega
    | negSucc n => simp only [eqI]; rw [eq_comm, decide_eq_false_iff_not]; simp only [Int.ofNat_eq_natCast]; omega
  | negSucc m => cases b with
    | ofNat n => simp only [eqI]; rw [eq_comm, decide_eq_false_iff_not]; simp only [Int.ofNat_eq_natCast]; omega
    | negSucc n => simp only [eqI, beq]; congr 1; simp only [eq_iff_iff]; omega
def wrapF (k : IntKind) (n : Int) : Int := match k with
  | .i64 => match n with
    | .ofNat m => match Nat.ble m 9223372036854775807 with
      | true => n
      | false => k.wrap n
    | .negSucc m => match Nat.ble m 9223372036854775807 with
      | true => n
      | false => k.wrap n
  | _ => k.wrap n
theorem wrap64 {n : Int} (h1 : -9223372036854775808 ≤ n) (h2 : n ≤ 9223372036854775807) : IntKind.i64.wrap n = n := by
  simp [IntKind.wrap, IntKind.bits, IntKind.signed]
  omega
theorem wrapF_eq (k : IntKind) (n : Int) : wrapF k n = k.wrap n := by
  cases k with
  | i64 =>
    cases n with
    | ofNat m =>
      simp only [wrapF]
      cases hb : Nat.ble m 9223372036854775807 with
      | false => rfl
      | true =>
        have := Nat.le_of_ble_eq_true hb
        exact (wrap64 (by simp only [Int.ofNat_eq_natCast]; omega) (by simp only [Int.ofNat_eq_natCast]; omega)).symm
    | negSucc m =>
      simp only [wrapF]
      cases hb : Nat.ble m 9223372036854775807 with
      | false => rfl
      | true =>
        have := Nat.le_of_ble_eq_true hb
        exact (wrap64 (n := Int.negSucc m) (by omega) (by omega)).symm
  | _ => rfl
def arithF (op : BinOp) : IntKind → Int → Int → Option T := match op with
  | .add => fun k a b => some (.int k (wrapF k (a + b)))
  | .sub => fun k a b => some (.int k (wrapF k (a - b)))
  | .mul => fun k a b => some (.int k (wrapF k (a * b)))
  | .eql => fun _ a b => some (.bool (eqI a b))
  | .neq => fun _ a b => some (.bool (match eqI a b with | true => false | false => true))
  | .lss => fun _ a b => some (.bool (ltI a b))
  | .geq => fun _ a b => some (.bool (match ltI a b with | true => false | false => true))
  | .gtr => fun _ a b => some (.bool (ltI b a))
  | .leq => fun _ a b => some (.bool (match ltI b a with | true => false | false => true))
  | op => arith op
theorem arithF_eq (op : BinOp) (k : IntKind) (a b : Int) : arithF op k a b = arith op k a b := by
  have nt : ∀ c : Bool, (match c with | true => false | false => true) = !c := fun c => by cases c <;> rfl
  cases op with
  | add => show some (T.int k (wrapF k (a + b))) = some (.int k (k.wrap (a + b))); rw [wrapF_eq]
  | sub => show some (T.int k (wrapF k (a - b))) = some (.int k (k.wrap (a - b))); rw [wrapF_eq]
  | mul => show some (T.int k (wrapF k (a * b))) = some (.int k (k.wrap (a * b))); rw [wrapF_eq]
  | eql => show some (T.bool (eqI a b)) = some (.bool (a == b)); rw [eqI_eq]
  | neq => show some (T.bool (match eqI a b with | true => false | false => true)) = some (.bool (a != b)); rw [nt, eqI_eq]; rfl
  | lss => show some (T.bool (ltI a b)) = some (.bool (decide (a < b))); rw [ltI_eq]
  | gtr => show some (T.bool (ltI b a)) = some (.bool (decide (a > b))); rw [ltI_eq]
  | geq =>
    show some (T.bool (match ltI a b with | true => false | false => true)) = some (.bool (decide (a ≥ b)))
    rw [nt, ltI_eq]; congr 2; rw [Bool.eq_iff_iff]; simp
  | leq =>
    show some (T.bool (match ltI b a with | true => false | false => true)) = some (.bool (decide (a ≤ b)))
    rw [nt, ltI_eq]; congr 2; rw [Bool.eq_iff_iff]; simp
  | _ => rfl
def binF (op : BinOp) : V → V → Option V := fun x y => match x, y with
  | .d _ (.int k a), .d _ (.int k' b) => match kEq k k' with
    | true => match arithF op k a b with
      | some t => some (.d true t)
      | none => none
    | false => bin op x y
  | _, _ => none
theorem binF_eq (op : BinOp) (x y : V) : binF op x y = bin op x y := by
  unfold binF
  split
  · split
    · rename_i p k a p' k' b _ h
      rw [kEq_eq, decide_eq_true_iff] at h
      subst h
      simp only [bin, true_or, if_true, arithF_eq]
      cases arith op k a b <;> rfl
    · rfl
  · rename_i hne
    unfold bin
    split
    · rename_i p k a p' k' b; exact absurd rfl (hne p k a p' k' b rfl)
    · rfl
def natOfF (len : Nat) : V → Option Nat
  | .d _ (.int _ (.ofNat m)) => match Nat.ble (m + 1) len with
    | true => some m
    | false => none
  | _ => none
theorem ble_dec (m n : Nat) : Nat.ble m n = decide (m ≤ n) := by
  by_cases h : m ≤ n
  · rw [Nat.ble_eq_true_of_le h, decide_eq_true h]
  · rw [decide_eq_false h]
    cases hb : Nat.ble m n with
    | false => rfl
    | true => exact absurd (Nat.le_of_ble_eq_true hb) h
theorem natOfF_eq (len : Nat) (v : V) : natOfF len v = natOf len v := by
  unfold natOfF
  split
  · rename_i p k m
    rw [ble_dec]
    simp only [natOf, Int.ofNat_eq_natCast]
    by_cases h : m + 1 ≤ len
    · rw [decide_eq_true h, if_pos ⟨by omega, by omega⟩]; rfl
    · rw [decide_eq_false h, if_neg (by omega)]
  · rename_i hne
    unfold natOf
    split
    · rename_i p k i
      cases i with
      | ofNat m => exact absurd rfl (hne p k m)
      | negSucc m => rw [if_neg (by omega)]
    · rfl
/-! Operands. -/
noncomputable def valF (x : X) : StF → V := match x with
  | .t n => fun τ => τ.t.get n
  | .c v => fun _ => v
noncomputable def valsF (xs : List X) : StF → List V := match xs with
  | [] => fun _ => []
  | x :: xs => fun τ => valF x τ :: valsF xs τ
theorem valF_eq (h : τ.Wf) (x : X) : valF x τ = τ.abs.val x := by
  cases x with
  | t n => exact (StF.get_abs h n).symm
  | c v => rfl
theorem valsF_eq (h : τ.Wf) : ∀ xs : List X, valsF xs τ = τ.abs.vals xs
  | [] => rfl
  | x :: xs => by
    show valF x τ :: valsF xs τ = τ.abs.val x :: τ.abs.vals xs
    rw [valF_eq h, valsF_eq h xs]
noncomputable def wantsF (g : Option (Nat × Bool)) : StF → Option Bool := match g with
  | none => fun _ => some true
  | some (t, b) => fun τ => match τ.t.get t with
    | .d _ (.bool c) => some (match b with | true => c | false => match c with | true => false | false => true)
    | .tp [] => some false
    | _ => none
theorem wantsF_eq (h : τ.Wf) (g : Option (Nat × Bool)) : wantsF g τ = τ.abs.wants g := by
  cases g with
  | none => rfl
  | some p =>
    obtain ⟨t, b⟩ := p
    have e := StF.get_abs h t
    simp only [wantsF, St.wants]
    rw [e]
    cases τ.t.get t with
    | d p tt => cases tt with
      | bool c => cases b <;> cases c <;> rfl
      | _ => rfl
    | tp vs => cases vs <;> rfl
    | _ => rfl
noncomputable def putV (d : Nat) (o : Option V) (τ : StF) : Option StF := match o with
  | some v => some (τ.set d v)
  | none => none
noncomputable def putS (o : Option St) (τ : StF) : Option StF := match o with
  | some ρ => some (τ.put ρ)
  | none => none
/-- the object and the slot of an operation that makes something -/
noncomputable def putO (d l n : Nat) (o : Ob) (v : V) (τ : StF) : StF := (τ.put (τ.core.setObj l n (some o))).set d v
def ixF (σ : St) (x i : V) (s : Nat) : Option V :=
  match x with
  | .d _ (.lst s' es) => match Nat.beq s s' with
    | true => match natOfF es.length i with
      | some j => match es[j]? with
        | some t => some (.pd t)
        | none => none
      | none => none
    | false => σ.ix x i s
  | x => σ.ix x i s
theorem ixF_eq (x i : V) (s : Nat) : ixF σ x i s = σ.ix x i s := by
  unfold ixF
  split
  · rename_i p s' es
    split
    · rename_i h
      have := Nat.eq_of_beq_eq_true h
      subst this
      simp only [St.ix, if_true, natOfF_eq]
      cases natOf es.length i with
      | none => rfl
      | some j => simp only [Option.bind_some]; cases es[j]? <;> rfl
    · rfl
  · rfl
noncomputable def stepF (i : I) : StF → Option StF := match i with
  | .mv d x => fun τ => some (τ.set d (valF x τ))
  | .pick d c a b => fun τ => match valF c τ with
    | .d _ (.bool true) => some (τ.set d (valF a τ))
    | .d _ (.bool false) => some (τ.set d (valF b τ))
    | _ => none
  | .bin d op x y => fun τ => putV d (binF op (valF x τ) (valF y τ)) τ
  | .beq d ne x y => fun τ => putV d (beq ne (valF x τ) (valF y τ)) τ
  | .eqs d ne ks x y => fun τ => match valF x τ, valF y τ with
    | .ag as, .ag bs => match eqs ks as bs with
      | some b => some (τ.set d (dBool (b != ne)))
      | none => none
    | _, _ => none
  | .un d op x => fun τ => putV d (un op (valF x τ)) τ
  | .cvt d k x => fun τ => match valF x τ with
    | .d _ (.int _ n) => some (τ.set d (.d true (.int k (wrapF k n))))
    | _ => none
  | .load d x w => fun τ => putV d (τ.core.load (valF x τ) w) τ
  | .fad d x off w => fun τ => putV d (fad (valF x τ) off w) τ
  | .fval d x off w => fun τ => match valF x τ with
    | .ag cs => putV d ((sub? off (wid w) cs).bind (ofCells w)) τ
    | _ => none
  | .ix d x i s => fun τ => putV d (ixF τ.core (valF x τ) (valF i τ) s) τ
  | .ixb d x i n s => fun τ => match valF x τ with
    | .ptr l m off => match natOfF n (valF i τ) with
      | some j => some (τ.set d (.ptr l m (off + j * s)))
      | none => none
    | _ => none
  | .ixa d x i n w => fun τ => match valF x τ with
    | .ag cs => match natOfF n (valF i τ) with
      | some j => putV d ((sub? (j * wid w) (wid w) cs).bind (ofCells w)) τ
      | none => none
    | _ => none
  | .stx d bs i => fun τ => putV d (stx bs (valF i τ)) τ
  | .bld d z ps => fun τ => match z.mapM Z.v with
    | some cs => match fill cs (ps.map fun (o, w, x) => (o, w, valF x τ)) with
      | some cs => some (τ.set d (.ag cs))
      | none => none
    | none => none
  | .slc d s x lo hi mx => fun τ => putV d (St.slc s (valF x τ) (lo.map (valF · τ)) (hi.map (valF · τ)) (mx.map (valF · τ))) τ
  | .len d x => fun τ => match lenOf (valF x τ) with
    | some n => some (τ.set d (.d true (.int .i64 (.ofNat n))))
    | none => none
  | .mx d x xs => fun τ => putV d (maxOf true (valF x τ) (valsF xs τ)) τ
  | .mn d x xs => fun τ => putV d (maxOf false (valF x τ) (valsF xs τ)) τ
  | .xt d x i => fun τ => match valF x τ with
    | .tp vs => putV d vs[i]? τ
    | _ => none
  | .fn d f caps => fun τ => some (τ.set d (.cl f (valsF caps τ)))
  | .chk d x => fun τ => putV d (chkV (valF x τ)) τ
  | .store x y w => fun τ => putS (τ.core.store (valF x τ) (valF y τ) w) τ
  | .clr s x z => fun τ => match z.t? with
    | some t => putS (τ.core.clr s (valF x τ) t) τ
    | none => none
  | .app d nm s x y => fun τ => match appN τ.core s nm (valF x τ) (valF y τ) with
    | some (l, n, o, v) => some (putO d l n o v τ)
    | none => none
  | .cpy d s x y => fun τ => match τ.core.els s (valF y τ), valF x τ with
    | some ys, .row l n lo len s' => if s = s' then match τ.core.obj l n with
        | some (.rw _ es false) => if lo + len ≤ es.length then some (putO d l n (.rw s (Vm.put lo (ys.take len) es) false) (dInt (ys.take len).length) τ) else none
        | _ => none
      else none
    | _, _ => none
  | .nilr d nm s => fun τ => match τ.core.new nm (.rw s [] false) with
    | some ρ => some ((τ.put ρ).set d (.row 0 nm 0 0 s))
    | none => none
  | .alloc d nm z => fun τ => match zcells τ.core z with
    | some (cs, ρ) => match ρ.new nm (.box cs) with
      | some ρ => some ((τ.put ρ).set d (.ptr 0 nm 0))
      | none => none
    | none => none
  | .box d nm x w => fun τ => match cellsOf w (valF x τ) with
    | some cs => match τ.core.new nm (.box cs) with
      | some ρ => some ((τ.put ρ).set d (.ptr 0 nm 0))
      | none => none
    | none => none
  | .bsl d nm s n z ps => fun τ => match τ.core.toTs (ps.map fun p => valF p.2 τ), z.t? with
    | some (ts, ns), some t => match flatFill t ts (fillT (List.replicate n t) s ((ps.map (·.1)).zip ts)) with
      | some es => match (τ.core.frz ns).new nm (.rw s es false) with
        | some ρ => some ((τ.put ρ).set d (.row 0 nm 0 n s))
        | none => none
      | none => none
    | _, _ => none
  | .mks d nm s n c z => fun τ => match bnd big (valF n τ), bnd big (valF c τ), z.t? with
    | some n, some c, some t => if n = c then match τ.core.new nm (.rw s (List.replicate n t) false) with
        | some ρ => some ((τ.put ρ).set d (.row 0 nm 0 n s))
        | none => none
      else none
    | _, _, _ => none
  | .mkl d l nm s n c z => fun τ => match bnd big (valF n τ), bnd big (valF c τ), z.t? with
    | some n, some c, some t => if n = c then match τ.core.newL l nm (.rw s (List.replicate n t) false) with
        | some ρ => some ((τ.put ρ).set d (.row l nm 0 n s))
        | none => none
      else none
    | _, _, _ => none
  | .apl d l nm s x y => fun τ => match valF x τ with
    | .nil s' => match τ.core.els s (valF y τ) with
      | none => none
      | some ys => if s = s' ∧ 0 < ys.length ∧ ys.length ≤ big then match τ.core.newL l nm (.rw s ys true) with
          | some ρ => some ((τ.put ρ).set d (.row l nm 0 ys.length s))
          | none => none
        else none
    | .row l' n' lo len s' => match appN τ.core s nm (.row l' n' lo len s') (valF y τ) with
      | some (l, n, o, v) => some (putO d l n o v τ)
      | none => none
    | _ => none
  | .ixv d x i => fun τ => putV d (τ.core.ixv (valF x τ) (valF i τ)) τ
  | .bsv d nm xs => fun τ => match (valsF xs τ).all isOne with
    | true => match τ.core.new nm (.box (valsF xs τ)) with
      | some ρ => some ((τ.put ρ).set d (.row 0 nm 0 xs.length 1))
      | none => none
    | false => none
  | .apv d nm x y => fun τ => match valF y τ with
    | .row l m lo k s => if l = 0 ∧ lo = 0 ∧ s = 1 then match τ.core.obj 0 m with
      | some (.box ds) => if ds.length = k ∧ 0 < k ∧ k ≤ big then match valF x τ with
        | .nil s => if s = 1 then match τ.core.new nm (.box ds) with
            | some ρ => some ((τ.put ρ).set d (.row 0 nm 0 k 1))
            | none => none
          else none
        | .row l n lo len s => if l = 0 ∧ lo = 0 ∧ s = 1 ∧ n ≠ m ∧ n ≠ nm then match τ.core.obj 0 n with
          | some (.box cs) => if cs.length = len ∧ 0 < len ∧ len + k ≤ big then match (τ.core.setObj 0 n (some .gone)).new nm (.box (cs ++ ds)) with
              | some ρ => some ((τ.put ρ).set d (.row 0 nm 0 (len + k) 1))
              | none => none
            else none
          | _ => none
          else none
        | _ => none
        else none
      | _ => none
      else none
    | _ => none
  | .call .. | .callv .. | .bad => fun _ => none
/-- one computation of two -/
def Two (a : Option StF) (b : Option St) : Prop := ∀ τ', a = some τ' → b = some τ'.abs ∧ τ'.Wf
theorem two_set (h : τ.Wf) (d : Nat) (v : V) : Two (some (τ.set d v)) (some (τ.abs.set d v)) := fun τ' e => by cases e; exact ⟨by rw [StF.set_abs h], StF.set_wf h d v⟩
theorem two_putV (h : τ.Wf) (d : Nat) (o : Option V) : Two (putV d o τ) (o.map (τ.abs.set d)) := by
  cases o with
  | none => intro τ' e; cases e
  | some v => exact two_set h d v
theorem two_put (h : τ.Wf) (o : Option St) : Two (putS o τ) (o.map (·.wsl τ.abs.sl)) := by
  cases o with
  | none => intro τ' e; cases e
  | some ρ => intro τ' e; cases e; exact ⟨rfl, h⟩
theorem two_none (b : Option St) : Two none b := fun τ' e => by cases e
theorem two_putset (h : τ.Wf) (ρ : St) (d : Nat) (v : V) : Two (some ((τ.put ρ).set d v)) (some ((ρ.wsl τ.abs.sl).set d v)) := fun τ' e => by
  cases e
  exact ⟨by rw [StF.set_abs (StF.put_wf h ρ), StF.put_abs], StF.set_wf (StF.put_wf h ρ) d v⟩
theorem two_new (h : τ.Wf) (ρ : St) (nm d : Nat) (o : Ob) (v : V) : Two (match ρ.new nm o with
    | some ρ => some ((τ.put ρ).set d v)
    | none => none) (((ρ.wsl τ.abs.sl).new nm o).map fun σ => σ.set d v) := by
  rw [new_wsl]
  cases ρ.new nm o with
  | none => exact two_none _
  | some ρ' => exact two_putset h ρ' d v
theorem two_newL (h : τ.Wf) (ρ : St) (l nm d : Nat) (o : Ob) (v : V) : Two (match ρ.newL l nm o with
    | some ρ => some ((τ.put ρ).set d v)
    | none => none) (((ρ.wsl τ.abs.sl).newL l nm o).map fun σ => σ.set d v) := by
  rw [newL_wsl]
  cases ρ.newL l nm o with
  | none => exact two_none _
  | some ρ' => exact two_putset h ρ' d v
theorem stepF_two (h : τ.Wf) (i : I) : Two (stepF i τ) (step τ.abs i) := by
  have hv := valF_eq h
  have hload : ∀ x k, τ.core.load x k = τ.abs.load x k := fun x k => (load_wsl x k).symm
  have hels : ∀ s x, τ.core.els s x = τ.abs.els s x := fun s x => (els_wsl s x).symm
  have hobj : ∀ l n, τ.core.obj l n = τ.abs.obj l n := fun l n => (obj_wsl l n).symm
  cases i with
  | mv d x => simp only [stepF, step, hv]; exact two_set h _ _
  | pick d c a b =>
    simp only [stepF, step, hv]
    split
    · rename_i p e; rw [e]; simp only [if_true]; exact two_set h _ _
    · rename_i p e; rw [e]; simp only [Bool.false_eq_true, if_false]; exact two_set h _ _
    · exact two_none _
  | bin d op x y => simp only [stepF, step, hv, binF_eq]; exact two_putV h _ _
  | beq d ne x y => simp only [stepF, step, hv]; exact two_putV h _ _
  | eqs d ne ks x y =>
    simp only [stepF, step, hv]
    split
    · rename_i as bs e1 e2
      rw [e1, e2]
      simp only
      cases eqs ks as bs with
      | none => exact two_none _
      | some b => exact two_set h _ _
    · exact two_none _
  | un d op x => simp only [stepF, step, hv]; exact two_putV h _ _
  | cvt d k x =>
    simp only [stepF, step, hv, wrapF_eq]
    split
    · rename_i e; rw [e]; exact two_set h _ _
    · exact two_none _
  | load d x w => simp only [stepF, step, hv, hload]; exact two_putV h _ _
  | fad d x off w => simp only [stepF, step, hv]; exact two_putV h _ _
  | fval d x off w =>
    simp only [stepF, step, hv]
    split
    · rename_i e; rw [e]; exact two_putV h _ _
    · exact two_none _
  | ix d x i s =>
    simp only [stepF, step, hv, ixF_eq]
    rw [show τ.core.ix (τ.abs.val x) (τ.abs.val i) s = τ.abs.ix (τ.abs.val x) (τ.abs.val i) s from (ix_wsl (σ := τ.core) (sl := τ.abs.sl) _ _ _).symm]
    exact two_putV h _ _
  | ixb d x i n s =>
    simp only [stepF, step, hv, natOfF_eq]
    split
    · rename_i e
      rw [e]
      simp only
      cases natOf n (τ.abs.val i) with
      | none => exact two_none _
      | some j => exact two_set h _ _
    · exact two_none _
  | ixa d x i n w =>
    simp only [stepF, step, hv, natOfF_eq]
    split
    · rename_i e
      rw [e]
      simp only
      cases natOf n (τ.abs.val i) with
      | none => exact two_none _
      | some j => simp only [Option.bind_some]; exact two_putV h _ _
    · exact two_none _
  | stx d bs i => simp only [stepF, step, hv]; exact two_putV h _ _
  | bld d z ps =>
    simp only [stepF, step, hv]
    cases z.mapM Z.v with
    | none => exact two_none _
    | some cs =>
      simp only
      cases fill cs (ps.map fun (o, w, x) => (o, w, τ.abs.val x)) with
      | none => exact two_none _
      | some cs => exact two_set h _ _
  | slc d s x lo hi mx =>
    simp only [stepF, step, hv]
    exact two_putV h _ _
  | len d x =>
    simp only [stepF, step, hv]
    cases lenOf (τ.abs.val x) with
    | none => exact two_none _
    | some n => exact two_set h _ _
  | mx d x xs => simp only [stepF, step, hv, valsF_eq h]; exact two_putV h _ _
  | mn d x xs => simp only [stepF, step, hv, valsF_eq h]; exact two_putV h _ _
  | xt d x i =>
    simp only [stepF, step, hv]
    split
    · rename_i e; rw [e]; exact two_putV h _ _
    · exact two_none _
  | fn d f caps => simp only [stepF, step, valsF_eq h]; exact two_set h _ _
  | chk d x => simp only [stepF, step, hv]; exact two_putV h _ _
  | store x y w =>
    simp only [stepF, step, hv]
    rw [show τ.abs.store (τ.abs.val x) (τ.abs.val y) w = (τ.core.store (τ.abs.val x) (τ.abs.val y) w).map (·.wsl τ.abs.sl) from store_wsl (σ := τ.core) (sl := τ.abs.sl) _ _ _]
    exact two_put h _
  | clr s x z =>
    simp only [stepF, step, hv]
    cases z.t? with
    | none => exact two_none _
    | some t =>
      simp only [Option.bind_some]
      rw [show τ.abs.clr s (τ.abs.val x) t = (τ.core.clr s (τ.abs.val x) t).map (·.wsl τ.abs.sl) from clr_wsl (σ := τ.core) (sl := τ.abs.sl) _ _ _]
      exact two_put h _
  | app d nm s x y =>
    simp only [stepF, hv]
    rw [step_appE, show appN τ.abs s nm (τ.abs.val x) (τ.abs.val y) = appN τ.core s nm (τ.abs.val x) (τ.abs.val y) from appN_wsl (σ := τ.core) (sl := τ.abs.sl) _ _ _ _]
    cases appN τ.core s nm (τ.abs.val x) (τ.abs.val y) with
    | none => exact two_none _
    | some q =>
      obtain ⟨l, n, o, v⟩ := q
      simp only [Option.map_some]
      have := two_putset h (τ.core.setObj l n (some o)) d v
      rw [← setObj_wsl] at this
      exact this
  | cpy d s x y =>
    simp only [stepF, step, hv, St.cpy, hels, hobj]
    split
    · rename_i ys l n lo len s' e1 e2
      rw [e1, e2]
      simp only
      split
      · split
        · rename_i ss es ho
          rw [ho]
          simp only
          split
          · have := two_putset h (τ.core.setObj l n (some (.rw s (Vm.put lo (ys.take len) es) false))) d (dInt (ys.take len).length)
            rw [← setObj_wsl] at this
            exact this
          · exact two_none _
        · exact two_none _
      · exact two_none _
    · exact two_none _
  | nilr d nm s => simp only [stepF, step]; exact two_new h τ.core nm d _ _
  | alloc d nm z =>
    simp only [stepF, step]
    rw [show zcells τ.abs z = (zcells τ.core z).map fun p => (p.1, p.2.wsl τ.abs.sl) from zcells_wsl (sl := τ.abs.sl) z (σ := τ.core)]
    cases zcells τ.core z with
    | none => exact two_none _
    | some q => obtain ⟨cs, ρ⟩ := q; exact two_new h ρ nm d _ _
  | box d nm x w =>
    simp only [stepF, step, hv]
    cases cellsOf w (τ.abs.val x) with
    | none => exact two_none _
    | some cs => exact two_new h τ.core nm d _ _
  | bsl d nm s n z ps =>
    simp only [stepF, step, hv]
    rw [show τ.abs.toTs (ps.map fun p => τ.abs.val p.2) = τ.core.toTs (ps.map fun p => τ.abs.val p.2) from toTs_wsl (σ := τ.core) (sl := τ.abs.sl) _]
    cases τ.core.toTs (ps.map fun p => τ.abs.val p.2) with
    | none => exact two_none _
    | some q =>
      obtain ⟨ts, ns⟩ := q
      cases z.t? with
      | none => exact two_none _
      | some t =>
        simp only
        cases flatFill t ts _ with
        | none => exact two_none _
        | some es =>
          simp only
          rw [show τ.abs.frz ns = (τ.core.frz ns).wsl τ.abs.sl from frz_wsl (sl := τ.abs.sl) ns (σ := τ.core)]
          exact two_new h (τ.core.frz ns) nm d _ _
  | mks d nm s n c z =>
    simp only [stepF, step, hv]
    cases bnd big (τ.abs.val n) with
    | none => exact two_none _
    | some a => cases bnd big (τ.abs.val c) with
      | none => exact two_none _
      | some b => cases z.t? with
        | none => exact two_none _
        | some t =>
          simp only
          split
          · exact two_new h τ.core nm d _ _
          · exact two_none _
  | mkl d l nm s n c z =>
    simp only [stepF, step, hv]
    cases bnd big (τ.abs.val n) with
    | none => exact two_none _
    | some a => cases bnd big (τ.abs.val c) with
      | none => exact two_none _
      | some b => cases z.t? with
        | none => exact two_none _
        | some t =>
          simp only
          split
          · exact two_newL h τ.core l nm d _ _
          · exact two_none _
  | apl d l nm s x y =>
    simp only [stepF, step, hv]
    unfold St.apl
    cases τ.abs.val x with
    | nil s' =>
      simp only
      rw [show τ.abs.els s (τ.abs.val y) = τ.core.els s (τ.abs.val y) from els_wsl (σ := τ.core) (sl := τ.abs.sl) _ _]
      cases τ.core.els s (τ.abs.val y) with
      | none => exact two_none _
      | some ys =>
        simp only
        split
        · exact two_newL h τ.core l nm d _ _
        · exact two_none _
    | row l' n' lo len s' =>
      simp only
      rw [app_N, show appN τ.abs s nm (.row l' n' lo len s') (τ.abs.val y) = appN τ.core s nm (.row l' n' lo len s') (τ.abs.val y) from appN_wsl (σ := τ.core) (sl := τ.abs.sl) _ _ _ _]
      cases appN τ.core s nm (.row l' n' lo len s') (τ.abs.val y) with
      | none => exact two_none _
      | some q =>
        obtain ⟨l, n, o, v⟩ := q
        simp only [Option.map_some]
        have := two_putset h (τ.core.setObj l n (some o)) d v
        rw [← setObj_wsl] at this
        exact this
    | _ => exact two_none _
  | ixv d x i =>
    simp only [stepF, step, hv]
    rw [show τ.abs.ixv (τ.abs.val x) (τ.abs.val i) = τ.core.ixv (τ.abs.val x) (τ.abs.val i) from ixv_wsl (σ := τ.core) (sl := τ.abs.sl) _ _]
    exact two_putV h _ _
  | bsv d nm xs =>
    simp only [stepF, step, valsF_eq h]
    cases (τ.abs.vals xs).all isOne with
    | true => simp only [if_true]; exact two_new h τ.core nm d _ _
    | false => exact two_none _
  | apv d nm x y =>
    simp only [stepF, step, hv]
    unfold St.apv
    cases τ.abs.val y with
    | row l m lo k s =>
      simp only [hobj]
      split
      · cases τ.abs.obj 0 m with
        | none => exact two_none _
        | some o => cases o with
          | box ds =>
            simp only
            split
            · cases τ.abs.val x with
              | nil s2 =>
                simp only
                split
                · exact two_new h τ.core nm d _ _
                · exact two_none _
              | row l2 n lo2 len s2 =>
                simp only
                split
                · cases τ.abs.obj 0 n with
                  | none => exact two_none _
                  | some o2 => cases o2 with
                    | box cs =>
                      simp only
                      split
                      · rw [show τ.abs.setObj 0 n (some .gone) = (τ.core.setObj 0 n (some .gone)).wsl τ.abs.sl from setObj_wsl (σ := τ.core) (sl := τ.abs.sl) _ _ _]
                        exact two_new h (τ.core.setObj 0 n (some .gone)) nm d _ _
                      · exact two_none _
                    | _ => exact two_none _
                · exact two_none _
              | _ => exact two_none _
            · exact two_none _
          | _ => exact two_none _
      · exact two_none _
    | _ => exact two_none _
  | call d f as rm => exact two_none _
  | callv d x as rm => exact two_none _
  | bad => exact two_none _
end
end Go.Proofs.YtcgjebaomhfbdaaGreat.Vm
