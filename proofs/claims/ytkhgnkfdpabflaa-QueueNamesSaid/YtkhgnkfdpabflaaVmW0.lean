/- What printed walks lean on: loops as least fixed points, and the machine's operations over typed data. -/
import Derived.Test.YtkhgnkfdpabflaaVmP1
import Derived.Attr
namespace Go.Proofs.Ytkhgnkfdpabflaa.Vm
open Go
set_option linter.unusedVariables false
set_option linter.unusedSimpArgs false
def itn {S R : Type} (f : S → Option (S ⊕ R)) : Nat → S → Option R
  | 0, _ => none
  | n + 1, s => match f s with
    | none => none
    | some (.inl s') => itn f n s'
    | some (.inr r) => some r
open Classical in
noncomputable def Lp {S R : Type} (f : S → Option (S ⊕ R)) (s : S) : Option R := if h : ∃ n r, itn f n s = some r then some h.choose_spec.choose else none
theorem itn_mono {S R : Type} {f : S → Option (S ⊕ R)} : ∀ {n : Nat} {s : S} {r : R}, itn f n s = some r → itn f (n + 1) s = some r
  | 0, s, r, h => by cases h
  | n + 1, s, r, h => by
    unfold itn at h ⊢
    split at h
    · cases h
    · rename_i s' _; exact itn_mono h
    · exact h
theorem itn_le {S R : Type} {f : S → Option (S ⊕ R)} {s : S} {r : R} {n : Nat} : ∀ {m : Nat}, n ≤ m → itn f n s = some r → itn f m s = some r
  | 0, h, k => by have : n = 0 := by omega
                  subst this; exact k
  | m + 1, h, k => by
    by_cases e : n = m + 1
    · subst e; exact k
    · exact itn_mono (itn_le (by omega) k)
theorem Lp_some {S R : Type} {f : S → Option (S ⊕ R)} {s : S} {r : R} : Lp f s = some r ↔ ∃ n, itn f n s = some r := by
  unfold Lp
  constructor
  · intro h
    split at h
    · rename_i hx; cases h; exact ⟨hx.choose, hx.choose_spec.choose_spec⟩
    · cases h
  · rintro ⟨n, h⟩
    have hx : ∃ n r, itn f n s = some r := ⟨n, r, h⟩
    rw [dif_pos hx]
    have h1 := hx.choose_spec.choose_spec
    have a := itn_le (Nat.le_max_left n hx.choose) h
    have b := itn_le (Nat.le_max_right n hx.choose) h1
    rw [a] at b; cases b; rfl
noncomputable def lpK {S R : Type} (f : S → Option (S ⊕ R)) : S ⊕ R → Option R
  | .inl s => Lp f s
  | .inr r => some r
theorem Lp_eq {S R : Type} (f : S → Option (S ⊕ R)) (s : S) : Lp f s = (f s).bind (lpK f) := by
  cases hb : (f s).bind (lpK f) with
  | some r =>
    obtain ⟨x, hx, hr⟩ := Option.bind_eq_some_iff.1 hb
    rw [Lp_some]
    cases x with
    | inl s' => obtain ⟨n, hn⟩ := Lp_some.1 hr; exact ⟨n + 1, by simp [itn, hx, hn]⟩
    | inr r' => cases hr; exact ⟨1, by simp [itn, hx]⟩
  | none =>
    cases hl : Lp f s with
    | none => rfl
    | some r =>
      obtain ⟨n, hn⟩ := Lp_some.1 hl
      cases n with
      | zero => cases hn
      | succ n =>
        unfold itn at hn
        cases hf : f s with
        | none => rw [hf] at hn; cases hn
        | some x =>
          rw [hf] at hn hb
          cases x with
          | inl s' =>
            have : Lp f s' = some r := Lp_some.2 ⟨n, hn⟩
            simp [lpK, this] at hb
          | inr r' => simp [lpK] at hb
theorem Lp_step {S R : Type} {f : S → Option (S ⊕ R)} {s s' : S} (h : f s = some (.inl s')) : Lp f s = Lp f s' := by rw [Lp_eq, h]; rfl
theorem Lp_out {S R : Type} {f : S → Option (S ⊕ R)} {s : S} {r : R} (h : f s = some (.inr r)) : Lp f s = some r := by rw [Lp_eq, h]; rfl
theorem Lp_ind {S R : Type} {f : S → Option (S ⊕ R)} {P : S → R → Prop} (h1 : ∀ s r, f s = some (.inr r) → P s r) (h2 : ∀ s s' r, f s = some (.inl s') → P s' r → P s r) {s : S} {r : R} (h : Lp f s = some r) : P s r := by
  obtain ⟨n, hn⟩ := Lp_some.1 h
  induction n generalizing s with
  | zero => cases hn
  | succ n ih =>
    unfold itn at hn
    cases hf : f s with
    | none => rw [hf] at hn; cases hn
    | some x =>
      rw [hf] at hn
      cases x with
      | inl s' => exact h2 s s' r hf (ih (Lp_some.2 ⟨n, hn⟩) hn)
      | inr r' => cases hn; exact h1 _ _ hf
def LQ {S R : Type} (I : S → St → Prop) (J : R → Ex → St → Prop) : S ⊕ R → Ex → St → Prop
  | .inl s, e, σ => e = .normal ∧ I s σ
  | .inr r, e, σ => e ≠ .normal ∧ J r e σ
theorem LQ_inl {S R : Type} {I : S → St → Prop} {J : R → Ex → St → Prop} {s : S} {e : Ex} {σ : St} : LQ I J (.inl s) e σ = (e = .normal ∧ I s σ) := rfl
theorem LQ_inr {S R : Type} {I : S → St → Prop} {J : R → Ex → St → Prop} {r : R} {e : Ex} {σ : St} : LQ I J (.inr r) e σ = (e ≠ .normal ∧ J r e σ) := rfl
theorem WC_Lp {E : Env} {S R : Type} {c : C} {f : S → Option (S ⊕ R)} (I : S → St → Prop) (J : R → Ex → St → Prop) (hs : ∀ s σ x, I s σ → f s = some x → WC E c σ (LQ I J x)) {s : S} {r : R} (h : Lp f s = some r) {σ : St} {Q : Ex → St → Prop}
    (hI : I s σ) (hQ : ∀ e σ', J r e σ' → Q e σ') : WC E (.loop c) σ Q := by
  revert σ hI hQ
  refine Lp_ind (P := fun s r => ∀ {σ : St}, I s σ → (∀ e σ', J r e σ' → Q e σ') → WC E (.loop c) σ Q) ?_ ?_ h
  · intro s r hf σ hI hQ
    rw [WC_loop]
    refine WC.mono (hs s σ _ hI hf) fun e σ' hJ => ?_
    obtain ⟨hn, hJ⟩ := hJ
    cases e with
    | normal => exact absurd rfl hn
    | exit i => exact hQ _ _ hJ
    | ret => exact hQ _ _ hJ
  · intro s s' r hf ih σ hI hQ
    rw [WC_loop]
    refine WC.mono (hs s σ _ hI hf) fun e σ' hJ => ?_
    obtain ⟨rfl, hI'⟩ := hJ
    exact ih hI' hQ
theorem bsome {α β : Type} {o : Option α} {f : α → Option β} {r : β} (h : o.bind f = some r) : ∃ x, o = some x ∧ f x = some r := Option.bind_eq_some_iff.1 h
theorem need {α : Type} {p : Prop} [Decidable p] {a : Option α} {r : α} (h : (if p then a else none) = some r) : p ∧ a = some r := by
  split at h
  · exact ⟨‹_›, h⟩
  · cases h
theorem itb {α : Type} {c : Bool} {a b : Option α} {r : α} (h : (if c = true then a else b) = some r) : (c = true ∧ a = some r) ∨ (c = false ∧ b = some r) := by
  cases c
  · exact .inr ⟨rfl, by simpa using h⟩
  · exact .inl ⟨rfl, by simpa using h⟩
def eI (n : Int) : T := .int .i64 n
def eU8 (n : Int) : T := .int .u8 n
def eU64 (n : Int) : T := .int .u64 n
def eB (b : Bool) : T := .bool b
def eL {α : Type} (s : Nat) (f : α → T) (l : List α) : T := .lst s (l.map f)
def idx {α : Type} (l : List α) (i : Int) : Option α := if 0 ≤ i ∧ i < (l.length : Int) then l[i.toNat]? else none
theorem idx_some {α : Type} {l : List α} {i : Int} {x : α} (h : idx l i = some x) : 0 ≤ i ∧ i < (l.length : Int) ∧ l[i.toNat]? = some x := by
  unfold idx at h
  split at h
  · rename_i hc; exact ⟨hc.1, hc.2, h⟩
  · cases h
def inW (n : Nat) (i : Int) : Prop := 0 ≤ i ∧ i < (n : Int)
instance (n : Nat) (i : Int) : Decidable (inW n i) := by unfold inW; infer_instance
def inC (n : Nat) (a b : Int) : Prop := 0 ≤ a ∧ a ≤ b ∧ b ≤ (n : Int)
instance (n : Nat) (a b : Int) : Decidable (inC n a b) := by unfold inC; infer_instance
theorem cut_lo {n : Nat} {a : Int} (h : inC n a n) (p : Bool) (k : IntKind) : cut (some (.d p (.int k a))) none n = some (a.toNat, n) := by
  obtain ⟨h1, h2, h3⟩ := h
  simp [cut, bnd, h1, h2]
theorem slice_map {α β : Type} (f : α → β) (lo n : Nat) (l : List α) : slice lo n (l.map f) = (slice lo n l).map f := by simp [slice]
theorem slice_z {α : Type} (l : List α) : slice 0 0 l = [] := by simp [slice]
theorem slice_c {α : Type} (n : Nat) (a : α) (l : List α) : slice 0 (n + 1) (a :: l) = a :: slice 0 n l := by simp [slice]
theorem slice_s {α : Type} (k n : Nat) (a : α) (l : List α) : slice (k + 1) n (a :: l) = slice k n l := by simp [slice]
theorem slice_full {α : Type} (l : List α) : slice 0 l.length l = l := by simp [slice]
theorem slice_full' {α : Type} (l : List α) (n : Nat) (h : n = l.length) : slice 0 n l = l := by subst h; exact slice_full l
def mkn (n : Int) : Option Nat := if 0 ≤ n ∧ n ≤ (big : Int) then some n.toNat else none
theorem bnd_mkn {n : Int} {m : Nat} (h : mkn n = some m) (p : Bool) (k : IntKind) : bnd big (.d p (.int k n)) = some m := h
def mxI (a b : Int) : Int := if decide (b > a) then b else a
def mnI (a b : Int) : Int := if decide (b < a) then b else a
theorem maxOf_two (p q : Bool) (k : IntKind) (a b : Int) : maxOf true (.d p (.int k a)) [.d q (.int k b)] = some (.d true (.int k (mxI a b))) := by simp [maxOf, max2, mxI]
theorem minOf_two (p q : Bool) (k : IntKind) (a b : Int) : maxOf false (.d p (.int k a)) [.d q (.int k b)] = some (.d true (.int k (mnI a b))) := by simp [maxOf, max2, mnI]
def andI (k : IntKind) (a b : Int) : Int := k.wrap (BitVec.ofInt k.bits a &&& BitVec.ofInt k.bits b).toNat
def orI (k : IntKind) (a b : Int) : Int := k.wrap (BitVec.ofInt k.bits a ||| BitVec.ofInt k.bits b).toNat
def xorI (k : IntKind) (a b : Int) : Int := k.wrap (BitVec.ofInt k.bits a ^^^ BitVec.ofInt k.bits b).toNat
def shrI (k : IntKind) (a b : Int) : Int := a.fdiv (2 ^ (min b.toNat k.bits))
def shlI (k : IntKind) (a b : Int) : Int := k.wrap (a * 2 ^ (min b.toNat k.bits))
section
variable (k : IntKind) (a b : Int)
theorem arith_add : arith .add k a b = some (.int k (k.wrap (a + b))) := rfl
theorem arith_sub : arith .sub k a b = some (.int k (k.wrap (a - b))) := rfl
theorem arith_mul : arith .mul k a b = some (.int k (k.wrap (a * b))) := rfl
theorem arith_and : arith .and k a b = some (.int k (andI k a b)) := rfl
theorem arith_or : arith .or k a b = some (.int k (orI k a b)) := rfl
theorem arith_xor : arith .xor k a b = some (.int k (xorI k a b)) := rfl
theorem arith_eql : arith .eql k a b = some (.bool (a == b)) := rfl
theorem arith_neq : arith .neq k a b = some (.bool (a != b)) := rfl
theorem arith_lss : arith .lss k a b = some (.bool (decide (a < b))) := rfl
theorem arith_leq : arith .leq k a b = some (.bool (decide (a ≤ b))) := rfl
theorem arith_gtr : arith .gtr k a b = some (.bool (decide (a > b))) := rfl
theorem arith_geq : arith .geq k a b = some (.bool (decide (a ≥ b))) := rfl
theorem arith_quo2 : arith .quo k a 2 = some (.int k (k.wrap (a.tdiv 2))) := rfl
theorem arith_rem2 : arith .rem k a 2 = some (.int k (a.tmod 2)) := rfl
theorem arith_shr1 : arith .shr k a 1 = some (.int k (shrI k a 1)) := rfl
theorem arith_shl1 : arith .shl k a 1 = some (.int k (shlI k a 1)) := rfl
end
theorem bin_int (op : BinOp) (p q : Bool) (k : IntKind) (a b : Int) : Vm.bin op (.d p (.int k a)) (.d q (.int k b)) = (arith op k a b).map (.d true) := by simp [Vm.bin]
theorem bin_shr (p q : Bool) (k k' : IntKind) (a b : Int) : Vm.bin .shr (.d p (.int k a)) (.d q (.int k' b)) = (arith .shr k a b).map (.d true) := by simp [Vm.bin, isShift]
theorem bin_shl (p q : Bool) (k k' : IntKind) (a b : Int) : Vm.bin .shl (.d p (.int k a)) (.d q (.int k' b)) = (arith .shl k a b).map (.d true) := by simp [Vm.bin, isShift]
theorem beq_bool (ne p q : Bool) (a b : Bool) : Vm.beq ne (.d p (.bool a)) (.d q (.bool b)) = some (.d true (.bool ((a == b) != ne))) := rfl
section
variable (a b : Nat)
theorem kill_d (p : Bool) (t : T) : V.kill a b (.d p t) = .d p t := by simp [V.kill]
theorem kill_dx (p : Bool) (t : T) : V.kill a b (.dx p t) = .dx p t := by simp [V.kill]
theorem kill_nil (s : Nat) : V.kill a b (.nil s) = .nil s := by simp [V.kill]
theorem kill_row0 (n lo len s : Nat) : V.kill a b (.row 0 n lo len s) = if a ≤ n ∧ n < b then .u else .row 0 n lo len s := by simp [V.kill]
theorem kill_rowS (l n lo len s : Nat) : V.kill a b (.row (l + 1) n lo len s) = .row (l + 1) n lo len s := by simp [V.kill]
theorem kill_ptr0 (n o : Nat) : V.kill a b (.ptr 0 n o) = if a ≤ n ∧ n < b then .u else .ptr 0 n o := by simp [V.kill]
theorem kill_ptrS (l n o : Nat) : V.kill a b (.ptr (l + 1) n o) = .ptr (l + 1) n o := by simp [V.kill]
theorem kill_rel0 (n i o : Nat) : V.kill a b (.rel 0 n i o) = if a ≤ n ∧ n < b then .u else .rel 0 n i o := by simp [V.kill]
theorem kill_relS (l n i o : Nat) : V.kill a b (.rel (l + 1) n i o) = .rel (l + 1) n i o := by simp [V.kill]
theorem kill_pd (t : T) : V.kill a b (.pd t) = .pd t := by simp [V.kill]
theorem kill_ag (cs : List V) : V.kill a b (.ag cs) = .ag (V.kills a b cs) := by simp [V.kill]
theorem kill_tp (cs : List V) : V.kill a b (.tp cs) = .tp (V.kills a b cs) := by simp [V.kill]
theorem kill_cl (f : Nat) (cs : List V) : V.kill a b (.cl f cs) = .cl f (V.kills a b cs) := by simp [V.kill]
theorem kills_nil : V.kills a b [] = [] := by simp [V.kills]
theorem kills_cons (v : V) (vs : List V) : V.kills a b (v :: vs) = V.kill a b v :: V.kills a b vs := by simp [V.kills]
theorem obk_box (cs : List V) : Ob.kill a b (.box cs) = .box (V.kills a b cs) := rfl
theorem obk_rw (s : Nat) (es : List T) (g : Bool) : Ob.kill a b (.rw s es g) = .rw s es g := rfl
theorem obk_fz (s : Nat) (es : List T) : Ob.kill a b (.fz s es) = .fz s es := rfl
end
def St.ret (σ σc : St) : St := ⟨σ.sl, gt [] σc.up 0, σc.up.tail⟩
theorem ret_get (σ σc : St) (i : Nat) : (σ.ret σc).get i = σ.get i := rfl
theorem ret_obj (σ σc : St) (l n : Nat) : (σ.ret σc).obj l n = σc.obj (l + 1) n := by
  cases l with
  | zero => rfl
  | succ l =>
    show gt none (gt [] σc.up.tail l) n = gt none (gt [] σc.up (l + 1)) n
    cases σc.up <;> simp [gt]
theorem ret_up (σ σc : St) : (σ.ret σc).up.length = σc.up.length - 1 := by simp [St.ret]
def KRet (E : Env) (σ σc : St) (is : List G) (d : Nat) (Q : St → Prop) (r : V × List Nat) : Prop := WO E is ((σ.ret σc).set d r.1) Q
theorem back_ret {σ σc : St} {v : V} {n : Nat} (h : σc.up.length = n + 1) : back false σ σc v none = (dat false σc v).map fun r => (r.1, σ.ret σc) := by
  unfold back leave
  cases hu : σc.up with
  | nil => rw [hu] at h; cases h
  | cons ob up => simp [St.ret, hu, gt]
theorem KBack_ret {E : Env} {σ σc : St} {is : List G} {d : Nat} {Q : St → Prop} {v : V} (h : 0 < σc.up.length) : KBack E false σ is d none Q v σc = optP (dat false σc v) (KRet E σ σc is d Q) := by
  obtain ⟨n, hn⟩ : ∃ n, σc.up.length = n + 1 := ⟨σc.up.length - 1, by omega⟩
  unfold KBack
  rw [back_ret hn]
  cases dat false σc v <;> rfl
theorem KRet_eq {E : Env} {σ σc : St} {is : List G} {d : Nat} {Q : St → Prop} {r : V × List Nat} : KRet E σ σc is d Q r = WO E is ((σ.ret σc).set d r.1) Q := rfl
theorem ini_objS (xs : List V) (σ : St) (l n : Nat) : (St.ini xs (σ.ob :: σ.up)).obj (l + 1) n = σ.obj l n := by cases l <;> rfl
theorem ini_upl (xs : List V) (σ : St) : (St.ini xs (σ.ob :: σ.up)).up.length = σ.up.length + 1 := rfl
theorem ini_upl0 (xs : List V) : (St.ini xs []).up.length = 0 := rfl
theorem set_upl (σ : St) (i : Nat) (v : V) : (σ.set i v).up.length = σ.up.length := rfl
theorem kill_upl (σ : St) (a b : Nat) : (σ.kill a b).up.length = σ.up.length := rfl
theorem setObj_upl0 (σ : St) (n : Nat) (o : Option Ob) : (σ.setObj 0 n o).up.length = σ.up.length := rfl
theorem setObj_uplS (σ : St) (l n : Nat) (o : Option Ob) (h : l < σ.up.length) : (σ.setObj (l + 1) n o).up.length = σ.up.length := st_length _ _ _ _ h
theorem idx_n {α : Type} {l : List α} {i : Int} {x : α} (h : idx l i = some x) (p : Bool) (k : IntKind) : natOf l.length (.d p (.int k i)) = some i.toNat := by
  obtain ⟨h0, h1, _⟩ := idx_some h
  simp [natOf, h0, h1]
theorem idx_q {α : Type} {l : List α} {i : Int} {x : α} (h : idx l i = some x) : i.toNat < l.length := by
  obtain ⟨h0, h1, _⟩ := idx_some h
  omega
theorem idx_x {α : Type} {l : List α} {i : Int} {x : α} (h : idx l i = some x) : l[i.toNat]? = some x := (idx_some h).2.2
theorem slice_head {α β : Type} (f : α → β) (l : List α) (ys : List β) : slice 0 l.length (l.map f ++ ys) = l.map f := by
  have : slice 0 (l.map f).length (l.map f ++ ys) = l.map f := by simp [slice]
  simpa using this
def St.stl (σ : St) (m s : Nat) (es : List T) : St := { σ with sl := σ.sl.map (V.settle m es.length), ob := (st none σ.ob m (some (.rw s es false))).map (Option.map (Ob.settle m es.length)) }
theorem stl_get (σ : St) (m s : Nat) (es : List T) (i : Nat) : (σ.stl m s es).get i = (σ.get i).settle m es.length := gt_map _ (by simp [V.settle]) _ _
theorem stl_obj0 (σ : St) (m s : Nat) (es : List T) (n : Nat) : (σ.stl m s es).obj 0 n = if m = n then some (.rw s es false) else (σ.obj 0 n).map (Ob.settle m es.length) := by
  show gt none ((st none σ.ob m (some (.rw s es false))).map (Option.map (Ob.settle m es.length))) n = _
  rw [gt_map (d := (none : Option Ob)) (e := none) (Option.map (Ob.settle m es.length)) rfl, gt_st]
  split <;> rfl
theorem stl_objS (σ : St) (m s : Nat) (es : List T) (l n : Nat) : (σ.stl m s es).obj (l + 1) n = σ.obj (l + 1) n := rfl
theorem stl_upl (σ : St) (m s : Nat) (es : List T) : (σ.stl m s es).up.length = σ.up.length := rfl
section
variable (m k : Nat)
theorem stv_d (p : Bool) (t : T) : V.settle m k (.d p t) = .d p t := by simp [V.settle]
theorem stv_dx (p : Bool) (t : T) : V.settle m k (.dx p t) = .dx p t := by simp [V.settle]
theorem stv_nil (s : Nat) : V.settle m k (.nil s) = .nil s := by simp [V.settle]
theorem stv_row0 (n lo len s : Nat) : V.settle m k (.row 0 n lo len s) = if n = m then (if lo + len = k then .row 0 n lo len s else .u) else .row 0 n lo len s := by simp [V.settle]
theorem stv_rowS (l n lo len s : Nat) : V.settle m k (.row (l + 1) n lo len s) = .row (l + 1) n lo len s := by simp [V.settle]
theorem stv_ptr (l n o : Nat) : V.settle m k (.ptr l n o) = .ptr l n o := by simp [V.settle]
theorem stv_rel0 (n i o : Nat) : V.settle m k (.rel 0 n i o) = if n = m then .u else .rel 0 n i o := by simp [V.settle]
theorem stv_pd (t : T) : V.settle m k (.pd t) = .pd t := by simp [V.settle]
theorem stv_ag (cs : List V) : V.settle m k (.ag cs) = .ag (V.settles m k cs) := by simp [V.settle]
theorem stv_tp (cs : List V) : V.settle m k (.tp cs) = .tp (V.settles m k cs) := by simp [V.settle]
theorem stv_cl (f : Nat) (cs : List V) : V.settle m k (.cl f cs) = .cl f (V.settles m k cs) := by simp [V.settle]
theorem stvs_nil : V.settles m k [] = [] := by simp [V.settles]
theorem stvs_cons (v : V) (vs : List V) : V.settles m k (v :: vs) = V.settle m k v :: V.settles m k vs := by simp [V.settles]
theorem obs_box (cs : List V) : Ob.settle m k (.box cs) = .box (V.settles m k cs) := rfl
theorem obs_rw (s : Nat) (es : List T) (g : Bool) : Ob.settle m k (.rw s es g) = .rw s es g := rfl
theorem obs_fz (s : Nat) (es : List T) : Ob.settle m k (.fz s es) = .fz s es := rfl
end
theorem clF_small {f : Nat} (h : Nat.ble bndF f = false) : clF f = f := by unfold clF; rw [h]
theorem clA_small {f : Nat} (h : Nat.ble bndF f = false) (as caps : List V) : clA f as caps = as ++ caps := by unfold clA; rw [h]
theorem fnV_small {E : Env} {f : Nat} {F : Fn} (h1 : E.fn f = some F) (h2 : Nat.ble nilF f = false) (h3 : Nat.ble bndF f = false) : E.fnV f = some F := by unfold Env.fnV clF; rw [h2, h3]; exact h1
theorem AtCall_all {E : Env} {f : Nat} {xs : List V} {v : V} (h : Ans E f xs v) : ∀ (σ : St) (is : List G) (d : Nat) (Q : St → Prop), AtCall E f xs σ is d none Q = WO E is (σ.set d v) Q := fun _ _ _ _ => AtCall_of h
def KLaw (v r : V) (_ : St) : Prop := r = v
def AnsL (E : Env) (f : Nat) (xs : List V) (v : V) : Prop := AtFn E f xs [] (KLaw v)
theorem exists_eq2 {α : Type} {a : α} : (∃ x, a = x) = True := by simp
def cpl {α : Type} (lo len : Nat) (ys es : List α) : List α := ((es.take lo ++ ys.take len) ++ es.drop (lo + (ys.take len).length)).take es.length
theorem cpl_length {α : Type} {lo len : Nat} {ys es : List α} : (cpl lo len ys es).length = es.length := by
  unfold cpl
  simp only [List.length_take, List.length_append, List.length_drop]
  omega
def frO : Option Ob → Option Ob
  | some (.rw s es _) => some (.fz s es)
  | o => o
theorem frO_rw {s : Nat} {es : List T} {g : Bool} : frO (some (.rw s es g)) = some (.fz s es) := rfl
theorem frO_fz {s : Nat} {es : List T} : frO (some (.fz s es)) = some (.fz s es) := rfl
theorem frO_none : frO none = none := rfl
theorem fr1_obj (σ : St) (n l k : Nat) : (σ.frz1 n).obj l k = if l = 0 ∧ k = n then frO (σ.obj l k) else σ.obj l k := by
  unfold St.frz1
  split
  · rename_i s es gr h
    rw [St.obj_setObj]
    by_cases hh : l = 0 ∧ k = n
    · obtain ⟨rfl, rfl⟩ := hh
      simp [h, frO]
    · rw [if_neg hh, if_neg (fun e => hh ⟨e.1.symm, e.2.symm⟩)]
  · rename_i h
    by_cases hh : l = 0 ∧ k = n
    · obtain ⟨rfl, rfl⟩ := hh
      rw [if_pos ⟨rfl, rfl⟩]
      cases ho : σ.obj 0 k with
      | none => rfl
      | some o => cases o with
        | rw s es gr => exact absurd ho (h s es gr)
        | _ => rfl
    · rw [if_neg hh]
theorem fr1_get (σ : St) (n i : Nat) : (σ.frz1 n).get i = σ.get i := by
  unfold St.frz1
  split <;> rfl
theorem fr1_upl (σ : St) (n : Nat) : (σ.frz1 n).up.length = σ.up.length := by
  unfold St.frz1
  split <;> rfl
def FreeFrom (σ : St) (l b : Nat) : Prop := ∀ n, b ≤ n → σ.obj l n = none
theorem ff_set {σ : St} {l b i : Nat} {v : V} : FreeFrom (σ.set i v) l b = FreeFrom σ l b := by unfold FreeFrom; simp only [St.obj_set]
theorem ff_setObj {σ : St} {l b m n : Nat} {o : Option Ob} (h : n < b) : FreeFrom (σ.setObj m n o) l b = FreeFrom σ l b := by
  unfold FreeFrom
  refine propext ⟨fun hf k hk => ?_, fun hf k hk => ?_⟩
  · have := hf k hk; rw [St.obj_setObj, if_neg (fun e => by omega)] at this; exact this
  · rw [St.obj_setObj, if_neg (fun e => by omega)]; exact hf k hk
theorem ff_setObjl {σ : St} {l b m n : Nat} {o : Option Ob} (h : m ≠ l) : FreeFrom (σ.setObj m n o) l b = FreeFrom σ l b := by
  unfold FreeFrom
  refine propext ⟨fun hf k hk => ?_, fun hf k hk => ?_⟩
  · have := hf k hk; rw [St.obj_setObj, if_neg (fun e => h e.1)] at this; exact this
  · rw [St.obj_setObj, if_neg (fun e => h e.1)]; exact hf k hk
theorem ff_ini0 {xs : List V} {up : List Lv} {b : Nat} : FreeFrom (St.ini xs up) 0 b = True := by
  refine eq_true fun n _ => ?_
  rfl
theorem ff_iniS {xs : List V} {σ : St} {l b : Nat} : FreeFrom (St.ini xs (σ.ob :: σ.up)) (l + 1) b = FreeFrom σ l b := by unfold FreeFrom; simp only [ini_objS]
theorem ff_ret {σ σc : St} {l b : Nat} : FreeFrom (σ.ret σc) l b = FreeFrom σc (l + 1) b := by unfold FreeFrom; simp only [ret_obj]
theorem ff_frz1 {σ : St} {l b n : Nat} : FreeFrom (σ.frz1 n) l b = FreeFrom σ l b := by
  unfold FreeFrom
  have h : ∀ o : Option Ob, frO o = none ↔ o = none := fun o => by cases o with
    | none => exact ⟨fun _ => rfl, fun _ => rfl⟩
    | some o => cases o <;> simp [frO]
  refine propext ⟨fun hf k hk => ?_, fun hf k hk => ?_⟩
  · have := hf k hk
    rw [fr1_obj] at this
    split at this
    · exact (h _).1 this
    · exact this
  · rw [fr1_obj]
    split
    · exact (h _).2 (hf k hk)
    · exact hf k hk
def St.mg (σ : St) (b : Nat) (σc : St) : St := { σ with ob := padTo b σ.ob ++ σc.ob.map (Option.map (Ob.mrg b)) }
theorem gt_pad : ∀ (b : Nat) (os m : Lv) (n : Nat), gt none (padTo b os ++ m) n = if n < b then gt none os n else gt none m (n - b)
  | 0, os, m, n => by simp [padTo]
  | b + 1, [], m, 0 => by simp [padTo, gt]
  | b + 1, [], m, n + 1 => by simp [padTo, gt, gt_pad b [] m n]
  | b + 1, o :: os, m, 0 => by simp [padTo, gt]
  | b + 1, o :: os, m, n + 1 => by simp [padTo, gt, gt_pad b os m n]
theorem mg_get (σ σc : St) (b i : Nat) : (σ.mg b σc).get i = σ.get i := rfl
theorem mg_obj0 (σ σc : St) (b n : Nat) : (σ.mg b σc).obj 0 n = if n < b then σ.obj 0 n else (σc.obj 0 (n - b)).map (Ob.mrg b) := by
  show gt none (padTo b σ.ob ++ σc.ob.map (Option.map (Ob.mrg b))) n = _
  rw [gt_pad, gt_map (d := (none : Option Ob)) (e := none) (Option.map (Ob.mrg b)) rfl]
  rfl
theorem mg_objS (σ σc : St) (b l n : Nat) : (σ.mg b σc).obj (l + 1) n = σ.obj (l + 1) n := rfl
theorem mg_up (σ σc : St) (b : Nat) : (σ.mg b σc).up.length = σ.up.length := rfl
theorem back_mg {σ σc : St} {v : V} {b : Nat} (h : 0 < σc.up.length) (hb : isMrg b = true) (hf : FreeFrom σc 1 b) : back false σ σc v (some b) = some (v.mrg b, (σ.ret σc).mg b σc) := by
  unfold back leave
  cases hu : σc.up with
  | nil => rw [hu] at h; cases h
  | cons ob up =>
    simp only [Bool.false_eq_true, if_false, Bool.not_false, hb, Bool.and_self, if_true]
    have hall : (ob.drop b).all Option.isNone = true := by
      refine List.all_eq_true.2 fun o ho => ?_
      obtain ⟨k, hk⟩ := List.getElem?_of_mem ho
      rw [List.getElem?_drop] at hk
      have := hf (b + k) (Nat.le_add_right _ _)
      unfold St.obj at this
      simp only [hu, gt] at this
      have hg : ∀ (l : Lv) (i : Nat), gt none l i = l[i]?.getD none := fun l => by
        induction l with
        | nil => intro i; simp [gt]
        | cons a l ih => intro i; cases i with
          | zero => simp [gt]
          | succ i => simp [gt, ih i]
      rw [hg, hk] at this
      simp only [Option.getD_some] at this
      rw [this]; rfl
    unfold merge
    simp only [hall, if_true]
    simp [St.ret, St.mg, hu, gt]
theorem isMrg_odd (k : Nat) : isMrg (2 * k + 1) = true := by
  unfold isMrg
  have : (2 * k + 1) % 2 = 1 := by omega
  rw [this]; rfl
theorem KBack_mg {E : Env} {σ σc : St} {is : List G} {d b : Nat} {Q : St → Prop} {v : V} (h : 0 < σc.up.length) (hb : isMrg b = true) (hf : FreeFrom σc 1 b) : KBack E false σ is d (some b) Q v σc = WO E is (((σ.ret σc).mg b σc).set d (v.mrg b)) Q := by
  unfold KBack
  rw [back_mg h hb hf]; rfl
section
variable (b : Nat)
theorem mrv_d (p : Bool) (t : T) : V.mrg b (.d p t) = .d p t := by simp [V.mrg]
theorem mrv_nil (s : Nat) : V.mrg b (.nil s) = .nil s := by simp [V.mrg]
theorem mrv_ptr0 (n o : Nat) : V.mrg b (.ptr 0 n o) = .ptr 0 (b + n) o := by simp [V.mrg]
theorem mrv_ptrS (l n o : Nat) : V.mrg b (.ptr (l + 1) n o) = .ptr l n o := by simp [V.mrg]
theorem mrv_row0 (n lo len s : Nat) : V.mrg b (.row 0 n lo len s) = .row 0 (b + n) lo len s := by simp [V.mrg]
theorem mrv_rowS (l n lo len s : Nat) : V.mrg b (.row (l + 1) n lo len s) = .row l n lo len s := by simp [V.mrg]
theorem mrv_ag (cs : List V) : V.mrg b (.ag cs) = .ag (V.mrgs b cs) := by simp [V.mrg]
theorem mrv_tp (cs : List V) : V.mrg b (.tp cs) = .tp (V.mrgs b cs) := by simp [V.mrg]
theorem mrv_cl (f : Nat) (cs : List V) : V.mrg b (.cl f cs) = .cl f (V.mrgs b cs) := by simp [V.mrg]
theorem mrvs_nil : V.mrgs b [] = [] := by simp [V.mrgs]
theorem mrvs_cons (v : V) (vs : List V) : V.mrgs b (v :: vs) = V.mrg b v :: V.mrgs b vs := by simp [V.mrgs]
theorem obm_box (cs : List V) : Ob.mrg b (.box cs) = .box (V.mrgs b cs) := rfl
theorem obm_rw (s : Nat) (es : List T) (g : Bool) : Ob.mrg b (.rw s es g) = .rw s es g := rfl
theorem obm_fz (s : Nat) (es : List T) : Ob.mrg b (.fz s es) = .fz s es := rfl
end
end Go.Proofs.Ytkhgnkfdpabflaa.Vm
