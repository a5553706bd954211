/- Out of a law's arguments, typed data; and the law, out of what its body answers. -/
import Derived.Test.YtkhgnkfdpabflabVmP4
import Derived.Test.YtkhgnkfdpabflabVmW0
namespace Go.Proofs.Ytkhgnkfdpabflab.Vm
open Go
set_option linter.unusedVariables false
set_option linter.unusedSimpArgs false
def All2 {α β : Type} (R : α → β → Prop) : List α → List β → Prop
  | [], [] => True
  | a :: as, b :: bs => R a b ∧ All2 R as bs
  | _, _ => False
theorem All2.of {α β : Type} {R : α → β → Prop} : ∀ {as : List α} {bs : List β}, bs.length = as.length → (∀ (i : Nat) a b, as[i]? = some a → bs[i]? = some b → R a b) → All2 R as bs
  | [], [], _, _ => trivial
  | a :: as, b :: bs, hl, h => ⟨h 0 a b rfl rfl, All2.of (by simpa using hl) fun i a b ha hb => h (i + 1) a b (by simpa using ha) (by simpa using hb)⟩
  | [], _ :: _, hl, _ => by simp at hl
  | _ :: _, [], hl, _ => by simp at hl
theorem all2_cons {α β : Type} {R : α → β → Prop} {a : α} {as : List α} : ∀ {bs : List β}, All2 R (a :: as) bs → ∃ b bs', bs = b :: bs' ∧ R a b ∧ All2 R as bs'
  | [], h => h.elim
  | b :: bs, h => ⟨b, bs, rfl, h.1, h.2⟩
theorem all2_nil {α β : Type} {R : α → β → Prop} : ∀ {bs : List β}, All2 R [] bs → bs = []
  | [], _ => rfl
  | _ :: _, h => h.elim
theorem argsT_cons {P : Program} {k : Nat} {t : TypeId} {ts : List TypeId} : ∀ {xs : List (List T)}, ArgsT P k (t :: ts) xs → ∃ x xs', xs = x :: xs' ∧ TyT P k t x ∧ ArgsT P k ts xs'
  | [], h => h.elim
  | x :: xs, h => ⟨x, xs, rfl, h.1, h.2⟩
theorem argsT_nil {P : Program} {k : Nat} : ∀ {xs : List (List T)}, ArgsT P k [] xs → xs = []
  | [], _ => rfl
  | _ :: _, h => h.elim
def Dec {α : Type} (P : Program) (k : Nat) (t : TypeId) (cells : α → List T) (R : α → Prop) : Prop := ∀ ts, TyT P k t ts → ∃ x, ts = cells x ∧ R x
def fieldTypes (P : Program) (t : TypeId) : Option (List TypeId) := match P.underlying t with
  | some (.struct fs) => some (fs.toList.map Field.type)
  | _ => none
def isInt (P : Program) (t : TypeId) (k : IntKind) : Bool := match P.underlying t with
  | some (.int k') => decide (k' = k)
  | _ => false
def isBool (P : Program) (t : TypeId) : Bool := match P.underlying t with
  | some .bool => true
  | _ => false
def sliceOf (P : Program) (t : TypeId) : Option TypeId := match P.underlying t with
  | some (.slice e) => some e
  | _ => none
def RI (n : Int) : Prop := -9223372036854775808 ≤ n ∧ n ≤ 9223372036854775807
section
variable {P : Program} {k : Nat} {t : TypeId}
theorem dec_int {K : IntKind} (h : isInt P t K = true) : Dec P (k + 1) t (fun n : Int => [.int K n]) (fun n => (Lit.int K n).wf = true) := by
  intro ts ht
  unfold TyT at ht
  unfold isInt at h
  split at h
  · rename_i k' hu
    rw [hu] at ht
    obtain ⟨n, rfl, hw⟩ := ht
    have := of_decide_eq_true h
    subst this
    exact ⟨n, rfl, hw⟩
  · cases h
theorem dec_i64 (h : isInt P t .i64 = true) : Dec P (k + 1) t (fun n : Int => [.int .i64 n]) RI := fun ts ht => by
  obtain ⟨n, rfl, hw⟩ := dec_int h ts ht
  simp only [Lit.wf, Bool.and_eq_true, decide_eq_true_eq] at hw
  exact ⟨n, rfl, hw⟩
theorem dec_bool (h : isBool P t = true) : Dec P (k + 1) t (fun b : Bool => [.bool b]) (fun _ => True) := by
  intro ts ht
  unfold TyT at ht
  unfold isBool at h
  split at h
  · rename_i hu
    rw [hu] at ht
    obtain ⟨b, rfl⟩ := ht
    exact ⟨b, rfl, trivial⟩
  · cases h
theorem dec_slice {α : Type} {e : TypeId} {s : Nat} {cells : α → List T} {R : α → Prop} (enc : α → T) (h : sliceOf P t = some e) (hs : P.cellsOf e = s) (he : ∀ x, mkT P e (cells x) = enc x) (hd : Dec P k e cells R) :
    Dec P (k + 1) t (fun l : List α => [.lst s (l.map enc)]) (fun l => l.length ≤ maxLen ∧ ∀ x ∈ l, R x) := by
  intro ts ht
  unfold TyT at ht
  unfold sliceOf at h
  split at h
  · rename_i e' hu
    cases h
    rw [hu] at ht
    obtain ⟨es, rfl, hl, hx⟩ := ht
    have key : ∀ es : List (List T), (∀ x ∈ es, TyT P k e x) → ∃ l : List α, es.map (mkT P e) = l.map enc ∧ l.length = es.length ∧ ∀ x ∈ l, R x := by
      intro es
      induction es with
      | nil => exact fun _ => ⟨[], rfl, rfl, fun x hx => by cases hx⟩
      | cons a es ih =>
        intro hx
        obtain ⟨l, h1, h2, h3⟩ := ih fun x h => hx x (List.mem_cons_of_mem _ h)
        obtain ⟨y, rfl, hy⟩ := hd a (hx a (by simp))
        refine ⟨y :: l, by simp [h1, he], by simp [h2], fun x hx => ?_⟩
        rcases List.mem_cons.1 hx with rfl | hx
        · exact hy
        · exact h3 x hx
    obtain ⟨l, h1, h2, h3⟩ := key es hx
    exact ⟨l, by rw [h1, hs], by omega, h3⟩
  · cases h
theorem ty_struct {tys : List TypeId} {ts : List T} (h : fieldTypes P t = some tys) (ht : TyT P (k + 1) t ts) : ∃ ps : List (List T), ts = ps.flatten ∧ All2 (TyT P k) tys ps := by
  unfold TyT at ht
  unfold fieldTypes at h
  split at h
  · rename_i fs hu
    cases h
    rw [hu] at ht
    obtain ⟨ps, rfl, hl, hp⟩ := ht
    refine ⟨ps, rfl, All2.of (by simpa using hl) fun i a b ha hb => ?_⟩
    rw [List.getElem?_map] at ha
    cases hf : fs.toList[i]? with
    | none => rw [hf] at ha; cases ha
    | some f =>
      rw [hf] at ha
      cases ha
      exact hp i f b (by simpa using hf) hb
  · cases h
end
theorem ansL_true {E : Env} {f : Nat} {xs : List V} (h : AnsL E f xs (.d true (.bool true))) : ∃ p σ, Ev E (.fn f xs []) (.fn (.d p (.bool true)) σ) := by
  obtain ⟨r, σ, hr, rfl⟩ := h
  exact ⟨true, σ, hr⟩
end Go.Proofs.Ytkhgnkfdpabflab.Vm
