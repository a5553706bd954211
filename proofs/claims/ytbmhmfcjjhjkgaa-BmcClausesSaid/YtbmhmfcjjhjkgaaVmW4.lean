/- Rows that a callee made, seen from the caller. -/
import Derived.Test.YtbmhmfcjjhjkgaaVmW0
import Derived.Test.YtbmhmfcjjhjkgaaVmP2
namespace Go.Proofs.Ytbmhmfcjjhjkgaa.Vm
open Go
set_option linter.unusedVariables false
set_option linter.unusedSimpArgs false
def rowsOb (R : List (Nat × List T)) : Lv := R.map fun p => some (.rw p.1 p.2 false)
def setRows : St → Nat → List (Nat × List T) → St
  | σ, _, [] => σ
  | σ, b, p :: R => setRows (σ.setObj 0 b (some (.rw p.1 p.2 false))) (b + 1) R
def FreeRows : St → Nat → List (Nat × List T) → Prop
  | _, _, [] => True
  | σ, b, _ :: R => σ.obj 0 b = none ∧ FreeRows σ (b + 1) R
theorem FreeRows_nil {σ : St} {b : Nat} : FreeRows σ b [] = True := propext Iff.rfl
theorem FreeRows_cons {σ : St} {b : Nat} {p : Nat × List T} {R : List (Nat × List T)} : FreeRows σ b (p :: R) = (σ.obj 0 b = none ∧ FreeRows σ (b + 1) R) := propext Iff.rfl
def ren1 (b : Nat) : V → V
  | .row 0 n lo len s => .row 0 (b + n) lo len s
  | v => v
def ren2 (b : Nat) : V → V
  | .ag cs => .ag (cs.map (ren1 b))
  | v => ren1 b v
def ren (b : Nat) : V → V
  | .tp cs => .tp (cs.map (ren2 b))
  | v => ren2 b v
def KTk (e : V) (R : List (Nat × List T)) (v : V) (σc : St) : Prop := ∃ us, take true σc v ([], 0, []) = some (e, rowsOb R, R.length, us)
def AnsT (E : Env) (f : Nat) (as : List V) (e : V) (R : List (Nat × List T)) : Prop := AtFn E f as [] (KTk e R)
theorem setRows_obj : ∀ (R : List (Nat × List T)) (σ : St) (b n : Nat), b + R.length ≤ n → (setRows σ b R).obj 0 n = σ.obj 0 n
  | [], σ, b, n, _ => rfl
  | p :: R, σ, b, n, h => by
    simp only [List.length_cons] at h
    rw [setRows, setRows_obj R _ (b + 1) n (by omega), St.obj_setObj, if_neg (by omega)]
theorem setRows_snoc : ∀ (R : List (Nat × List T)) (σ : St) (b : Nat) (p : Nat × List T), setRows σ b (R ++ [p]) = (setRows σ b R).setObj 0 (b + R.length) (some (.rw p.1 p.2 false))
  | [], σ, b, p => rfl
  | q :: R, σ, b, p => by
    rw [List.cons_append, setRows, setRows_snoc R, setRows, List.length_cons]
    congr 1; omega
theorem setRows_eq : ∀ (R : List (Nat × List T)) (σ : St) (b : Nat), { σ with ob := (setRows σ b R).ob } = setRows σ b R
  | [], σ, b => rfl
  | p :: R, σ, b => by
    have := setRows_eq R (σ.setObj 0 b (some (.rw p.1 p.2 false))) (b + 1)
    rw [setRows, ← this]; rfl
theorem FreeRows_app : ∀ (R R' : List (Nat × List T)) (σ : St) (b : Nat), FreeRows σ b (R ++ R') → FreeRows σ (b + R.length) R'
  | [], R', σ, b, h => h
  | p :: R, R', σ, b, h => by
    have := FreeRows_app R R' σ (b + 1) h.2
    rwa [List.length_cons, show b + (R.length + 1) = b + 1 + R.length by omega]
theorem FreeRows_left : ∀ (R R' : List (Nat × List T)) (σ : St) (b : Nat), FreeRows σ b (R ++ R') → FreeRows σ b R
  | [], R', σ, b, h => trivial
  | p :: R, R', σ, b, h => ⟨h.1, FreeRows_left R R' σ (b + 1) h.2⟩
theorem rowsOb_snoc (R : List (Nat × List T)) (p : Nat × List T) : st none (rowsOb R) R.length (some (.rw p.1 p.2 false)) = rowsOb (R ++ [p]) := by
  induction R with
  | nil => rfl
  | cons q R ih =>
    show some _ :: st none (rowsOb R) R.length _ = some _ :: rowsOb (R ++ [p])
    rw [ih]
theorem dat1_ren {σc : St} {v v' : V} (b : Nat) (h : dat1 true σc v = some (v', [])) : ren2 b v' = v' ∧ ren1 b v' = v' := by
  unfold dat1 at h
  split at h
  · split at h
    · cases h; exact ⟨rfl, rfl⟩
    · cases h
  · split at h
    · cases h; exact ⟨rfl, rfl⟩
    · cases h
  · cases h; exact ⟨rfl, rfl⟩
  · split at h
    · split at h
      · cases h
      · cases h
    · split at h
      · cases h; exact ⟨rfl, rfl⟩
      · cases h
    · cases h
  · simp at h
  · simp at h
  · cases h; exact ⟨rfl, rfl⟩
  · cases h; exact ⟨rfl, rfl⟩
  · cases h
def Nat1 (tk : Lv × Nat × List Nat → Option (V × Lv × Nat × List Nat)) (rn : Nat → V → V) (R : List (Nat × List T)) (us : List Nat) (v' : V) (a' : Lv × Nat × List Nat) : Prop :=
  ∃ R', a'.1 = rowsOb (R ++ R') ∧ a'.2.1 = (R ++ R').length ∧ ∀ (σ : St) (b : Nat), FreeRows σ b (R ++ R') → tk ((setRows σ b R).ob, b + R.length, us) = some (rn b v', (setRows σ b (R ++ R')).ob, b + (R ++ R').length, a'.2.2)
theorem take1_nat {σc : St} {v v' : V} {R : List (Nat × List T)} {us : List Nat} {a' : Lv × Nat × List Nat} (h : take1 true σc v (rowsOb R, R.length, us) = some (v', a')) : Nat1 (take1 true σc v) ren1 R us v' a' := by
  have plain : ∀ v, take0 true σc v (rowsOb R, R.length, us) = some (v', a') → Nat1 (take0 true σc v) ren1 R us v' a' := fun v h => by
    unfold take0 at h
    split at h
    · rename_i hd
      cases h
      refine ⟨[], by simp, by simp, fun σ b hf => ?_⟩
      unfold take0
      rw [hd]
      simp only [(dat1_ren b hd).2, List.append_nil]
    · cases h
  have free : ∀ (σ : St) (b : Nat) (p : Nat × List T), FreeRows σ b (R ++ [p]) → (gt none (setRows σ b R).ob (b + R.length)).isNone = true := fun σ b p hf => by
    have h1 := (FreeRows_app R [p] σ b hf).1
    have h2 := setRows_obj R σ b (b + R.length) (Nat.le_refl _)
    rw [h1] at h2
    rw [show gt none (setRows σ b R).ob (b + R.length) = (setRows σ b R).obj 0 (b + R.length) from rfl, h2]; rfl
  have set1 : ∀ (σ : St) (b : Nat) (p : Nat × List T), st none (setRows σ b R).ob (b + R.length) (some (.rw p.1 p.2 false)) = (setRows σ b (R ++ [p])).ob := fun σ b p => by rw [setRows_snoc]; rfl
  unfold take1 at h
  split at h
  · rename_i s
    split at h
    · cases h
      refine ⟨[(s, [])], rowsOb_snoc R (s, []), by simp, fun σ b hf => ?_⟩
      unfold take1
      simp only [free σ b _ hf, if_true, ren1]
      rw [← set1 σ b (s, [])]
      simp [Nat.add_assoc]
    · cases h
  · rename_i n lo len s
    split at h
    · rename_i s' es gr hobj
      split at h
      · rename_i hc
        cases h
        obtain ⟨h1, h2, h3, _⟩ := hc
        refine ⟨[(s, es)], rowsOb_snoc R (s, es), by simp, fun σ b hf => ?_⟩
        unfold take1
        simp only [hobj]
        rw [if_pos ⟨h1, h2, h3, free σ b _ hf⟩, ← set1 σ b (s, es)]
        simp [ren1, Nat.add_assoc]
      · cases h
    · rename_i hx
      obtain ⟨R', q1, q2, q3⟩ := plain _ h
      refine ⟨R', q1, q2, fun σ b hf => ?_⟩
      have := q3 σ b hf
      unfold take1
      split
      · rename_i heq; cases heq
      · rename_i heq
        cases heq
        split
        · rename_i h2; exact absurd h2 (hx _ _ _)
        · exact this
      · rename_i h2; exact absurd rfl (h2 _ _ _ _)
  · rename_i h1 h2
    obtain ⟨R', q1, q2, q3⟩ := plain _ h
    refine ⟨R', q1, q2, fun σ b hf => ?_⟩
    have := q3 σ b hf
    unfold take1
    split
    · rename_i s; exact absurd rfl (h1 s)
    · rename_i n lo len s; exact absurd rfl (h2 n lo len s)
    · exact this
theorem nat_list {tk : V → Lv × Nat × List Nat → Option (V × Lv × Nat × List Nat)} {tks : List V → Lv × Nat × List Nat → Option (List V × Lv × Nat × List Nat)} {rn : Nat → V → V}
    (h0 : ∀ a, tks [] a = some ([], a)) (h1 : ∀ v vs a, tks (v :: vs) a = match tk v a with | some (v, a) => (tks vs a).map fun r => (v :: r.1, r.2) | none => none)
    (hn : ∀ v R us v' a', tk v (rowsOb R, R.length, us) = some (v', a') → Nat1 (tk v) rn R us v' a') :
    ∀ (vs vs' : List V) (R : List (Nat × List T)) (us : List Nat) (a' : Lv × Nat × List Nat), tks vs (rowsOb R, R.length, us) = some (vs', a') →
      ∃ R', a'.1 = rowsOb (R ++ R') ∧ a'.2.1 = (R ++ R').length ∧ ∀ (σ : St) (b : Nat), FreeRows σ b (R ++ R') → tks vs ((setRows σ b R).ob, b + R.length, us) = some (vs'.map (rn b), (setRows σ b (R ++ R')).ob, b + (R ++ R').length, a'.2.2)
  | [], vs', R, us, a', h => by
    rw [h0] at h
    cases h
    exact ⟨[], by simp, by simp, fun σ b hf => by rw [h0]; simp⟩
  | v :: vs, vs', R, us, a', h => by
    rw [h1] at h
    split at h
    · rename_i v1 a1 hv
      obtain ⟨r, hr, he⟩ := map_some h
      cases he
      obtain ⟨R1, q1, q2, q3⟩ := hn v R us v1 a1 hv
      have ha1 : a1 = (rowsOb (R ++ R1), (R ++ R1).length, a1.2.2) := by rw [← q1, ← q2]
      rw [ha1] at hr
      obtain ⟨R2, p1, p2, p3⟩ := nat_list h0 h1 hn vs r.1 (R ++ R1) a1.2.2 r.2 hr
      refine ⟨R1 ++ R2, by rw [p1, List.append_assoc], by rw [p2, List.append_assoc], fun σ b hf => ?_⟩
      rw [← List.append_assoc] at hf ⊢
      rw [h1, q3 σ b (FreeRows_left _ _ _ _ hf)]
      simp only [p3 σ b hf, Option.map_some, List.map_cons]
    · cases h
theorem takes1_nat {σc : St} : ∀ (vs vs' : List V) (R : List (Nat × List T)) (us : List Nat) (a' : Lv × Nat × List Nat), takes1 true σc vs (rowsOb R, R.length, us) = some (vs', a') →
      ∃ R', a'.1 = rowsOb (R ++ R') ∧ a'.2.1 = (R ++ R').length ∧ ∀ (σ : St) (b : Nat), FreeRows σ b (R ++ R') → takes1 true σc vs ((setRows σ b R).ob, b + R.length, us) = some (vs'.map (ren1 b), (setRows σ b (R ++ R')).ob, b + (R ++ R').length, a'.2.2) :=
  nat_list (tk := take1 true σc) (fun _ => rfl) (fun v vs a => by simp only [takes1]; rfl) (fun v R us v' a' h => take1_nat h)
theorem take1_leaf {σc : St} {v v' : V} {a a' : Lv × Nat × List Nat} (b : Nat) (h : take1 true σc v a = some (v', a')) : ren2 b v' = ren1 b v' := by
  unfold take1 take0 at h
  split at h
  · split at h
    · cases h; rfl
    · cases h
  · split at h
    · split at h
      · cases h; rfl
      · cases h
    · split at h
      · rename_i hd; cases h; rw [(dat1_ren b hd).1, (dat1_ren b hd).2]
      · cases h
  · split at h
    · rename_i hd; cases h; rw [(dat1_ren b hd).1, (dat1_ren b hd).2]
    · cases h
theorem take2_nat {σc : St} {v v' : V} {R : List (Nat × List T)} {us : List Nat} {a' : Lv × Nat × List Nat} (h : take2 true σc v (rowsOb R, R.length, us) = some (v', a')) : Nat1 (take2 true σc v) ren2 R us v' a' := by
  unfold take2 at h
  split at h
  · rename_i cs
    obtain ⟨r, hr, he⟩ := map_some h
    cases he
    obtain ⟨R', q1, q2, q3⟩ := takes1_nat cs r.1 R us r.2 hr
    exact ⟨R', q1, q2, fun σ b hf => by simp only [take2, q3 σ b hf, Option.map_some, ren2]⟩
  · rename_i hx
    obtain ⟨R', q1, q2, q3⟩ := take1_nat h
    refine ⟨R', q1, q2, fun σ b hf => ?_⟩
    have := q3 σ b hf
    unfold take2
    split
    · rename_i cs; exact absurd rfl (hx cs)
    · rw [this, take1_leaf b h]
theorem takes2_nat {σc : St} : ∀ (vs vs' : List V) (R : List (Nat × List T)) (us : List Nat) (a' : Lv × Nat × List Nat), takes2 true σc vs (rowsOb R, R.length, us) = some (vs', a') →
      ∃ R', a'.1 = rowsOb (R ++ R') ∧ a'.2.1 = (R ++ R').length ∧ ∀ (σ : St) (b : Nat), FreeRows σ b (R ++ R') → takes2 true σc vs ((setRows σ b R).ob, b + R.length, us) = some (vs'.map (ren2 b), (setRows σ b (R ++ R')).ob, b + (R ++ R').length, a'.2.2) :=
  nat_list (tk := take2 true σc) (fun _ => rfl) (fun v vs a => by simp only [takes2]; rfl) (fun v R us v' a' h => take2_nat h)
theorem take2_leaf {σc : St} {v v' : V} {a a' : Lv × Nat × List Nat} (b : Nat) (h : take2 true σc v a = some (v', a')) : ren b v' = ren2 b v' := by
  have : ∀ {v v' : V} {a a' : Lv × Nat × List Nat}, take1 true σc v a = some (v', a') → ren b v' = ren2 b v' := fun h => by
    unfold take1 take0 at h
    split at h
    · split at h
      · cases h; rfl
      · cases h
    · split at h
      · split at h
        · cases h; rfl
        · cases h
      · split at h
        · rename_i hd
          cases h
          unfold dat1 at hd
          simp only at hd
          split at hd
          · split at hd <;> cases hd
          · split at hd
            · cases hd; rfl
            · cases hd
          · cases hd
        · cases h
    · split at h
      · rename_i hd
        cases h
        unfold dat1 at hd
        split at hd
        · split at hd
          · cases hd; rfl
          · cases hd
        · split at hd
          · cases hd; rfl
          · cases hd
        · cases hd; rfl
        · split at hd
          · split at hd <;> cases hd
          · split at hd
            · cases hd; rfl
            · cases hd
          · cases hd
        · simp at hd
        · simp at hd
        · cases hd; rfl
        · cases hd; rfl
        · cases hd
      · cases h
  unfold take2 at h
  split at h
  · obtain ⟨r, hr, he⟩ := map_some h
    cases he; rfl
  · exact this h
theorem take_nat {σc : St} {v v' : V} {R : List (Nat × List T)} {us : List Nat} (h : take true σc v ([], 0, []) = some (v', rowsOb R, R.length, us)) (σ : St) (b : Nat) (hf : FreeRows σ b R) :
    take true σc v (σ.ob, b, []) = some (ren b v', (setRows σ b R).ob, b + R.length, us) := by
  have inj : ∀ {R' : List (Nat × List T)}, rowsOb R = rowsOb R' → R = R' := fun {R'} h => by
    have : ∀ (A B : List (Nat × List T)), rowsOb A = rowsOb B → A = B := fun A => by
      induction A with
      | nil => intro B h; cases B with
        | nil => rfl
        | cons => cases h
      | cons p A ih => intro B h; cases B with
        | nil => cases h
        | cons q B =>
          simp only [rowsOb, List.map_cons, List.cons.injEq, Option.some.injEq, Ob.rw.injEq, and_true] at h
          obtain ⟨⟨h1, h2⟩, h3⟩ := h
          rw [ih B h3, Prod.ext h1 h2]
    exact this _ _ h
  unfold take at h
  split at h
  · rename_i cs
    obtain ⟨r, hr, he⟩ := map_some h
    simp only [Prod.mk.injEq] at he
    obtain ⟨rfl, he⟩ := he
    obtain ⟨R', q1, q2, q3⟩ := takes2_nat cs r.1 [] [] r.2 hr
    rw [he] at q1 q2 q3
    rw [List.nil_append] at q1
    cases inj q1
    have := q3 σ b hf
    simp only [setRows, List.length_nil, Nat.add_zero, List.nil_append] at this
    simp only [take, this, Option.map_some, ren]
  · rename_i hx
    obtain ⟨R', q1, q2, q3⟩ := take2_nat (R := []) h
    rw [List.nil_append] at q1
    cases inj q1
    have := q3 σ b hf
    simp only [setRows, List.length_nil, Nat.add_zero, List.nil_append] at this
    unfold take
    split
    · rename_i cs; exact absurd rfl (hx cs)
    · rw [this, take2_leaf b h]
theorem AtCallT_all {E : Env} {f : Nat} {xs : List V} {e : V} {R : List (Nat × List T)} (h : AnsT E f xs e R) : ∀ (σ : St) (is : List G) (d b : Nat) (Q : St → Prop), FreeRows σ b R → AtCall E f xs σ is d (some b) Q = WO E is ((setRows σ b R).set d (ren b e)) Q := by
  intro σ is d b Q hf
  obtain ⟨v, σc, hr, us, ht⟩ := h
  have hb : back true σ σc v (some b) = some (ren b e, setRows σ b R) := by
    unfold back
    simp only [leave, if_true, take_nat ht σ b hf, Option.map_some, setRows_eq]
  unfold AtCall
  rw [AtFn_of hr]
  unfold KBack
  rw [hb]; rfl
end Go.Proofs.Ytbmhmfcjjhjkgaa.Vm
