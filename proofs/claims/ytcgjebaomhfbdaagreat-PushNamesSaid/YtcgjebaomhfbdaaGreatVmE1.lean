/- Runs by computing: what is computed with enough rounds is a run. -/
import Derived.Test.YtcgjebaomhfbdaaGreatVmP1
namespace Go.Proofs.YtcgjebaomhfbdaaGreat.Vm
open Go
/-- a call from inside an operation -/
def callRun (E : Env) (call : Nat → List V → List Lv → Option (V × St)) (σ : St) (f : Nat) (vs : List V) (rm : Option Nat) : Option (V × St) :=
  match E.fn f with
  | some F => match F.pure with
    | none => match call f (V.shifts 1 vs) (σ.ob :: σ.up) with
      | some (v, σc) => back false σ σc v rm
      | none => none
    | some ms => match σ.hand vs ms with
      | some (ws, ns) => match call f ws [] with
        | some (v, σc) => back true (σ.frz ns) σc v rm
        | none => none
      | none => none
  | none => match E.ext f with
    | some X => X σ vs rm
    | none => none
def callvRun (E : Env) (call : Nat → List V → List Lv → Option (V × St)) (σ : St) (x : V) (vs : List V) (rm : Option Nat) : Option (V × St) :=
  match x with
  | .cl f caps => match E.fnV f with
    | some F => match F.pure with
      | none => match call (clF f) (V.shifts 1 (clA f vs caps)) (σ.ob :: σ.up) with
        | some (v, σc) => back false σ σc v rm
        | none => none
      | some _ => none
    | none => none
  | _ => none
/-- one operation -/
def opRun (E : Env) (call : Nat → List V → List Lv → Option (V × St)) (σ : St) (i : I) : Option St :=
  match i with
  | .call d f as rm => match callRun E call σ f (σ.vals as) rm with
    | some (w, σ₁) => some (σ₁.set d w)
    | none => none
  | .callv d x as rm => match callvRun E call σ (σ.val x) (σ.vals as) rm with
    | some (w, σ₁) => some (σ₁.set d w)
    | none => none
  | i => step σ i
noncomputable def runOps (E : Env) (call : Nat → List V → List Lv → Option (V × St)) (l : List G) : St → Option St :=
  List.rec (motive := fun _ => St → Option St) (fun σ => some σ) (fun g _ ih σ => match σ.wants g.g with
    | some true => match opRun E call σ g.i with
      | some σ₁ => ih σ₁
      | none => none
    | some false => ih (σ.skip g.i)
    | none => none) l
/-- code, with the next round's runner -/
noncomputable def runC (E : Env) (rec : C → St → Option (Ex × St)) (call : Nat → List V → List Lv → Option (V × St)) (c : C) (σ : St) : Option (Ex × St) :=
  match c with
  | .skip => some (.normal, σ)
  | .rg _ _ fs is [] => match pre σ fs with
    | some σ₁ => match runOps E call is σ₁ with
      | some σ' => some (.normal, σ')
      | none => none
    | none => none
  | .seq a b => match rec a σ with
    | some (.normal, σ₁) => rec b σ₁
    | r => r
  | .cond x a b => match σ.val x with
    | .d _ (.bool t) => rec (match t with | true => a | false => b) σ
    | _ => none
  | .block id c => match rec c σ with
    | some (.normal, σ₁) => some (.normal, σ₁)
    | some (.exit j, σ₁) => match Nat.decEq j id with
      | isTrue _ => some (.normal, σ₁)
      | isFalse _ => some (.exit j, σ₁)
    | r => r
  | .loop c => match rec c σ with
    | some (.normal, σ₁) => rec (.loop c) σ₁
    | r => r
  | .exit id => some (.exit id, σ)
  | .ret => some (.ret, σ)
  | _ => none
noncomputable def callF (E : Env) (rec : C → St → Option (Ex × St)) (f : Nat) (as : List V) (up : List Lv) : Option (V × St) :=
  match E.fn f with
  | some F => match rec F.code ⟨as, [], up⟩ with
    | some (.normal, σ) => match resVal σ F.res with
      | some v => some (v, σ)
      | none => none
    | some (.ret, σ) => match resVal σ F.res with
      | some v => some (v, σ)
      | none => none
    | _ => none
  | none => none
noncomputable def run (E : Env) (n : Nat) : C → St → Option (Ex × St) :=
  Nat.rec (motive := fun _ => C → St → Option (Ex × St)) (fun _ _ => none) (fun _ ih c σ => runC E ih (callF E ih) c σ) n
section
variable {E : Env}
theorem run_succ (n : Nat) : run E (n + 1) = fun c σ => runC E (run E n) (callF E (run E n)) c σ := rfl
theorem callF_sound {rec : C → St → Option (Ex × St)} (hr : ∀ c σ e σ', rec c σ = some (e, σ') → Ev E (.code c σ) (.code e σ')) {f : Nat} {as : List V} {up : List Lv} {v : V} {σ : St} (h : callF E rec f as up = some (v, σ)) :
    Ev E (.fn f as up) (.fn v σ) := by
  unfold callF at h
  split at h
  · rename_i F hF
    split at h
    · rename_i σ1 hc
      split at h
      · rename_i v1 hv; cases h; exact .fn hF (hr _ _ _ _ hc) (.inl rfl) hv
      · cases h
    · rename_i σ1 hc
      split at h
      · rename_i v1 hv; cases h; exact .fn hF (hr _ _ _ _ hc) (.inr rfl) hv
      · cases h
    · cases h
  · cases h
theorem runOps_sound {call : Nat → List V → List Lv → Option (V × St)} (hc : ∀ f as up v σ, call f as up = some (v, σ) → Ev E (.fn f as up) (.fn v σ)) : ∀ (l : List G) (σ σ' : St), runOps E call l σ = some σ' → Ev E (.ops l σ) (.ops σ')
  | [], σ, σ', h => by cases h; exact .nil
  | ⟨i, g⟩ :: l, σ, σ', h => by
    have h : (match σ.wants g with
      | some true => match opRun E call σ i with
        | some σ₁ => runOps E call l σ₁
        | none => none
      | some false => runOps E call l (σ.skip i)
      | none => none) = some σ' := h
    split at h
    · rename_i hw
      split at h
      · rename_i σ1 ho
        have hr := runOps_sound hc l σ1 σ' h
        unfold opRun at ho
        split at ho
        · rename_i d f as rm
          split at ho
          · rename_i w σ2 hcr
            cases ho
            unfold callRun at hcr
            split at hcr
            · rename_i F hF
              split at hcr
              · rename_i hm
                split at hcr
                · rename_i v σc hcall; exact .call hw hF hm (hc _ _ _ _ _ hcall) hcr hr
                · cases hcr
              · rename_i ms hm
                split at hcr
                · rename_i ws ns hh
                  split at hcr
                  · rename_i v σc hcall; exact .pcall hw hF hm hh (hc _ _ _ _ _ hcall) hcr hr
                  · cases hcr
                · cases hcr
            · rename_i hF
              split at hcr
              · rename_i X hX; exact .ext hw hF hX hcr hr
              · cases hcr
          · cases ho
        · rename_i d x as rm
          split at ho
          · rename_i w σ2 hcr
            cases ho
            unfold callvRun at hcr
            split at hcr
            · rename_i f caps hx
              split at hcr
              · rename_i F hF
                split at hcr
                · rename_i hm
                  split at hcr
                  · rename_i v σc hcall; exact .callv hw hx hF hm (hc _ _ _ _ _ hcall) hcr hr
                  · cases hcr
                · cases hcr
              · cases hcr
            · cases hcr
          · cases ho
        · exact .step hw ho hr
      · cases h
    · rename_i hw; exact .skipped hw (runOps_sound hc l _ σ' h)
    · cases h
theorem run_sound : ∀ (n : Nat) (c : C) (σ : St) (e : Ex) (σ' : St), run E n c σ = some (e, σ') → Ev E (.code c σ) (.code e σ')
  | 0, _, _, _, _, h => by cases h
  | n + 1, c, σ, e, σ', h => by
    have ih := run_sound n
    rw [run_succ] at h
    simp only at h
    have hcall := fun f as up v σ => callF_sound (E := E) ih (f := f) (as := as) (up := up) (v := v) (σ := σ)
    unfold runC at h
    split at h
    · cases h; exact .skip
    · split at h
      · rename_i σ1 hp
        split at h
        · rename_i σ2 ho; cases h; exact .rg hp (runOps_sound hcall _ _ _ ho) (fun o ho => by cases ho)
        · cases h
      · cases h
    · split at h
      · rename_i σ1 ha; exact .seq (ih _ _ _ _ ha) (ih _ _ _ _ h)
      · rename_i hne
        exact .seqX (fun he => hne _ (by rw [← he]; exact h)) (ih _ _ _ _ h)
    · split at h
      · rename_i p t hx
        refine .cond hx ?_
        cases t <;> exact ih _ _ _ _ h
      · cases h
    · split at h
      · rename_i σ1 hc; cases h; exact .block (ih _ _ _ _ hc)
      · rename_i j σ1 hc
        split at h
        · rename_i hj _; cases h; rw [hj] at hc; exact .blockX (ih _ _ _ _ hc)
        · rename_i hj _; cases h; exact .blockY (by simp) (fun h => hj (by cases h; rfl)) (ih _ _ _ _ hc)
      · rename_i h1 h2
        exact .blockY (fun he => h1 _ (by rw [← he]; exact h)) (fun he => h2 _ _ (by rw [← he]; exact h)) (ih _ _ _ _ h)
    · split at h
      · rename_i σ1 ha; exact .loop (ih _ _ _ _ ha) (ih _ _ _ _ h)
      · rename_i hne
        exact .loopX (fun he => hne _ (by rw [← he]; exact h)) (ih _ _ _ _ h)
    · cases h; exact .exit
    · cases h; exact .ret
    · cases h
/-- does a function of no arguments answer true? -/
noncomputable def says (E : Env) (n f : Nat) : Bool := match callF E (run E n) f [] [] with
  | some (.d _ (.bool true), _) => true
  | _ => false
theorem says_sound {n f : Nat} (h : says E n f = true) : ∃ p σ, Ev E (.fn f [] []) (.fn (.d p (.bool true)) σ) := by
  unfold says at h
  split at h
  · rename_i p σ hc; exact ⟨p, σ, callF_sound (run_sound n) hc⟩
  · cases h
end
end Go.Proofs.YtcgjebaomhfbdaaGreat.Vm
