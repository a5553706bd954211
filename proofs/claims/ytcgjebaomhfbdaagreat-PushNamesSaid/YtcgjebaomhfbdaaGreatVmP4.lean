/- A machine for the seat's programs and its soundness, part 4. -/
import Derived.Test.YtcgjebaomhfbdaaGreatVmP3
import Derived.Orders
import Derived.RangeFuncRecord
import Derived.Below
import Derived.Scope
import GoSem.ClaimChange
/- Things made anew change places, too. -/
namespace Go.Proofs.YtcgjebaomhfbdaaGreat.Vm
open Go
def Z.isR : Z → Bool
  | .r _ _ => true
  | _ => false
/-- the name of what an operation makes -/
def I.mkn : I → Option Nat
  | .nilr _ nm _ => some nm
  | .alloc _ nm z => if z.any Z.isR then none else some nm
  | .box _ nm _ _ => some nm
  | .bsl _ nm _ _ _ _ => some nm
  | .mks _ nm _ _ _ _ => some nm
  | _ => none
/-- what it makes: rows that it freezes, the object, the value -/
def mk (σ : St) : I → Option (List Nat × Ob × V)
  | .nilr _ nm s => some ([], .rw s [] false, .row 0 nm 0 0 s)
  | .alloc _ nm z => match z.mapM Z.v with
    | some cs => some ([], .box cs, .ptr 0 nm 0)
    | none => none
  | .box _ nm x w => match cellsOf w (σ.val x) with
    | some cs => some ([], .box cs, .ptr 0 nm 0)
    | none => none
  | .bsl _ nm s n z ps => match σ.toTs (ps.map fun p => σ.val p.2), z.t? with
    | some (ts, ns), some t => match flatFill t ts (fillT (List.replicate n t) s ((ps.map (·.1)).zip ts)) with
      | some es => some (ns, .rw s es false, .row 0 nm 0 n s)
      | none => none
    | _, _ => none
  | .mks _ nm s n c z => match bnd big (σ.val n), bnd big (σ.val c), z.t? with
    | some n, some c, some t => if n = c then some ([], .rw s (List.replicate n t) false, .row 0 nm 0 n s) else none
    | _, _, _ => none
  | _ => none
/-- may it freeze nothing? -/
def I.thaw : I → Bool
  | .bsl _ _ _ _ z ps => (match z.t? with | some t => t.noL | none => true) || ps.isEmpty
  | _ => true
section
variable {P : Program} {E : Env} {σ τ : St}
theorem zcells_mapM : ∀ {z : List Z}, z.any Z.isR = false → zcells σ z = (z.mapM Z.v).map fun cs => (cs, σ)
  | [], _ => rfl
  | z :: zs, h => by
    simp only [List.any_cons, Bool.or_eq_false_iff] at h
    simp only [zcells, zcells_mapM h.2, List.mapM_cons, Option.bind_eq_bind, Option.pure_def]
    cases z with
    | r nm s => simp [Z.isR] at h
    | k t => cases zs.mapM Z.v <;> simp [Z.v]
    | n s => cases zs.mapM Z.v <;> simp [Z.v]
    | u => cases zs.mapM Z.v <;> simp [Z.v]
theorem step_mk {i : I} {nm : Nat} (h : i.mkn = some nm) : ∃ d, i.dst = some d ∧ step σ i = match mk σ i with
    | some (ns, o, v) => ((σ.frz ns).new nm o).map fun σ => σ.set d v
    | none => none := by
  cases i with
  | nilr d n s => simp only [I.mkn, Option.some.injEq] at h; subst h; exact ⟨d, rfl, rfl⟩
  | box d n x w => simp only [I.mkn, Option.some.injEq] at h; subst h; exact ⟨d, rfl, by simp only [step, mk]; cases cellsOf w (σ.val x) <;> rfl⟩
  | alloc d n z =>
    simp only [I.mkn] at h
    split at h
    · cases h
    · rename_i hz
      simp only [Option.some.injEq] at h; subst h
      refine ⟨d, rfl, ?_⟩
      simp only [step, mk, zcells_mapM (σ := σ) (by simpa using hz)]
      cases z.mapM Z.v <;> rfl
  | bsl d n s k z ps =>
    simp only [I.mkn, Option.some.injEq] at h; subst h
    refine ⟨d, rfl, ?_⟩
    simp only [step, mk]
    cases σ.toTs (ps.map fun p => σ.val p.2) with
    | none => rfl
    | some q =>
      obtain ⟨ts, ns⟩ := q
      cases z.t? with
      | none => rfl
      | some t => simp only; cases flatFill t ts _ <;> rfl
  | mks d n s x c z =>
    simp only [I.mkn, Option.some.injEq] at h; subst h
    refine ⟨d, rfl, ?_⟩
    simp only [step, mk]
    cases bnd big (σ.val x) with
    | none => rfl
    | some a => cases bnd big (σ.val c) with
      | none => rfl
      | some b => cases z.t? with
        | none => rfl
        | some t => simp only; split <;> rfl
  | _ => cases h
/-! Frozen rows. -/
def frzO : Option Ob → Option Ob
  | some (.rw s es _) => some (.fz s es)
  | o => o
theorem obj_frz1 (n l k : Nat) : (σ.frz1 n).obj l k = if l = 0 ∧ k = n then frzO (σ.obj l k) else σ.obj l k := by
  unfold St.frz1
  split
  · rename_i s es gr h
    rw [St.obj_setObj]
    by_cases hh : l = 0 ∧ k = n
    · obtain ⟨rfl, rfl⟩ := hh
      simp [h, frzO]
    · rw [if_neg hh, if_neg (fun e => hh ⟨e.1.symm, e.2.symm⟩)]
  · rename_i h
    by_cases hh : l = 0 ∧ k = n
    · obtain ⟨rfl, rfl⟩ := hh
      rw [if_pos ⟨rfl, rfl⟩]
      cases ho : σ.obj 0 k with
      | none => rfl
      | some o => cases o with
        | rw s es gr => exact absurd ho (h s es gr)
        | _ => rfl
    · rw [if_neg hh]
theorem obj_frz : ∀ (ns : List Nat) {σ : St} (l k : Nat), (σ.frz ns).obj l k = if l = 0 ∧ k ∈ ns then frzO (σ.obj l k) else σ.obj l k
  | [], σ, l, k => by simp [St.frz]
  | n :: ns, σ, l, k => by
    have : σ.frz (n :: ns) = (σ.frz1 n).frz ns := rfl
    rw [this, obj_frz ns, obj_frz1]
    by_cases h1 : l = 0
    · subst h1
      by_cases h2 : k = n
      · subst h2
        simp only [true_and, if_true, List.mem_cons, true_or]
        split
        · cases σ.obj 0 k with
          | none => rfl
          | some o => cases o <;> rfl
        · rfl
      · simp [h2]
    · simp [h1]
theorem frz1_eq (σ : St) (n : Nat) : σ.frz1 n = match σ.obj 0 n with
    | some (.rw s es _) => σ.setObj 0 n (some (.fz s es))
    | _ => σ := rfl
theorem frz1_no {n : Nat} (h : ∀ s es gr, σ.obj 0 n ≠ some (.rw s es gr)) : σ.frz1 n = σ := by
  rw [frz1_eq]
  split
  · rename_i s es gr ho; exact absurd ho (h s es gr)
  · rfl
theorem frz1_idem {n : Nat} : (σ.frz1 n).frz1 n = σ.frz1 n := by
  refine frz1_no fun s es gr h => ?_
  rw [obj_frz1] at h
  simp only [and_self, if_true] at h
  cases ho : σ.obj 0 n with
  | none => rw [ho] at h; cases h
  | some o => rw [ho] at h; cases o <;> cases h
theorem setObj_comm {l n k m : Nat} {o p : Option Ob} (h : ¬ (l = k ∧ n = m)) : (σ.setObj l n o).setObj k m p = (σ.setObj k m p).setObj l n o := by
  cases l with
  | zero => cases k with
    | zero => simp only [St.setObj]; rw [st_comm none σ.ob n m _ _ (fun e => h ⟨rfl, e⟩)]
    | succ k => rfl
  | succ l => cases k with
    | zero => rfl
    | succ k =>
      simp only [St.setObj, gt_st]
      by_cases hlk : l = k
      · subst hlk
        have hnm : n ≠ m := fun e => h ⟨rfl, e⟩
        simp only [if_true]
        have key : ∀ (u : List Lv) (a b : Lv), st [] (st [] u l a) l b = st [] u l b := by
          intro u
          induction l generalizing u with
          | zero => intro a b; cases u <;> rfl
          | succ l ih => intro a b; cases u <;> simp [st, ih (fun e => h ⟨by omega, e.2⟩)]
        rw [key, key, st_comm none _ n m _ _ hnm]
      · rw [if_neg hlk, if_neg (fun e => hlk e.symm), st_comm _ _ l k _ _ hlk]
theorem frz1_setObj {l n m : Nat} {o : Option Ob} (h : ¬ (l = 0 ∧ n = m)) : (σ.setObj l n o).frz1 m = (σ.frz1 m).setObj l n o := by
  unfold St.frz1
  rw [St.obj_setObj, if_neg h]
  split
  · rw [setObj_comm h]
  · rfl
theorem frz_setObj {l n : Nat} {o : Option Ob} : ∀ (ns : List Nat) {σ : St}, ¬ (l = 0 ∧ n ∈ ns) → (σ.setObj l n o).frz ns = (σ.frz ns).setObj l n o
  | [], _, _ => rfl
  | m :: ns, σ, h => by
    have e : ∀ σ : St, σ.frz (m :: ns) = (σ.frz1 m).frz ns := fun _ => rfl
    rw [e, e, frz1_setObj (fun x => h ⟨x.1, by simp [x.2]⟩), frz_setObj ns (fun x => h ⟨x.1, by simp [x.2]⟩)]
theorem frz1_comm {a b : Nat} : (σ.frz1 a).frz1 b = (σ.frz1 b).frz1 a := by
  by_cases hab : a = b
  · subst hab; rfl
  · have hb : (σ.frz1 b).obj 0 a = σ.obj 0 a := by rw [obj_frz1, if_neg (fun e => hab e.2)]
    by_cases h : ∃ s es gr, σ.obj 0 a = some (.rw s es gr)
    · obtain ⟨s, es, gr, ho⟩ := h
      rw [frz1_eq σ a, frz1_eq (σ.frz1 b) a, hb, ho]
      simp only
      exact frz1_setObj (fun e => hab e.2)
    · have h1 : ∀ s es gr, σ.obj 0 a ≠ some (.rw s es gr) := fun s es gr e => h ⟨s, es, gr, e⟩
      rw [frz1_no h1, frz1_no (σ := σ.frz1 b) (by rw [hb]; exact h1)]
theorem frz_frz1 : ∀ (ns : List Nat) {σ : St} {a : Nat}, (σ.frz ns).frz1 a = (σ.frz1 a).frz ns
  | [], _, _ => rfl
  | n :: ns, σ, a => by
    have e : ∀ σ : St, σ.frz (n :: ns) = (σ.frz1 n).frz ns := fun _ => rfl
    rw [e, e, frz_frz1 ns, frz1_comm]
theorem frz_frz : ∀ (ms ns : List Nat) {σ : St}, (σ.frz ns).frz ms = (σ.frz ms).frz ns
  | [], _, _ => rfl
  | m :: ms, ns, σ => by
    have e : ∀ σ : St, σ.frz (m :: ms) = (σ.frz1 m).frz ms := fun _ => rfl
    rw [e, e, frz_frz1 ns, frz_frz ms ns]
theorem frz_mem : ∀ (ns : List Nat) {σ : St} {a : Nat}, a ∈ ns → (σ.frz ns).frz1 a = σ.frz ns
  | n :: ns, σ, a, h => by
    have e : ∀ σ : St, σ.frz (n :: ns) = (σ.frz1 n).frz ns := fun _ => rfl
    rw [e]
    by_cases ha : a ∈ ns
    · exact frz_mem ns ha
    · have : a = n := by simpa [ha] using h
      subst this
      rw [frz_frz1, frz1_idem]
theorem frz_filter (ns : List Nat) : ∀ (ms : List Nat) {σ : St}, (σ.frz ns).frz (ms.filter fun m => !ns.contains m) = (σ.frz ns).frz ms
  | [], _ => rfl
  | m :: ms, σ => by
    have e : ∀ (k : List Nat) (σ : St), σ.frz (m :: k) = (σ.frz1 m).frz k := fun _ _ => rfl
    by_cases h : m ∈ ns
    · rw [List.filter_cons, if_neg (by simp [h]), e, frz_mem ns h]
      exact frz_filter ns ms
    · rw [List.filter_cons, if_pos (by simp [h]), e, e, frz_frz1]
      exact frz_filter ns ms
/-! What data a value gives. -/
/-- another state: rows frozen, and objects that were not there -/
def Frozen (ns : List Nat) (σ τ : St) : Prop := ∀ l n, σ.obj l n ≠ none → τ.obj l n = if l = 0 ∧ n ∈ ns then frzO (σ.obj l n) else σ.obj l n
mutual
theorem toT_frozen {ns : List Nat} (h : Frozen ns σ τ) : ∀ v : V, ExV σ v → τ.toT v = (σ.toT v).map fun p => (p.1, p.2.filter fun m => !ns.contains m)
  | .row l n lo len s, e => by
    simp only [ExV, St.rowOf, St.boxOf] at e
    have hn : σ.obj l n ≠ none := fun hx => by rw [hx] at e; rcases e with e | e | e <;> cases e
    have hh := h l n hn
    simp only [St.toT]
    rw [hh]
    cases ho : σ.obj l n with
    | none => exact absurd ho hn
    | some o =>
      cases o with
      | box cs =>
        have : (if l = 0 ∧ n ∈ ns then frzO (some (Ob.box cs)) else some (Ob.box cs)) = some (Ob.box cs) := by split <;> rfl
        rw [this]
        cases l <;> rfl
      | gone =>
        have : (if l = 0 ∧ n ∈ ns then frzO (some Ob.gone) else some Ob.gone) = some Ob.gone := by split <;> rfl
        rw [this]
        cases l <;> rfl
      | rw s' es gr =>
        rw [ho] at e
        have e := e.resolve_right (by rintro (h | h) <;> cases h)
        simp only at e
        split at e
        · rename_i hfit
          by_cases hin : l = 0 ∧ n ∈ ns
          · obtain ⟨rfl, hin⟩ := hin
            simp [hin, frzO, hfit]
          · rw [if_neg hin]
            cases l with
            | zero =>
              have : n ∉ ns := fun hx => hin ⟨rfl, hx⟩
              simp [hfit, this]
            | succ l => rfl
        · cases e
      | fz s' es =>
        have : (if l = 0 ∧ n ∈ ns then frzO (some (Ob.fz s' es)) else some (Ob.fz s' es)) = some (Ob.fz s' es) := by split <;> rfl
        rw [this]
        simp only
        split <;> simp
  | .ag cs, e => by
    simp only [St.toT]
    rw [toTs_frozen h cs e]
    cases σ.toTs cs with
    | none => rfl
    | some q => rfl
  | .d true t, _ | .dx true t, _ | .nil s, _ => by simp [St.toT]
  | .d false t, _ | .dx false t, _ | .ptr .., _ | .rel .., _ | .pd _, _ | .tp _, _ | .cl .., _ | .u, _ => by simp [St.toT]
theorem toTs_frozen {ns : List Nat} (h : Frozen ns σ τ) : ∀ vs : List V, ExVs σ vs → τ.toTs vs = (σ.toTs vs).map fun p => (p.1, p.2.filter fun m => !ns.contains m)
  | [], _ => rfl
  | v :: vs, e => by
    simp only [St.toTs]
    rw [toT_frozen h v e.1, toTs_frozen h vs e.2]
    cases σ.toT v with
    | none => rfl
    | some q => cases σ.toTs vs with
      | none => rfl
      | some r => simp
end
mutual
theorem toT_names : ∀ (v : V) (t : T) (ns : List Nat), σ.toT v = some (t, ns) → ∀ n ∈ ns, ∃ s es gr, σ.obj 0 n = some (.rw s es gr)
  | .row l n lo len s, t, ns, h, m, hm => by
    simp only [St.toT] at h
    split at h
    · split at h
      · cases h; cases hm
      · cases h
    · rename_i s' es gr ho
      split at h
      · cases h; simp at hm; subst hm; exact ⟨_, _, _, ho⟩
      · cases h
    · cases h
  | .ag cs, t, ns, h, m, hm => by
    simp only [St.toT] at h
    split at h
    · rename_i hh; cases h; exact toTs_names cs _ _ hh m hm
    · cases h
  | .d true t', t, ns, h, m, hm | .dx true t', t, ns, h, m, hm | .nil s, t, ns, h, m, hm => by simp only [St.toT, Option.some.injEq, Prod.mk.injEq] at h; rw [← h.2] at hm; cases hm
  | .d false t', t, ns, h, m, hm | .dx false t', t, ns, h, m, hm | .ptr .., t, ns, h, m, hm | .rel .., t, ns, h, m, hm | .pd _, t, ns, h, m, hm | .tp _, t, ns, h, m, hm | .cl .., t, ns, h, m, hm | .u, t, ns, h, m, hm => by simp [St.toT] at h
theorem toTs_names : ∀ (vs : List V) (ts : List T) (ns : List Nat), σ.toTs vs = some (ts, ns) → ∀ n ∈ ns, ∃ s es gr, σ.obj 0 n = some (.rw s es gr)
  | [], ts, ns, h, m, hm => by simp only [St.toTs, Option.some.injEq, Prod.mk.injEq] at h; rw [← h.2] at hm; cases hm
  | v :: vs, ts, ns, h, m, hm => by
    simp only [St.toTs] at h
    split at h
    · rename_i t1 n1 ts1 m1 e1 e2
      cases h
      rcases List.mem_append.1 hm with hm | hm
      · exact toT_names v t1 n1 e1 m hm
      · exact toTs_names vs ts1 m1 e2 m hm
    · cases h
end
theorem Frozen.mk {ns : List Nat} {nm d : Nat} {o : Ob} {v : V} (hno : (σ.frz ns).obj 0 nm = none) : Frozen ns σ (((σ.frz ns).setObj 0 nm (some o)).set d v) := fun l n hn => by
  rw [St.obj_set, St.obj_setObj, obj_frz]
  by_cases h : 0 = l ∧ nm = n
  · obtain ⟨rfl, rfl⟩ := h
    rw [obj_frz] at hno
    exfalso
    split at hno
    · cases ho : σ.obj 0 nm with
      | none => exact hn ho
      | some o => rw [ho] at hno; cases o <;> cases hno
    · exact hn hno
  · rw [if_neg h]
theorem obj_none_frz {ns : List Nat} {l n : Nat} : (σ.frz ns).obj l n = none ↔ σ.obj l n = none := by
  rw [obj_frz]
  split
  · cases σ.obj l n with
    | none => simp [frzO]
    | some o => cases o <;> simp [frzO]
  · exact Iff.rfl
theorem mk_names {i : I} {ns : List Nat} {o : Ob} {v : V} (h : mk σ i = some (ns, o, v)) : ∀ n ∈ ns, ∃ s es gr, σ.obj 0 n = some (.rw s es gr) := by
  cases i with
  | bsl d nm s n z ps =>
    simp only [mk] at h
    split at h
    · rename_i ts ns' t e1 e2
      split at h
      · cases h; exact toTs_names _ _ _ e1
      · cases h
    · cases h
  | nilr d nm s => simp only [mk, Option.some.injEq, Prod.mk.injEq] at h; rw [← h.1]; intro n hn; cases hn
  | alloc d nm z =>
    simp only [mk] at h
    split at h
    · cases h; intro n hn; cases hn
    · cases h
  | box d nm x w =>
    simp only [mk] at h
    split at h
    · cases h; intro n hn; cases hn
    · cases h
  | mks d nm s a b z =>
    simp only [mk] at h
    split at h
    · split at h
      · cases h; intro n hn; cases hn
      · cases h
    · cases h
  | _ => cases h
mutual
theorem V.plain_ex : ∀ v : V, v.plain = true → ExV σ v
  | .row .., h | .ptr .., h | .rel .., h => by simp [V.plain] at h
  | .ag cs, h => V.plains_ex cs (by simpa [V.plain] using h)
  | .d .., _ | .dx .., _ | .nil _, _ | .pd _, _ | .tp _, _ | .cl .., _ | .u, _ => trivial
theorem V.plains_ex : ∀ vs : List V, V.plains vs = true → ExVs σ vs
  | [], _ => trivial
  | v :: vs, h => by
    simp only [V.plains, Bool.and_eq_true] at h
    exact ⟨V.plain_ex v h.1, V.plains_ex vs h.2⟩
end
theorem ex_val (hex : ∀ t, ExV σ (σ.get t)) {x : X} (hp : x.plain = true) : ExV σ (σ.val x) := by
  cases x with
  | t n => exact hex n
  | c v => exact V.plain_ex v hp
theorem ex_vals (hex : ∀ t, ExV σ (σ.get t)) : ∀ {ps : List (Nat × X)}, ps.all (fun p => p.2.plain) = true → ExVs σ (ps.map fun p => σ.val p.2)
  | [], _ => trivial
  | p :: ps, h => by
    simp only [List.all_cons, Bool.and_eq_true] at h
    exact ⟨ex_val hex h.1, ex_vals hex h.2⟩
/-! Two things made. -/
/-- constants of a list of parts name no object -/
def I.bare : I → Bool
  | .bsl _ _ _ _ _ ps => ps.all fun p => p.2.plain
  | .app _ _ _ x y => x.plain && y.plain
  | _ => true
theorem ps_agr {ps : List (Nat × X)} (ha : ∀ t ∈ Xs.slots (ps.map (·.2)), τ.get t = σ.get t) : (ps.map fun p => τ.val p.2) = ps.map fun p => σ.val p.2 := by
  refine List.map_congr_left fun p hp => val_agr fun t ht => ha t ?_
  clear ha
  induction ps with
  | nil => cases hp
  | cons q ps ih =>
    simp only [List.map_cons, Xs.slots, List.mem_append]
    rcases List.mem_cons.1 hp with rfl | hp
    · exact .inl ht
    · exact .inr (ih hp)
theorem mk_frozen {i : I} {ns : List Nat} (hk : i.bare = true) (hex : ∀ t, ExV σ (σ.get t)) (hf : Frozen ns σ τ) (ha : ∀ t ∈ i.reads, τ.get t = σ.get t) :
    mk τ i = (mk σ i).map fun p => (p.1.filter fun m => !ns.contains m, p.2) := by
  cases i with
  | nilr d nm s => simp [mk]
  | alloc d nm z => simp only [mk]; cases z.mapM Z.v <;> simp
  | box d nm x w =>
    simp only [I.reads] at ha
    simp only [mk, val_agr ha]
    cases cellsOf w (σ.val x) <;> simp
  | mks d nm s a b z =>
    simp only [I.reads, List.mem_append] at ha
    simp only [mk, val_agr (x := a) (fun t h => ha t (.inl h)), val_agr (x := b) (fun t h => ha t (.inr h))]
    split
    · split <;> simp
    · simp
  | bsl d nm s n z ps =>
    simp only [I.reads] at ha
    simp only [mk, ps_agr ha]
    rw [toTs_frozen hf _ (ex_vals hex hk)]
    cases hq : σ.toTs (ps.map fun p => σ.val p.2) with
    | none => rfl
    | some q =>
      obtain ⟨ts, ms⟩ := q
      cases z.t? with
      | none => rfl
      | some t =>
        simp only [Option.map_some]
        cases flatFill t ts _ <;> rfl
  | _ => rfl
theorem and_congr' {a b c d : Prop} (h : a ↔ b) (k : c ↔ d) : (a ∧ c) ↔ (b ∧ d) := ⟨fun x => ⟨h.1 x.1, k.1 x.2⟩, fun x => ⟨h.2 x.1, k.2 x.2⟩⟩
/-- Two things made: in the other order the same. -/
theorem mk_mk {x y : I} {a b : Nat} {σ₁ σ₂ : St} (hx : x.mkn = some a) (hy : y.mkn = some b) (hab : a ≠ b) (hkx : x.bare = true) (hky : y.bare = true) (hex : ∀ t, ExV σ (σ.get t))
    {d e : Nat} (hd : x.dst = some d) (he : y.dst = some e) (hde : d ≠ e) (hrx : e ∉ x.reads) (hry : d ∉ y.reads) (h1 : step σ x = some σ₁) (h2 : step σ₁ y = some σ₂) :
    ∃ τ, step σ y = some τ ∧ step τ x = some σ₂ := by
  obtain ⟨d', hd', q1⟩ := step_mk (σ := σ) hx
  rw [hd] at hd'; cases hd'
  obtain ⟨e', he', q2⟩ := step_mk (σ := σ₁) hy
  rw [he] at he'; cases he'
  rw [q1] at h1
  cases m1 : mk σ x with
  | none => rw [m1] at h1; cases h1
  | some p1 =>
    obtain ⟨ns, o, v⟩ := p1
    rw [m1] at h1
    simp only at h1
    obtain ⟨ρ₁, hn1, rfl⟩ := map_some h1
    obtain ⟨hno1, rfl⟩ := new_some hn1
    rw [obj_none_frz] at hno1
    have F1 : Frozen ns σ (((σ.frz ns).setObj 0 a (some o)).set d v) := Frozen.mk (obj_none_frz.2 hno1)
    have A1 : ∀ t ∈ y.reads, (((σ.frz ns).setObj 0 a (some o)).set d v).get t = σ.get t := fun t ht => by
      rw [St.get_set, if_neg (fun hh => hry (by rw [hh]; exact ht)), St.get_setObj, St.get_frz]
    rw [q2, mk_frozen hky hex F1 A1] at h2
    cases m2 : mk σ y with
    | none => rw [m2] at h2; cases h2
    | some p2 =>
      obtain ⟨ms, p, u1⟩ := p2
      rw [m2] at h2
      simp only [Option.map_some] at h2
      obtain ⟨ρ₂, hn2, rfl⟩ := map_some h2
      obtain ⟨hno2, rfl⟩ := new_some hn2
      rw [obj_none_frz, St.obj_set, St.obj_setObj, if_neg (fun e => hab e.2), obj_none_frz] at hno2
      have n1 : a ∉ ms := fun hm => by obtain ⟨s, es, gr, hh⟩ := mk_names m2 a hm; rw [hno1] at hh; cases hh
      have n2 : b ∉ ns := fun hm => by obtain ⟨s, es, gr, hh⟩ := mk_names m1 b hm; rw [hno2] at hh; cases hh
      have F2 : Frozen ms σ (((σ.frz ms).setObj 0 b (some p)).set e u1) := Frozen.mk (obj_none_frz.2 hno2)
      have A2 : ∀ t ∈ x.reads, (((σ.frz ms).setObj 0 b (some p)).set e u1).get t = σ.get t := fun t ht => by
        rw [St.get_set, if_neg (fun hh => hrx (by rw [hh]; exact ht)), St.get_setObj, St.get_frz]
      obtain ⟨e', he', q3⟩ := step_mk (σ := σ) hy
      rw [he] at he'; cases he'
      refine ⟨((σ.frz ms).setObj 0 b (some p)).set e u1, ?_, ?_⟩
      · rw [q3, m2]
        simp only [St.new, obj_none_frz.2 hno2, Option.map_some]
      · obtain ⟨d', hd', q4⟩ := step_mk (σ := ((σ.frz ms).setObj 0 b (some p)).set e u1) hx
        rw [hd] at hd'; cases hd'
        rw [q4, mk_frozen hkx hex F2 A2, m1]
        have hno : ((((σ.frz ms).setObj 0 b (some p)).set e u1).frz (ns.filter fun m => !ms.contains m)).obj 0 a = none := by
          rw [obj_none_frz, St.obj_set, St.obj_setObj, if_neg (fun e => hab e.2.symm), obj_none_frz]; exact hno1
        simp only [Option.map_some, St.new, hno]
        congr 1
        rw [frz_set, frz_set, frz_setObj _ (fun e => n2 (List.mem_filter.1 e.2).1), frz_setObj _ (fun e => n1 (List.mem_filter.1 e.2).1), frz_filter, frz_filter, frz_frz ns ms]
        rw [setObj_set, setObj_set, setObj_comm (fun e => hab e.2), set_comm hde]
/-! Beside what is appended. -/
def I.apn : I → Option Nat
  | .app _ nm _ _ _ => some nm
  | _ => none
def appN (σ : St) (s nm : Nat) (x y : V) : Option (Nat × Nat × Ob × V) :=
  match σ.els s y with
  | none => none
  | some ys => match x with
    | .nil s' => if s = s' ∧ ys.length ≤ big then match σ.obj 0 nm with
        | none => some (0, nm, .rw s ys true, .row 0 nm 0 ys.length s)
        | some _ => none
      else none
    | .dx _ (.lst s' es) => if s = s' ∧ 0 < ys.length ∧ es.length + ys.length ≤ big then match σ.obj 0 nm with
        | none => some (0, nm, .rw s (es ++ ys) true, .row 0 nm 0 (es.length + ys.length) s)
        | some _ => none
      else none
    | .row l n lo len s' => if s = s' then match σ.obj l n with
        | some (.rw _ es _) => if len = es.length ∧ es.length + ys.length ≤ big ∧ lo = 0 then some (l, n, .rw s (es ++ ys) true, .row l n lo (len + ys.length) s) else none
        | _ => none
      else none
    | _ => none
theorem app_N {d nm s : Nat} {x y : V} : σ.app d nm s x y = (appN σ s nm x y).map fun p => (σ.setObj p.1 p.2.1 (some p.2.2.1)).set d p.2.2.2 := by
  unfold St.app appN
  cases σ.els s y with
  | none => rfl
  | some ys =>
    cases x with
    | nil s' =>
      simp only
      by_cases h : s = s' ∧ ys.length ≤ big
      · rw [if_pos h, if_pos h]; unfold St.new; cases σ.obj 0 nm <;> rfl
      · rw [if_neg h, if_neg h]; rfl
    | dx p t => cases t with
      | lst s' es =>
        simp only
        by_cases h : s = s' ∧ 0 < ys.length ∧ es.length + ys.length ≤ big
        · rw [if_pos h, if_pos h]; unfold St.new; cases σ.obj 0 nm <;> rfl
        · rw [if_neg h, if_neg h]; rfl
      | _ => rfl
    | row l n lo len s' =>
      simp only
      by_cases h : s = s'
      · rw [if_pos h, if_pos h]
        cases σ.obj l n with
        | none => rfl
        | some o => cases o with
          | rw s1 es gr =>
            simp only
            by_cases h2 : len = es.length ∧ es.length + ys.length ≤ big ∧ lo = 0
            · rw [if_pos h2, if_pos h2]; rfl
            · rw [if_neg h2, if_neg h2]; rfl
          | _ => rfl
      · rw [if_neg h, if_neg h]; rfl
    | _ => rfl
theorem appN_at {s nm : Nat} {x y : V} {l n : Nat} {o : Ob} {v : V} (h : appN σ s nm x y = some (l, n, o, v)) : (l = 0 ∧ n = nm ∧ σ.obj 0 nm = none) ∨ σ.obj l n ≠ none := by
  unfold appN at h
  split at h
  · cases h
  · split at h
    · split at h
      · split at h
        · rename_i hno; cases h; exact .inl ⟨rfl, rfl, hno⟩
        · cases h
      · cases h
    · split at h
      · split at h
        · rename_i hno; cases h; exact .inl ⟨rfl, rfl, hno⟩
        · cases h
      · cases h
    · split at h
      · split at h
        · rename_i ho
          split at h
          · cases h; right; rw [ho]; simp
          · cases h
        · cases h
      · cases h
    · cases h
theorem appN_agr {s nm : Nat} {x y : V} (hF : Frozen [] σ τ) (hx : ExV σ x) (hy : ExV σ y) (hn : τ.obj 0 nm = none ↔ σ.obj 0 nm = none) : appN τ s nm x y = appN σ s nm x y := by
  have hobj : ∀ l n, σ.obj l n ≠ none → τ.obj l n = σ.obj l n := fun l n h => by have := hF l n h; simpa using this
  have hrow : ∀ l n lo len, ((σ.rowOf l n lo len).isSome = true ∨ σ.obj l n = some .gone ∨ (σ.boxOf l n).isSome = true) → σ.obj l n ≠ none := fun l n lo len h e => by
    simp only [St.rowOf, St.boxOf, e] at h; rcases h with h | h | h <;> cases h
  have hels : τ.els s y = σ.els s y := by
    cases y with
    | row l n lo len s' =>
      simp only [St.els]
      have : τ.rowOf l n lo len = σ.rowOf l n lo len := by unfold St.rowOf; rw [hobj l n (hrow _ _ _ _ hy)]
      rw [this]
    | d p t => cases t <;> rfl
    | dx p t => cases t <;> rfl
    | _ => rfl
  have hnew : ∀ (β : Type) (f : β) (g : β), (match τ.obj 0 nm with | none => f | some _ => g) = (match σ.obj 0 nm with | none => f | some _ => g) := fun β f g => by
    cases h1 : σ.obj 0 nm with
    | none => rw [hn.2 h1]
    | some o => rw [hobj 0 nm (by rw [h1]; simp), h1]
  unfold appN
  rw [hels]
  cases σ.els s y with
  | none => rfl
  | some ys =>
    simp only
    cases x with
    | nil s' => simp only [hnew]
    | dx p t => cases t with
      | lst s' es => simp only [hnew]
      | _ => rfl
    | row l n lo len s' => simp only; rw [hobj l n (hrow _ _ _ _ hx)]
    | _ => rfl
mutual
theorem toT_flat : ∀ (v : V) (t : T) (ns : List Nat), σ.toT v = some (t, ns) → t.flat = true → ns = [] ∧ τ.toT v = some (t, [])
  | .d true t', t, ns, h, _ | .dx true t', t, ns, h, _ => by
    simp only [St.toT, Option.some.injEq, Prod.mk.injEq] at h
    exact ⟨h.2.symm, by simp [St.toT, h.1]⟩
  | .nil s, t, ns, h, hf => by simp only [St.toT, Option.some.injEq, Prod.mk.injEq] at h; rw [← h.1] at hf; cases hf
  | .row l n lo len s, t, ns, h, hf => by
    simp only [St.toT] at h
    split at h
    · split at h
      · cases h; cases hf
      · cases h
    · split at h
      · cases h; cases hf
      · cases h
    · cases h
  | .ag cs, t, ns, h, hf => by
    simp only [St.toT] at h
    split at h
    · cases h; cases hf
    · cases h
  | .d false t', t, ns, h, _ | .dx false t', t, ns, h, _ | .ptr .., t, ns, h, _ | .rel .., t, ns, h, _ | .pd _, t, ns, h, _ | .tp _, t, ns, h, _ | .cl .., t, ns, h, _ | .u, t, ns, h, _ => by simp [St.toT] at h
theorem toTs_flat : ∀ (vs : List V) (ts : List T) (ns : List Nat), σ.toTs vs = some (ts, ns) → ts.all T.flat = true → ns = [] ∧ τ.toTs vs = some (ts, [])
  | [], ts, ns, h, _ => by
    simp only [St.toTs, Option.some.injEq, Prod.mk.injEq] at h
    exact ⟨h.2.symm, by simp [St.toTs, h.1]⟩
  | v :: vs, ts, ns, h, hf => by
    simp only [St.toTs] at h
    split at h
    · rename_i t1 n1 ts1 m1 e1 e2
      cases h
      simp only [List.all_cons, Bool.and_eq_true] at hf
      obtain ⟨rfl, r1⟩ := toT_flat v t1 n1 e1 hf.1
      obtain ⟨rfl, r2⟩ := toTs_flat vs ts1 m1 e2 hf.2
      exact ⟨rfl, by simp only [St.toTs, r1, r2]; rfl⟩
    · cases h
end
theorem toT_noL (v : V) (t : T) (ns : List Nat) (h : σ.toT v = some (t, ns)) (hf : t.noL = true) : ns = [] ∧ τ.toT v = some (t, []) := by
  cases v with
  | ag cs =>
    simp only [St.toT] at h
    split at h
    · rename_i ts ns' e
      cases h
      obtain ⟨rfl, r⟩ := toTs_flat (τ := τ) cs ts _ e hf
      exact ⟨rfl, by simp only [St.toT, r]⟩
    · cases h
  | d p t' =>
    cases p with
    | true => simp only [St.toT, Option.some.injEq, Prod.mk.injEq] at h; exact ⟨h.2.symm, by simp [St.toT, h.1]⟩
    | false => simp [St.toT] at h
  | dx p t' =>
    cases p with
    | true => simp only [St.toT, Option.some.injEq, Prod.mk.injEq] at h; exact ⟨h.2.symm, by simp [St.toT, h.1]⟩
    | false => simp [St.toT] at h
  | nil s => simp only [St.toT, Option.some.injEq, Prod.mk.injEq] at h; rw [← h.1] at hf; cases hf
  | row l n lo len s =>
    have : t.flat = true := by
      simp only [St.toT] at h
      split at h
      · split at h
        · cases h; cases hf
        · cases h
      · split at h
        · cases h; cases hf
        · cases h
      · cases h
    exact toT_flat _ _ _ h this
  | _ => simp [St.toT] at h
theorem toTs_noL : ∀ (vs : List V) (ts : List T) (ns : List Nat), σ.toTs vs = some (ts, ns) → ts.all T.noL = true → ns = [] ∧ τ.toTs vs = some (ts, [])
  | [], ts, ns, h, _ => by
    simp only [St.toTs, Option.some.injEq, Prod.mk.injEq] at h
    exact ⟨h.2.symm, by simp [St.toTs, h.1]⟩
  | v :: vs, ts, ns, h, hf => by
    simp only [St.toTs] at h
    split at h
    · rename_i t1 n1 ts1 m1 e1 e2
      cases h
      simp only [List.all_cons, Bool.and_eq_true] at hf
      obtain ⟨rfl, r1⟩ := toT_noL (τ := τ) v t1 n1 e1 hf.1
      obtain ⟨rfl, r2⟩ := toTs_noL vs ts1 m1 e2 hf.2
      exact ⟨rfl, by simp only [St.toTs, r1, r2]; rfl⟩
    · cases h
theorem mk_any {i : I} {ns : List Nat} {o : Ob} {v : V} (ht : i.thaw = true) (ha : ∀ t ∈ i.reads, τ.get t = σ.get t) (h : mk σ i = some (ns, o, v)) : ns = [] ∧ mk τ i = some ([], o, v) := by
  cases i with
  | nilr d nm s => simp only [mk, Option.some.injEq, Prod.mk.injEq] at h ⊢; exact ⟨h.1.symm, trivial, h.2⟩
  | alloc d nm z =>
    simp only [mk] at h ⊢
    split at h
    · simp only [Option.some.injEq, Prod.mk.injEq] at h ⊢; exact ⟨h.1.symm, trivial, h.2⟩
    · cases h
  | box d nm x w =>
    simp only [I.reads] at ha
    simp only [mk, val_agr ha] at h ⊢
    split at h
    · simp only [Option.some.injEq, Prod.mk.injEq] at h ⊢; exact ⟨h.1.symm, trivial, h.2⟩
    · cases h
  | mks d nm s a b z =>
    simp only [I.reads, List.mem_append] at ha
    simp only [mk, val_agr (x := a) (fun t h => ha t (.inl h)), val_agr (x := b) (fun t h => ha t (.inr h))] at h ⊢
    split at h
    · split at h
      · rename_i hc
        simp only [Option.some.injEq, Prod.mk.injEq] at h
        rw [if_pos hc]
        simp only [Option.some.injEq, Prod.mk.injEq]; exact ⟨h.1.symm, trivial, h.2⟩
      · cases h
    · cases h
  | bsl d nm s n z ps =>
    simp only [I.reads] at ha
    simp only [mk, ps_agr ha] at h ⊢
    cases hq : σ.toTs (ps.map fun p => σ.val p.2) with
    | none => rw [hq] at h; cases h
    | some q =>
      obtain ⟨ts, ms⟩ := q
      rw [hq] at h
      cases hz : z.t? with
      | none => rw [hz] at h; cases h
      | some t =>
        rw [hz] at h
        simp only at h
        have key : ms = [] ∧ τ.toTs (ps.map fun p => σ.val p.2) = some (ts, []) := by
          by_cases he : ps.isEmpty = true
          · have : ps = [] := by simpa using he
            subst this
            simp only [List.map_nil, St.toTs, Option.some.injEq, Prod.mk.injEq] at hq ⊢
            exact ⟨hq.2.symm, hq.1, trivial⟩
          · simp only [I.thaw, hz, Bool.or_eq_true, he, Bool.false_eq_true, or_false] at ht
            refine toTs_noL _ ts ms hq ?_
            unfold flatFill at h
            split at h
            · rename_i e
              split at e
              · cases e
              · rename_i hc
                cases hall : ts.all T.noL with
                | true => rfl
                | false => exact absurd ⟨ht, hall⟩ hc
            · cases h
        obtain ⟨rfl, k2⟩ := key
        rw [k2]
        simp only
        split at h
        · simp only [Option.some.injEq, Prod.mk.injEq] at h ⊢; exact ⟨h.1.symm, trivial, h.2⟩
        · cases h
  | _ => cases h
theorem step_appE {d nm s : Nat} {p q : X} : step σ (.app d nm s p q) = (appN σ s nm (σ.val p) (σ.val q)).map fun p => (σ.setObj p.1 p.2.1 (some p.2.2.1)).set d p.2.2.2 := app_N
theorem step_app {x : I} {nm : Nat} (h : x.apn = some nm) : ∃ d s p q, x = .app d nm s p q := by
  cases x <;> simp [I.apn] at h
  subst h
  exact ⟨_, _, _, _, rfl⟩
theorem app_mk {x y : I} {a b : Nat} {σ₁ σ₂ : St} (hx : x.apn = some a) (hy : y.mkn = some b) (hab : a ≠ b) (hkx : x.bare = true) (hth : y.thaw = true) (hex : ∀ t, ExV σ (σ.get t))
    {d e : Nat} (hd : x.dst = some d) (he : y.dst = some e) (hde : d ≠ e) (hrx : e ∉ x.reads) (hry : d ∉ y.reads) (h1 : step σ x = some σ₁) (h2 : step σ₁ y = some σ₂) :
    ∃ τ, step σ y = some τ ∧ step τ x = some σ₂ := by
  obtain ⟨d', s, p, q, rfl⟩ := step_app hx
  cases hd
  simp only [I.bare, Bool.and_eq_true] at hkx
  simp only [I.reads, List.mem_append, not_or] at hrx
  rw [step_appE] at h1
  obtain ⟨⟨l, n, o, v⟩, hN, rfl⟩ := map_some h1
  simp only at h2
  obtain ⟨e', he', q2⟩ := step_mk (σ := (σ.setObj l n (some o)).set d v) hy
  rw [he] at he'; cases he'
  rw [q2] at h2
  cases m2 : mk ((σ.setObj l n (some o)).set d v) y with
  | none => rw [m2] at h2; cases h2
  | some p2 =>
    obtain ⟨ms, r, w⟩ := p2
    rw [m2] at h2
    simp only at h2
    have A : ∀ t ∈ y.reads, σ.get t = ((σ.setObj l n (some o)).set d v).get t := fun t ht => by
      rw [St.get_set, if_neg (fun hh => hry (by rw [hh]; exact ht)), St.get_setObj]
    obtain ⟨rfl, m2'⟩ := mk_any (τ := σ) hth A m2
    obtain ⟨ρ₂, hn2, rfl⟩ := map_some h2
    obtain ⟨hno2, rfl⟩ := new_some hn2
    rw [obj_none_frz, St.obj_set, St.obj_setObj] at hno2
    have hne : ¬ (l = 0 ∧ n = b) := fun hh => by rw [if_pos hh] at hno2; cases hno2
    rw [if_neg hne] at hno2
    obtain ⟨e', he', q3⟩ := step_mk (σ := σ) hy
    rw [he] at he'; cases he'
    refine ⟨(σ.setObj 0 b (some r)).set e w, by rw [q3, m2']; simp [St.frz, St.new, hno2], ?_⟩
    rw [step_appE]
    have F : Frozen [] σ ((σ.setObj 0 b (some r)).set e w) := fun l' n' hn' => by
      rw [St.obj_set, St.obj_setObj, if_neg (fun hh => by obtain ⟨rfl, rfl⟩ := hh; exact hn' hno2)]
      simp
    have vp : ∀ z : X, e ∉ z.slots → ((σ.setObj 0 b (some r)).set e w).val z = σ.val z := fun z hz => by
      rw [val_set hz]; cases z with
      | t k => exact St.get_setObj _ _ _ _ _
      | c v => rfl
    rw [vp p hrx.1, vp q hrx.2, appN_agr F (ex_val hex hkx.1) (ex_val hex hkx.2) (by rw [St.obj_set, St.obj_setObj, if_neg (fun hh => hab hh.2.symm)]), hN]
    simp only [Option.map_some, Option.some.injEq, St.frz, List.foldl_nil]
    rw [setObj_set, setObj_set, setObj_comm (l := 0) (fun hh => hne ⟨hh.1.symm, hh.2.symm⟩), set_comm hde.symm]
theorem mk_app {x y : I} {a b : Nat} {σ₁ σ₂ : St} (hx : x.mkn = some a) (hy : y.apn = some b) (hab : a ≠ b) (hky : y.bare = true) (hth : x.thaw = true) (hex : ∀ t, ExV σ (σ.get t))
    {d e : Nat} (hd : x.dst = some d) (he : y.dst = some e) (hde : d ≠ e) (hrx : e ∉ x.reads) (hry : d ∉ y.reads) (h1 : step σ x = some σ₁) (h2 : step σ₁ y = some σ₂) :
    ∃ τ, step σ y = some τ ∧ step τ x = some σ₂ := by
  obtain ⟨e', s, p, q, rfl⟩ := step_app hy
  cases he
  simp only [I.bare, Bool.and_eq_true] at hky
  simp only [I.reads, List.mem_append, not_or] at hry
  obtain ⟨d', hd', q1⟩ := step_mk (σ := σ) hx
  rw [hd] at hd'; cases hd'
  rw [q1] at h1
  cases m1 : mk σ x with
  | none => rw [m1] at h1; cases h1
  | some p1 =>
    obtain ⟨ns, o, v⟩ := p1
    rw [m1] at h1
    simp only at h1
    obtain ⟨rfl, _⟩ := mk_any (τ := σ) hth (fun _ _ => rfl) m1
    obtain ⟨ρ₁, hn1, rfl⟩ := map_some h1
    obtain ⟨hno1, rfl⟩ := new_some hn1
    simp only [St.frz, List.foldl_nil] at h2 hno1 ⊢
    have F : Frozen [] σ ((σ.setObj 0 a (some o)).set d v) := fun l' n' hn' => by
      rw [St.obj_set, St.obj_setObj, if_neg (fun hh => by obtain ⟨rfl, rfl⟩ := hh; exact hn' hno1)]
      simp
    have vp : ∀ z : X, d ∉ z.slots → ((σ.setObj 0 a (some o)).set d v).val z = σ.val z := fun z hz => by
      rw [val_set hz]; cases z with
      | t k => exact St.get_setObj _ _ _ _ _
      | c v => rfl
    rw [step_appE] at h2 ⊢
    rw [vp p hry.1, vp q hry.2, appN_agr F (ex_val hex hky.1) (ex_val hex hky.2) (by rw [St.obj_set, St.obj_setObj, if_neg (fun hh => hab hh.2)])] at h2
    cases hN : appN σ s b (σ.val p) (σ.val q) with
    | none => rw [hN] at h2; cases h2
    | some r =>
      obtain ⟨l, n, r, w⟩ := r
      rw [hN] at h2
      simp only [Option.map_some, Option.some.injEq] at h2 ⊢
      refine ⟨_, rfl, ?_⟩
      have hne : ¬ (l = 0 ∧ n = a) := fun hh => by
        obtain ⟨rfl, rfl⟩ := hh
        rcases appN_at hN with h | h
        · exact hab h.2.1
        · exact h hno1
      obtain ⟨d', hd', q4⟩ := step_mk (σ := (σ.setObj l n (some r)).set e w) hx
      rw [hd] at hd'; cases hd'
      have A : ∀ t ∈ x.reads, ((σ.setObj l n (some r)).set e w).get t = σ.get t := fun t ht => by
        rw [St.get_set, if_neg (fun hh => hrx (by rw [hh]; exact ht)), St.get_setObj]
      rw [q4, (mk_any hth A m1).2]
      have hno : ((σ.setObj l n (some r)).set e w).obj 0 a = none := by rw [St.obj_set, St.obj_setObj, if_neg hne]; exact hno1
      simp only [St.frz, List.foldl_nil, St.new, hno, Option.map_some, Option.some.injEq]
      rw [← h2, setObj_set, setObj_set, setObj_comm hne, set_comm hde.symm]
/-! The check, and the law. -/
def comM (x y : G) : Bool :=
  x.g.isNone && y.g.isNone && sep x y && x.i.bare && y.i.bare &&
  (match x.i.mkn, y.i.mkn with
    | some a, some b => decide (a ≠ b)
    | some a, none => (match y.i.apn with | some b => decide (a ≠ b) && x.i.thaw | none => false)
    | none, some b => (match x.i.apn with | some a => decide (a ≠ b) && y.i.thaw | none => false)
    | none, none => false)
theorem op1_plain {i : I} {σ' : St} (hm : i.mkn ≠ none ∨ i.apn ≠ none) (h : Op1 P E σ ⟨i, none⟩ σ') : step σ i = some σ' := by
  cases h with
  | step hg h => exact h
  | skip hg => simp [St.wants] at hg
  | _ => rcases hm with hm | hm <;> exact absurd rfl hm
def com2 (E : Env) (x y : G) : Bool := com E x y || comM x y
theorem swap2 {x y : G} {σ₁ σ₂ : St} (hE : ExtOk E) (hex : ∀ t, ExV σ (σ.get t)) (hc : com2 E x y = true) (h1 : Op1 P E σ x σ₁) (h2 : Op1 P E σ₁ y σ₂) : ∃ τ, Op1 P E σ y τ ∧ Op1 P E τ x σ₂ := by
  simp only [com2, Bool.or_eq_true] at hc
  rcases hc with hc | hc
  · exact swap hE hex hc h1 h2
  · obtain ⟨x, gx⟩ := x
    obtain ⟨y, gy⟩ := y
    simp only [comM, Bool.and_eq_true, Option.isNone_iff_eq_none] at hc
    obtain ⟨⟨⟨⟨⟨rfl, rfl⟩, hs⟩, bx⟩, by'⟩, hc⟩ := hc
    have dst : ∀ i : I, i.mkn ≠ none ∨ i.apn ≠ none → ∃ d, i.dst = some d := fun i h => by
      cases i <;> first | exact ⟨_, rfl⟩ | (rcases h with h | h <;> exact absurd rfl h)
    have fin : ∀ (hx : x.mkn ≠ none ∨ x.apn ≠ none) (hy : y.mkn ≠ none ∨ y.apn ≠ none),
        (∀ d e, x.dst = some d → y.dst = some e → d ≠ e → e ∉ x.reads → d ∉ y.reads → step σ x = some σ₁ → step σ₁ y = some σ₂ → ∃ τ, step σ y = some τ ∧ step τ x = some σ₂) →
        ∃ τ, Op1 P E σ ⟨y, none⟩ τ ∧ Op1 P E τ ⟨x, none⟩ σ₂ := fun hx hy k => by
      obtain ⟨d, hd⟩ := dst x hx
      obtain ⟨e, he⟩ := dst y hy
      simp only [sep, hd, he, Bool.and_eq_true, decide_eq_true_eq, G.reads, List.nil_append, Bool.not_eq_true', List.contains_eq_mem, decide_eq_false_iff_not] at hs
      obtain ⟨τ, t1, t2⟩ := k d e hd he (fun hh => hs.1.2 (by rw [hh])) hs.2 hs.1.1 (op1_plain hx h1) (op1_plain hy h2)
      exact ⟨τ, .step rfl t1, .step rfl t2⟩
    split at hc
    · rename_i a b ha hb
      exact fin (.inl (by rw [ha]; simp)) (.inl (by rw [hb]; simp)) fun d e hd he hde hrx hry => mk_mk ha hb (by simpa using hc) bx by' hex hd he hde hrx hry
    · rename_i a ha hb
      split at hc
      · rename_i b hb'
        simp only [Bool.and_eq_true, decide_eq_true_eq] at hc
        exact fin (.inl (by rw [ha]; simp)) (.inr (by rw [hb']; simp)) fun d e hd he hde hrx hry => mk_app ha hb' hc.1 by' hc.2 hex hd he hde hrx hry
      · cases hc
    · rename_i b ha hb
      split at hc
      · rename_i a ha'
        simp only [Bool.and_eq_true, decide_eq_true_eq] at hc
        exact fin (.inr (by rw [ha']; simp)) (.inl (by rw [hb]; simp)) fun d e hd he hde hrx hry => app_mk ha' hb hc.1 bx hc.2 hex hd he hde hrx hry
      · cases hc
    · cases hc
end
end Go.Proofs.YtcgjebaomhfbdaaGreat.Vm

/- Lists of operations in other orders. -/
namespace Go.Proofs.YtcgjebaomhfbdaaGreat.Vm
open Go
section
variable {P : Program} {E : Env}
theorem opwp_ex {ops : Array Oper} {o : Oper} {K : Act → World → Prop} {a : Act} {w : World} (h : OpWp P ops (fun _ _ _ => False) o K a w) : ∃ a' w', K a' w' := by
  unfold OpWp at h
  split at h
  · have h := Or.inl (b := False) h
    rcases h with h | h
    · unfold Oper.wp at h
      generalize (execOp a.eval o).run P w = r at h
      cases r with
      | ok n w' =>
        cases n with
        | value v => exact ⟨_, _, h⟩
        | skip => exact ⟨_, _, h⟩
        | defer d => exact ⟨_, _, h⟩
        | enter f args =>
          obtain ⟨e, w'', fr, hR, _⟩ := h []
          cases e with
          | returned v => exact ⟨_, _, hR⟩
          | panicked c => exact hR.elim
          | outgrown => obtain ⟨_, _, hR⟩ := hR; exact hR.elim
        | row row args =>
          obtain ⟨v, w'', hR, _⟩ := h (default : Frame) []
          exact ⟨_, _, hR⟩
        | _ => exact h.elim
      | halt x w' => cases x <;> exact h.elim
    · exact h.elim
  · exact ⟨_, _, h⟩
/-- a state of the machine that stands for one of Go's -/
def Good (nt : Nat) (σ : St) : Prop := ∃ g tmps rts w, Rel g σ tmps rts w ∧ tmps.size = nt
theorem op_good (hE : EnvOk P E) {nt : Nat} {i : G} {o : Oper} {ops : Array Oper} {σ σ' : St} (hok : okG P nt ops i o = true) (h : Good nt σ) (h1 : Op1 P E σ i σ') : Good nt σ' := by
  obtain ⟨g, tmps, rts, w, R, hnt⟩ := h
  have := op_wp (K := fun a' w' => Next g w rts nt σ.up.length σ' [] a' w') (Q := fun _ _ _ => False) hE hok R hnt h1 (fun _ _ h => h)
  obtain ⟨a', w', g', tmps', _, hs, R', _⟩ := opwp_ex this
  exact ⟨g', tmps', rts, w', R', hs⟩
theorem Ops1.append {σ σ₁ σ' : St} {is js : List G} (h : Ops1 P E σ is σ₁) (k : Ops1 P E σ₁ js σ') : Ops1 P E σ (is ++ js) σ' := by
  induction h with
  | nil => exact k
  | cons h _ ih => exact .cons h (ih k)
theorem Ops1.split : ∀ {is js : List G} {σ σ' : St}, Ops1 P E σ (is ++ js) σ' → ∃ σ₁, Ops1 P E σ is σ₁ ∧ Ops1 P E σ₁ js σ'
  | [], _, σ, _, h => ⟨σ, .nil, h⟩
  | i :: is, js, σ, σ', h => by
    cases h with
    | cons h hr =>
      obtain ⟨σ₁, h1, h2⟩ := Ops1.split hr
      exact ⟨σ₁, .cons h h1, h2⟩
/-- the operations of a region are what the machine says -/
def AllOk (P : Program) (nt : Nat) (ops : Array Oper) (is : List G) : Prop := ∀ i ∈ is, ∃ o, okG P nt ops i o = true
/-- One operation goes ahead of those that it may change places with. -/
theorem bubble (hE : EnvOk P E) (hX : ExtOk E) {nt : Nat} {ops : Array Oper} {x : G} : ∀ {is : List G} {σ σ' : St} {js : List G}, Good nt σ → AllOk P nt ops (is ++ x :: js) → (∀ i ∈ is, com2 E i x = true) →
    Ops1 P E σ (is ++ x :: js) σ' → Ops1 P E σ (x :: (is ++ js)) σ'
  | [], _, _, _, _, _, _, h => h
  | i :: is, σ, σ', js, hg, ha, hc, h => by
    cases h with
    | @cons _ σ₁ _ _ _ h hr =>
      obtain ⟨o, ho⟩ := ha i (by simp)
      have hg1 := op_good hE ho hg h
      have hr' := bubble hE hX hg1 (fun k hk => ha k (by simp at hk ⊢; exact .inr hk)) (fun k hk => hc k (by simp [hk])) hr
      cases hr' with
      | @cons _ σ₂ _ _ _ h2 hr2 =>
        obtain ⟨g, tmps, rts, w, R, _⟩ := hg
        obtain ⟨τ, t1, t2⟩ := swap2 hX (fun t => R.ex t) (hc i (by simp)) h h2
        exact .cons t1 (.cons t2 hr2)
/-- Orders that differ only in operations that may change places. -/
inductive Conn (C : Nat → Nat → Prop) : List Nat → List Nat → Prop
  | nil : Conn C [] []
  | cons {i a b r} (hc : ∀ j ∈ a, C j i) (h : Conn C r (a ++ b)) : Conn C (i :: r) (a ++ i :: b)
theorem lin (hE : EnvOk P E) (hX : ExtOk E) {nt : Nat} {ops : Array Oper} {it : Nat → G} {r s : List Nat} (hc : Conn (fun j i => com2 E (it j) (it i) = true) r s) : ∀ {σ σ' : St}, Good nt σ → AllOk P nt ops (s.map it) →
    Ops1 P E σ (s.map it) σ' → Ops1 P E σ (r.map it) σ' := by
  induction hc with
  | nil => intro σ σ' _ _ h; exact h
  | @cons i a b r hc _ ih =>
    intro σ σ' hg ha h
    rw [List.map_append, List.map_cons] at h ha
    have h' := bubble hE hX hg ha (fun k hk => by
      obtain ⟨j, hj, rfl⟩ := List.mem_map.1 hk
      exact hc j hj) h
    cases h' with
    | @cons _ σ₁ _ _ _ h1 hr =>
      obtain ⟨o, ho⟩ := ha (it i) (by simp)
      refine .cons h1 (ih (op_good hE ho hg h1) (fun k hk => ha k ?_) (by rw [List.map_append]; exact hr))
      rw [List.map_append] at hk
      simp only [List.mem_append, List.mem_cons] at hk ⊢
      rcases hk with hk | hk
      · exact .inl hk
      · exact .inr (.inr hk)
end
end Go.Proofs.YtcgjebaomhfbdaaGreat.Vm

/- Every order that Go may draw. -/
namespace Go.Proofs.YtcgjebaomhfbdaaGreat.Vm
open Go
def itG (is : List G) (k : Nat) : G := is.getD k ⟨.bad, none⟩
def maskOf (acc : List Nat) (o : Oper) : Nat := o.after.toList.foldl (fun s e => if Region.binds .any e then s ||| 2 ^ e.on ||| acc.getD e.on 0 else s) 0
def befs : List Oper → List Nat → List Nat
  | [], acc => acc
  | o :: os, acc => befs os (acc ++ [maskOf acc o])
theorem mask_bit (acc : List Nat) (j : Nat) : ∀ (l : List Edge) (s : Nat), (l.foldl (fun s e => if Region.binds .any e then s ||| 2 ^ e.on ||| acc.getD e.on 0 else s) s).testBit j = true →
    s.testBit j = true ∨ ∃ e ∈ l, Region.binds .any e = true ∧ (e.on = j ∨ (acc.getD e.on 0).testBit j = true)
  | [], s, h => .inl h
  | e :: l, s, h => by
    simp only [List.foldl_cons] at h
    rcases mask_bit acc j l _ h with h | ⟨e', he, hb⟩
    · split at h
      · rename_i hb
        simp only [Nat.testBit_or, Bool.or_eq_true] at h
        rcases h with (h | h) | h
        · exact .inl h
        · refine .inr ⟨e, by simp, hb, .inl ?_⟩
          rw [Nat.testBit_two_pow] at h
          exact of_decide_eq_true h
        · exact .inr ⟨e, by simp, hb, .inr h⟩
      · exact .inl h
    · exact .inr ⟨e', by simp [he], hb⟩
theorem befs_len : ∀ (os : List Oper) (acc : List Nat), (befs os acc).length = acc.length + os.length
  | [], acc => by simp [befs]
  | o :: os, acc => by simp only [befs, befs_len os, List.length_append, List.length_cons, List.length_nil]; omega
theorem befs_old : ∀ (os : List Oper) (acc : List Nat) (i : Nat), i < acc.length → (befs os acc).getD i 0 = acc.getD i 0
  | [], _, _, _ => rfl
  | o :: os, acc, i, h => by
    simp only [befs]
    rw [befs_old os _ i (by simp; omega)]
    simp [List.getElem?_append_left h]
theorem befs_spec : ∀ (os : List Oper) (acc : List Nat) (i j : Nat), acc.length ≤ i → ((befs os acc).getD i 0).testBit j = true →
    ∃ o, os[i - acc.length]? = some o ∧ ∃ e ∈ o.after.toList, Region.binds .any e = true ∧ (e.on = j ∨ e.on < i ∧ ((befs os acc).getD e.on 0).testBit j = true)
  | [], acc, i, j, hi, h => by
    simp only [befs] at h
    have : acc.getD i 0 = 0 := by simp [List.getElem?_eq_none hi]
    rw [this] at h
    simp at h
  | o :: os, acc, i, j, hi, h => by
    simp only [befs] at h ⊢
    by_cases he : i = acc.length
    · subst he
      rw [befs_old os _ _ (by simp)] at h
      have hm : (acc ++ [maskOf acc o]).getD acc.length 0 = maskOf acc o := by simp
      rw [hm] at h
      refine ⟨o, by simp, ?_⟩
      rcases mask_bit acc j o.after.toList 0 h with h | ⟨e, hmem, hb, h⟩
      · simp at h
      · refine ⟨e, hmem, hb, h.imp id fun h => ?_⟩
        have hlt : e.on < acc.length := by
          rcases Nat.lt_or_ge e.on acc.length with h' | h'
          · exact h'
          · have : acc.getD e.on 0 = 0 := by simp [List.getElem?_eq_none h']
            rw [this] at h; simp at h
        refine ⟨hlt, ?_⟩
        rw [befs_old os _ _ (by simp; omega)]
        simpa [List.getElem?_append_left hlt] using h
    · obtain ⟨o', ho, e, hmem, hb, h'⟩ := befs_spec os (acc ++ [maskOf acc o]) i j (by simp; omega) h
      refine ⟨o', ?_, e, hmem, hb, h'⟩
      have : i - acc.length = (i - (acc ++ [maskOf acc o]).length) + 1 := by simp; omega
      rw [this, List.getElem?_cons_succ]; exact ho
section
variable {P : Program} {E : Env} {is : List G} {ops : Array Oper}
/-- what has been listed is closed under what goes ahead -/
def Closed (ops : Array Oper) (listed : Array Bool) : Prop := ∀ (i : Nat) (o : Oper), ops[i]? = some o → listed.getD i true = true → ∀ e ∈ o.after.toList, Region.binds .any e = true → listed.getD e.on false = true
def Ahead (ops : Array Oper) : Prop := ∀ (i : Nat) (o : Oper), ops[i]? = some o → ∀ e ∈ o.after.toList, Region.binds .any e = true → e.on < i
theorem getD_both {listed : Array Bool} {i : Nat} (h : i < listed.size) : listed.getD i false = listed.getD i true := by
  simp only [Array.getD_eq_getD_getElem?, Array.getElem?_eq_getElem h, Option.getD_some]
theorem reach {listed : Array Bool} (hs : listed.size = ops.size) (hc : Closed ops listed) : ∀ (n i : Nat) (o : Oper), i ≤ n → ops[i]? = some o → (∀ e ∈ o.after.toList, Region.binds .any e = true → listed.getD e.on false = true) →
    ∀ j, ((befs ops.toList []).getD i 0).testBit j = true → listed.getD j false = true := by
  intro n
  induction n with
  | zero =>
    intro i o hi ho hp j hb
    obtain ⟨o', ho', e, hm, hbd, h⟩ := befs_spec ops.toList [] i j (by simp) hb
    have : o' = o := by
      simp only [List.length_nil, Nat.sub_zero, Array.getElem?_toList] at ho'
      rw [ho] at ho'; cases ho'; rfl
    subst this
    rcases h with rfl | ⟨hlt, _⟩
    · exact hp e hm hbd
    · omega
  | succ n ih =>
    intro i o hi ho hp j hb
    obtain ⟨o', ho', e, hm, hbd, h⟩ := befs_spec ops.toList [] i j (by simp) hb
    have : o' = o := by
      simp only [List.length_nil, Nat.sub_zero, Array.getElem?_toList] at ho'
      rw [ho] at ho'; cases ho'; rfl
    subst this
    rcases h with rfl | ⟨hlt, h⟩
    · exact hp e hm hbd
    · have hl := hp e hm hbd
      have hlt2 : e.on < ops.size := by
        have := (Array.getElem?_eq_some_iff.1 ho).1; omega
      have hl' : listed.getD e.on true = true := by rw [← getD_both (by omega)]; exact hl
      exact ih e.on ops[e.on] (by omega) (Array.getElem?_eq_getElem hlt2) (fun e' hm' hb' => hc e.on _ (Array.getElem?_eq_getElem hlt2) hl' e' hm' hb') j h
def remaining (n : Nat) (listed : Array Bool) : List Nat := (List.range n).filter fun i => !listed.getD i true
theorem range_split {n i : Nat} (h : i < n) : List.range n = List.range i ++ i :: List.range' (i + 1) (n - i - 1) := by
  rw [List.range_eq_range', List.range_eq_range']
  have e : n = i + (1 + (n - i - 1)) := by omega
  rw [e, ← List.range'_append_1, ← List.range'_append_1]
  simp
theorem mem_ready {listed : Array Bool} {i : Nat} : i ∈ Region.ready .any ops listed ↔ i < ops.size ∧ listed.getD i true = false ∧ ∃ o, ops[i]? = some o ∧ ∀ e ∈ o.after.toList, Region.binds .any e = true → listed.getD e.on false = true := by
  unfold Region.ready
  rw [List.mem_filter, List.mem_range]
  constructor
  · rintro ⟨hi, h⟩
    simp only [Bool.and_eq_true, Bool.not_eq_true'] at h
    refine ⟨hi, h.1, ops[i], Array.getElem?_eq_getElem hi, fun e hm hb => ?_⟩
    have h2 := h.2
    rw [Array.getElem?_eq_getElem hi] at h2
    simp only [Option.map_some, Option.getD_some] at h2
    rw [← Array.all_toList] at h2
    have := List.all_eq_true.1 h2 e hm
    simpa [hb] using this
  · rintro ⟨hi, h1, o, ho, h2⟩
    refine ⟨hi, ?_⟩
    simp only [Bool.and_eq_true, Bool.not_eq_true']
    refine ⟨h1, ?_⟩
    rw [ho]
    simp only [Option.map_some, Option.getD_some]
    rw [← Array.all_toList]
    refine List.all_eq_true.2 fun e hm => ?_
    cases hb : Region.binds .any e with
    | false => rfl
    | true => simp [h2 e hm hb]
theorem sched_conn {C : Nat → Nat → Prop} (hA : Ahead ops) (hpair : ∀ i j, i < ops.size → j < i → ((befs ops.toList []).getD i 0).testBit j = true ∨ C j i) : ∀ (fuel t : Nat) (listed : Array Bool), listed.size = ops.size → Closed ops listed → (remaining ops.size listed).length ≤ fuel →
    Conn C (Region.linearise.go .any ops fuel t listed []) (remaining ops.size listed) := by
  intro fuel
  induction fuel with
  | zero =>
    intro t listed _ _ hl
    have : remaining ops.size listed = [] := List.eq_nil_of_length_eq_zero (by omega)
    rw [this]
    exact .nil
  | succ fuel ih =>
    intro t listed hs hc hl
    simp only [Region.linearise.go]
    change Conn C (match (Region.ready .any ops listed)[t % (Region.ready .any ops listed).length]? with
      | some i => Region.linearise.go .any ops fuel (t / (Region.ready .any ops listed).length) (listed.setIfInBounds i true) [i]
      | none => [].reverse) _
    cases hi : (Region.ready .any ops listed)[t % (Region.ready .any ops listed).length]? with
    | none =>
      have hnil : Region.ready .any ops listed = [] := by
        cases hr : Region.ready .any ops listed with
        | nil => rfl
        | cons x xs =>
          rw [hr] at hi
          have hlt : t % (x :: xs).length < (x :: xs).length := Nat.mod_lt _ (by simp)
          rw [List.getElem?_eq_none_iff] at hi
          omega
      have : remaining ops.size listed = [] := by
        -- the least that is not listed would be ready
        have key : ∀ n i, i ≤ n → i < ops.size → listed.getD i true = true := by
          intro n
          induction n with
          | zero =>
            intro i hin hi
            cases hli : listed.getD i true with
            | true => rfl
            | false =>
              have : i ∈ Region.ready .any ops listed := mem_ready.2 ⟨hi, hli, ops[i], Array.getElem?_eq_getElem hi, fun e hm hb => by
                have := hA i _ (Array.getElem?_eq_getElem hi) e hm hb; omega⟩
              rw [hnil] at this; cases this
          | succ n ihn =>
            intro i hin hi
            cases hli : listed.getD i true with
            | true => rfl
            | false =>
              have : i ∈ Region.ready .any ops listed := mem_ready.2 ⟨hi, hli, ops[i], Array.getElem?_eq_getElem hi, fun e hm hb => by
                have := hA i _ (Array.getElem?_eq_getElem hi) e hm hb
                rw [getD_both (by omega)]
                exact ihn e.on (by omega) (by omega)⟩
              rw [hnil] at this; cases this
        unfold remaining
        rw [List.filter_eq_nil_iff]
        intro i hi
        simp [key i i (Nat.le_refl _) (List.mem_range.1 hi)]
      rw [this]
      exact .nil
    | some i =>
      have hmem := mem_ready.1 (List.mem_of_getElem? hi)
      obtain ⟨hin, hli, o, ho, hp⟩ := hmem
      simp only
      rw [linearise_go_acc, List.reverse_singleton, List.singleton_append]
      have hrem : remaining ops.size listed = (List.range i).filter (fun k => !listed.getD k true) ++ i :: (List.range' (i + 1) (ops.size - i - 1)).filter (fun k => !listed.getD k true) := by
        unfold remaining
        rw [range_split hin, List.filter_append, List.filter_cons]
        simp [hli]
      have hset : ∀ k, k ≠ i → (listed.setIfInBounds i true).getD k true = listed.getD k true := fun k hk => by
        simp [Array.getD_eq_getD_getElem?, Array.getElem?_setIfInBounds_ne (Ne.symm hk)]
      have hseti : (listed.setIfInBounds i true).getD i true = true := by
        simp only [Array.getD_eq_getD_getElem?]
        rw [Array.getElem?_setIfInBounds_self]
        split <;> rfl
      have hrem' : remaining ops.size (listed.setIfInBounds i true) = (List.range i).filter (fun k => !listed.getD k true) ++ (List.range' (i + 1) (ops.size - i - 1)).filter (fun k => !listed.getD k true) := by
        unfold remaining
        rw [range_split hin, List.filter_append, List.filter_cons]
        simp only [hseti, Bool.not_true, Bool.false_eq_true, if_false]
        congr 1
        · refine List.filter_congr fun k hk => ?_
          rw [hset k (by have := List.mem_range.1 hk; omega)]
        · refine List.filter_congr fun k hk => ?_
          rw [hset k (by have := List.mem_range'_1.1 hk; omega)]
      rw [hrem]
      refine .cons (fun j hj => ?_) ?_
      · simp only [List.mem_filter, List.mem_range, Bool.not_eq_true'] at hj
        rcases hpair i j hin hj.1 with hb | hb
        · have := reach hs hc i i o (Nat.le_refl _) ho hp j hb
          rw [getD_both (by omega), hj.2] at this
          cases this
        · exact hb
      · rw [← hrem']
        refine ih _ _ (by simp [hs]) (fun k o' ho' hk e hm hb => ?_) ?_
        · have hek : e.on < ops.size := by
            have := hA k o' ho' e hm hb
            have := (Array.getElem?_eq_some_iff.1 ho').1
            omega
          by_cases hei : e.on = i
          · rw [getD_both (by simp; omega), hei]; exact hseti
          · rw [getD_both (by simp; omega), hset _ hei, ← getD_both (by omega)]
            by_cases hki : k = i
            · subst hki
              rw [ho] at ho'; cases ho'
              exact hp e hm hb
            · rw [hset k hki] at hk
              exact hc k o' ho' hk e hm hb
        · rw [hrem']
          rw [hrem] at hl
          simp only [List.length_append, List.length_cons] at hl ⊢
          omega
end
end Go.Proofs.YtcgjebaomhfbdaaGreat.Vm

/- Orders that differ in more: each kind of them is run. -/
namespace Go.Proofs.YtcgjebaomhfbdaaGreat.Vm
open Go
theorem idx_ne {a x : Nat} {l : List Nat} (h : a ≠ x) : (a :: l).idxOf x = l.idxOf x + 1 := by
  have : (a == x) = false := by simpa using h
  simp [List.idxOf_cons, this]
theorem idx_inj : ∀ {l : List Nat} {x y : Nat}, x ∈ l → y ∈ l → l.idxOf x = l.idxOf y → x = y
  | [], x, y, h, _, _ => by cases h
  | a :: l, x, y, hx, hy, h => by
    by_cases hax : a = x
    · by_cases hay : a = y
      · omega
      · subst hax; rw [List.idxOf_cons_self, idx_ne hay] at h; omega
    · by_cases hay : a = y
      · subst hay; rw [List.idxOf_cons_self, idx_ne hax] at h; omega
      · rw [idx_ne hax, idx_ne hay] at h
        refine idx_inj (l := l) ?_ ?_ (by omega)
        · rcases List.mem_cons.1 hx with h | h
          · exact absurd h.symm hax
          · exact h
        · rcases List.mem_cons.1 hy with h | h
          · exact absurd h.symm hay
          · exact h
theorem perm_of_sub : ∀ {l r : List Nat}, l.Nodup → l ⊆ r → r.length = l.length → r.Perm l
  | [], r, _, _, h => by rw [List.length_eq_zero_iff.1 h]
  | a :: l, r, hn, hs, h => by
    obtain ⟨p, q, rfl⟩ := List.append_of_mem (hs (List.mem_cons_self))
    have hn' := List.nodup_cons.1 hn
    refine List.perm_middle.trans (.cons a (perm_of_sub hn'.2 (fun x hx => ?_) (by simp at h ⊢; omega)))
    have hxa : x ≠ a := fun e => hn'.1 (e ▸ hx)
    have := hs (List.mem_cons_of_mem a hx)
    simp only [List.mem_append, List.mem_cons] at this ⊢
    rcases this with h | h | h
    · exact .inl h
    · exact absurd h hxa
    · exact .inr h
theorem sub_idx : ∀ {l : List Nat} {x y : Nat}, l.Nodup → x ≠ y → (List.Sublist [x, y] l ↔ x ∈ l ∧ y ∈ l ∧ l.idxOf x < l.idxOf y)
  | [], x, y, _, _ => by simp
  | a :: l, x, y, hn, hxy => by
    have hn' := List.nodup_cons.1 hn
    constructor
    · intro h
      refine ⟨h.subset (by simp), h.subset (by simp), ?_⟩
      cases h with
      | cons _ h =>
        have := (sub_idx hn'.2 hxy).1 h
        have hxa : a ≠ x := fun e => hn'.1 (e ▸ this.1)
        have hya : a ≠ y := fun e => hn'.1 (e ▸ this.2.1)
        rw [idx_ne hxa, idx_ne hya]
        omega
      | cons_cons _ h =>
        rw [List.idxOf_cons_self, idx_ne hxy]
        omega
    · rintro ⟨h1, h2, h3⟩
      by_cases hxa : a = x
      · subst hxa
        rcases List.mem_cons.1 h2 with h2 | h2
        · exact absurd h2.symm hxy
        · exact (List.singleton_sublist.2 h2).cons_cons _
      · by_cases hya : a = y
        · subst hya
          rw [List.idxOf_cons_self] at h3
          omega
        · rw [idx_ne hxa, idx_ne hya] at h3
          refine .cons _ ((sub_idx hn'.2 hxy).2 ⟨?_, ?_, by omega⟩)
          · rcases List.mem_cons.1 h1 with h1 | h1
            · exact absurd h1.symm hxa
            · exact h1
          · rcases List.mem_cons.1 h2 with h2 | h2
            · exact absurd h2.symm hya
            · exact h2
theorem Conn.perm {C : Nat → Nat → Prop} {r s : List Nat} (h : Conn C r s) : r.Perm s := by
  induction h with
  | nil => exact .refl _
  | cons _ _ ih => exact (ih.cons _).trans List.perm_middle.symm
theorem Conn.bef {C : Nat → Nat → Prop} {r s : List Nat} (h : Conn C r s) : s.Nodup → ∀ x y, List.Sublist [x, y] s → List.Sublist [x, y] r ∨ C x y := by
  induction h with
  | nil => intro _ x y h; cases h
  | @cons i a b r hc h ih =>
    intro hn x y hs
    have hn2 : (a ++ b).Nodup ∧ i ∉ a ++ b := by
      have := (List.perm_middle (a := i) (l₁ := a) (l₂ := b)).nodup_iff.1 hn
      exact ⟨(List.nodup_cons.1 this).2, (List.nodup_cons.1 this).1⟩
    have hxy : x ≠ y := by
      have := hs.nodup hn
      simpa using this
    by_cases hx : x = i
    · subst hx
      left
      have hy : y ∈ a ++ x :: b := hs.subset (by simp)
      have hy' : y ∈ a ++ b := by
        simp only [List.mem_append, List.mem_cons] at hy ⊢
        rcases hy with hy | hy | hy
        · exact .inl hy
        · exact absurd hy.symm hxy
        · exact .inr hy
      exact (List.singleton_sublist.2 (h.perm.mem_iff.2 hy')).cons_cons _
    · by_cases hy : y = i
      · subst hy
        right
        refine hc x ?_
        obtain ⟨l1, l2, he, q1, q2⟩ := List.sublist_append_iff.1 hs
        match l1, he with
        | [], he =>
          simp at he
          subst he
          cases q2 with
          | cons _ q2 => exact absurd (List.mem_append_right _ (q2.subset (by simp))) hn2.2
          | cons_cons _ q2 => exact absurd rfl hx
        | [z], he =>
          simp at he
          rw [he.1]
          exact q1.subset (by simp)
        | z :: z' :: _, he =>
          simp at he
          have := q1.subset (show z' ∈ _ by simp)
          rw [← he.2.1] at this
          exact absurd (List.mem_append_left _ this) hn2.2
      · have h2 : List.Sublist [x, y] (a ++ b) := by
          have := hs.filter (fun z => decide (z ≠ i))
          simp only [List.filter_cons, List.filter_nil, List.filter_append, ne_eq, hx, hy, not_false_eq_true, decide_true, if_true, not_true_eq_false, decide_false, Bool.false_eq_true, if_false] at this
          exact this.trans (List.Sublist.append List.filter_sublist List.filter_sublist)
        exact (ih hn2.1 x y h2).imp (fun h => .cons _ h) id
theorem conn_of {C : Nat → Nat → Prop} : ∀ {s r : List Nat}, s.Perm r → r.Nodup → (∀ x y, List.Sublist [x, y] r → List.Sublist [x, y] s ∨ C x y) → Conn C s r
  | [], r, hp, _, _ => by rw [hp.symm.eq_nil]; exact .nil
  | i :: s, r, hp, hn, h => by
    obtain ⟨a, b, rfl⟩ := List.append_of_mem (hp.mem_iff.1 (List.mem_cons_self))
    have hp' : s.Perm (a ++ b) := (List.perm_cons i).1 (hp.trans List.perm_middle)
    have hns : (i :: s).Nodup := hp.nodup_iff.2 hn
    have hi : i ∉ s := (List.nodup_cons.1 hns).1
    refine .cons (fun x hx => ?_) (conn_of hp' (hp'.nodup_iff.1 (List.nodup_cons.1 hns).2) fun x y hxy => ?_)
    · have hsub : List.Sublist [x, i] (a ++ i :: b) := by
        have : [x, i] = [x] ++ [i] := rfl
        rw [this]
        exact List.Sublist.append (List.singleton_sublist.2 hx) (List.singleton_sublist.2 (by simp))
      rcases h x i hsub with h | h
      · cases h with
        | cons _ h => exact absurd (h.subset (by simp)) hi
        | cons_cons _ h => exact absurd (h.subset (by simp)) hi
      · exact h
    · have hx : x ∈ s := hp'.mem_iff.2 (hxy.subset (by simp))
      refine (h x y (hxy.trans (List.Sublist.append (List.Sublist.refl a) (List.sublist_cons_self i b)))).imp (fun h => ?_) id
      cases h with
      | cons _ h => exact h
      | cons_cons _ h => exact absurd hx hi
/-! The check. -/
def befA (bs : List Nat) (x y : Nat) : Bool := decide (x < y) && (bs.getD y 0).testBit x
def free2 (E : Env) (is : List G) (i j : Nat) : Bool := com2 E (itG is i) (itG is j) && com2 E (itG is j) (itG is i)
def pairsOf (n : Nat) : List (Nat × Nat) := (List.range n).flatMap fun i => (List.range i).map fun j => (j, i)
def conf (E : Env) (is : List G) (bs : List Nat) (n : Nat) : List (Nat × Nat) := (pairsOf n).filter fun p => !(befA bs p.1 p.2 || free2 E is p.1 p.2)
def idxLt (r : List Nat) (x y : Nat) : Bool := decide (r.idxOf x < r.idxOf y)
def vecOf (cps : List (Nat × Nat)) (r : List Nat) : List Bool := cps.map fun p => idxLt r p.2 p.1
def allVecs : Nat → List (List Bool)
  | 0 => [[]]
  | n + 1 => (allVecs n).flatMap fun v => [true :: v, false :: v]
def leA (bs : List Nat) (x y : Nat) : Bool := decide (x = y) || befA bs x y
def edgesOf (cps : List (Nat × Nat)) (v : List Bool) : List (Nat × Nat) := (cps.zip v).map fun q => if q.2 then (q.1.2, q.1.1) else q.1
def cyc (bs : List Nat) (es : List (Nat × Nat)) : Bool :=
  es.any fun e => es.any fun f => leA bs e.2 f.1 && (leA bs f.2 e.1 || es.any fun k => leA bs f.2 k.1 && leA bs k.2 e.1)
def okOrd (bs : List Nat) (n : Nat) (r : List Nat) : Bool :=
  decide (r.length = n) && ((List.range n).all fun i => r.contains i) && ((pairsOf n).all fun p => !befA bs p.1 p.2 || idxLt r p.1 p.2)
/-- may the operations be carried out in each order that their edges leave open? 'os': orders of their places of other kinds -/
def okDraw (E : Env) (is : List G) (ops : Array Oper) (os : List (List Nat)) : Bool :=
  let bs := befs ops.toList []
  let cps := conf E is bs ops.size
  let vs := (List.range ops.size :: os).map (vecOf cps)
  decide (is.length = ops.size) &&
  ((List.range ops.size).all fun i => (match ops[i]? with | some o => o.after.all fun e => !Region.binds .any e || decide (e.on < i) | none => false)) &&
  (os.all (okOrd bs ops.size)) && (allVecs cps.length).all fun v => vs.contains v || cyc bs (edgesOf cps v)
section
variable {E : Env} {is : List G} {ops : Array Oper} {os : List (List Nat)}
theorem mem_pairs {n : Nat} {p : Nat × Nat} : p ∈ pairsOf n ↔ p.2 < n ∧ p.1 < p.2 := by
  obtain ⟨j, i⟩ := p
  simp only [pairsOf, List.mem_flatMap, List.mem_range, List.mem_map, Prod.mk.injEq]
  constructor
  · rintro ⟨a, ha, b, hb, rfl, rfl⟩; exact ⟨ha, hb⟩
  · rintro ⟨h1, h2⟩; exact ⟨i, h1, j, h2, rfl, rfl⟩
theorem mem_allVecs : ∀ v : List Bool, v ∈ allVecs v.length
  | [] => by simp [allVecs]
  | b :: v => by
    simp only [List.length_cons, allVecs, List.mem_flatMap]
    exact ⟨v, mem_allVecs v, by cases b <;> simp⟩
theorem okDraw.ahead (h : okDraw E is ops os = true) : is.length = ops.size ∧ Ahead ops := by
  unfold okDraw at h
  simp only [Bool.and_eq_true, decide_eq_true_eq] at h
  obtain ⟨⟨⟨h1, h2⟩, _⟩, _⟩ := h
  refine ⟨h1, fun i o ho e hm hb => ?_⟩
  have hi : i < ops.size := (Array.getElem?_eq_some_iff.1 ho).1
  have := List.all_eq_true.1 h2 i (List.mem_range.2 hi)
  rw [ho] at this
  simp only at this
  rw [← Array.all_toList] at this
  have := List.all_eq_true.1 this e hm
  simp only [hb, Bool.not_true, Bool.false_or, decide_eq_true_eq] at this
  exact this
set_option linter.unusedVariables false in
theorem okOrd.facts {bs : List Nat} {n : Nat} {r : List Nat} (h : okOrd bs n r = true) : r.Perm (List.range n) ∧ ∀ x y, y < n → befA bs x y = true → r.idxOf x < r.idxOf y := by
  simp only [okOrd, Bool.and_eq_true, decide_eq_true_eq] at h
  obtain ⟨⟨h1, h2⟩, h3⟩ := h
  have hsub : List.range n ⊆ r := fun i hi => by simpa using List.all_eq_true.1 h2 i hi
  refine ⟨perm_of_sub List.nodup_range hsub (by simp [h1]), fun x y hy hb => ?_⟩
  have hlt : x < y := by simp only [befA, Bool.and_eq_true, decide_eq_true_eq] at hb; exact hb.1
  have := List.all_eq_true.1 h3 (x, y) (mem_pairs.2 ⟨hy, hlt⟩)
  simpa [hb, idxLt] using this
theorem range_sub {n x y : Nat} (hxy : x < y) (hy : y < n) : List.Sublist [x, y] (List.range n) := by
  rw [range_split hy, show [x, y] = [x] ++ [y] from rfl]
  exact List.Sublist.append (List.singleton_sublist.2 (List.mem_range.2 hxy)) (List.singleton_sublist.2 (by simp))
/-- Each order that may be drawn is like one of those that are run. -/
theorem sched_any (h : okDraw E is ops os = true) (t : Nat) :
    ∃ r, (r = List.range ops.size ∨ r ∈ os) ∧ (∀ j ∈ r, j < ops.size) ∧ Conn (fun j i => com2 E (itG is j) (itG is i) = true) (Region.linearise.go .any ops ops.size t (Array.replicate ops.size false) []) r := by
  obtain ⟨hlen, hA⟩ := okDraw.ahead h
  have hrem : remaining ops.size (Array.replicate ops.size false) = List.range ops.size := by
    unfold remaining
    rw [List.filter_eq_self]
    intro i hi
    simp [Array.getD_eq_getD_getElem?, List.mem_range.1 hi]
  let bs := befs ops.toList []
  have hc := sched_conn (C := fun j i => (bs.getD i 0).testBit j = false) hA (fun i j _ _ => by
    by_cases hb : (bs.getD i 0).testBit j = true
    · exact .inl hb
    · exact .inr (by simpa using hb)) ops.size t (Array.replicate ops.size false) (by simp) (fun i o ho hl => by
      have hi : i < ops.size := (Array.getElem?_eq_some_iff.1 ho).1
      simp [Array.getD_eq_getD_getElem?, hi] at hl) (by rw [hrem]; simp)
  rw [hrem] at hc
  generalize Region.linearise.go .any ops ops.size t (Array.replicate ops.size false) [] = s at hc
  have hperm := hc.perm
  have hns : s.Nodup := hperm.nodup_iff.2 List.nodup_range
  have hmem : ∀ x, x ∈ s ↔ x < ops.size := fun x => by rw [hperm.mem_iff, List.mem_range]
  have hbef : ∀ x y, y < ops.size → befA bs x y = true → s.idxOf x < s.idxOf y := fun x y hy hb => by
    simp only [befA, Bool.and_eq_true, decide_eq_true_eq] at hb
    rcases hc.bef List.nodup_range x y (range_sub hb.1 hy) with h | h
    · exact ((sub_idx hns (by omega)).1 h).2.2
    · rw [hb.2] at h; cases h
  let cps := conf E is bs ops.size
  have hcps : ∀ p ∈ cps, p.2 < ops.size ∧ p.1 < p.2 := fun p hp => mem_pairs.1 (List.mem_filter.1 hp).1
  have h4 : (allVecs cps.length).all (fun v => ((List.range ops.size :: os).map (vecOf cps)).contains v || cyc bs (edgesOf cps v)) = true := by
    unfold okDraw at h
    simp only [Bool.and_eq_true] at h
    exact h.2
  have hos : ∀ r ∈ os, okOrd bs ops.size r = true := by
    unfold okDraw at h
    simp only [Bool.and_eq_true] at h
    exact List.all_eq_true.1 h.1.2
  have hv := List.all_eq_true.1 h4 (vecOf cps s) (by
    have := mem_allVecs (vecOf cps s)
    rwa [show (vecOf cps s).length = cps.length by simp [vecOf]] at this)
  have hedge : ∀ e ∈ edgesOf cps (vecOf cps s), e.1 < ops.size ∧ e.2 < ops.size ∧ s.idxOf e.1 < s.idxOf e.2 := by
    intro e he
    simp only [edgesOf, List.mem_map] at he
    obtain ⟨⟨p, b⟩, hq, rfl⟩ := he
    obtain ⟨k, hk⟩ := List.mem_iff_getElem?.1 hq
    obtain ⟨k1, k2⟩ := List.getElem?_zip_eq_some.1 hk
    simp only [vecOf, List.getElem?_map, k1, Option.map_some, Option.some.injEq] at k2
    have hp := hcps p (List.mem_of_getElem? k1)
    simp only
    cases b with
    | true => simp only [idxLt, decide_eq_true_eq] at k2; simp only [if_true]; exact ⟨hp.1, by omega, k2⟩
    | false =>
      simp only [idxLt, decide_eq_false_iff_not] at k2
      simp only [Bool.false_eq_true, if_false]
      refine ⟨by omega, hp.1, ?_⟩
      have hne : s.idxOf p.1 ≠ s.idxOf p.2 := fun e => by
        have h1 := (hmem p.1).2 (by omega)
        have h2 := (hmem p.2).2 hp.1
        have := idx_inj h1 h2 e
        omega
      omega
  have hle : ∀ x y, y < ops.size → leA bs x y = true → s.idxOf x ≤ s.idxOf y := fun x y hy hb => by
    simp only [leA, Bool.or_eq_true, decide_eq_true_eq] at hb
    rcases hb with rfl | hb
    · exact Nat.le_refl _
    · exact Nat.le_of_lt (hbef x y hy hb)
  have hcyc : cyc bs (edgesOf cps (vecOf cps s)) = false := by
    cases hcy : cyc bs (edgesOf cps (vecOf cps s)) with
    | false => rfl
    | true =>
      exfalso
      simp only [cyc, List.any_eq_true, Bool.and_eq_true, Bool.or_eq_true] at hcy
      obtain ⟨e, he, f, hf, h1, h2⟩ := hcy
      have e1 := hedge e he
      have f1 := hedge f hf
      have l1 := hle _ _ f1.1 h1
      rcases h2 with h2 | ⟨k, hk, h2, h3⟩
      · have l2 := hle _ _ e1.1 h2
        omega
      · have k1 := hedge k hk
        have l2 := hle _ _ k1.1 h2
        have l3 := hle _ _ e1.1 h3
        omega
  rw [hcyc, Bool.or_false] at hv
  have hv' : vecOf cps s ∈ (List.range ops.size :: os).map (vecOf cps) := by simpa using hv
  obtain ⟨r, hr, hvec⟩ := List.mem_map.1 hv'
  have hrp : r.Perm (List.range ops.size) ∧ ∀ x y, y < ops.size → befA bs x y = true → r.idxOf x < r.idxOf y := by
    rcases List.mem_cons.1 hr with rfl | hr
    · refine ⟨.refl _, fun x y hy hb => ?_⟩
      simp only [befA, Bool.and_eq_true, decide_eq_true_eq] at hb
      exact ((sub_idx List.nodup_range (by omega)).1 (range_sub hb.1 hy)).2.2
    · exact okOrd.facts (hos r hr)
  have hnr : r.Nodup := hrp.1.nodup_iff.2 List.nodup_range
  have hmr : ∀ x, x ∈ r ↔ x < ops.size := fun x => by rw [hrp.1.mem_iff, List.mem_range]
  have hbit : ∀ p ∈ cps, idxLt r p.2 p.1 = idxLt s p.2 p.1 := fun p hp => by
    have := List.map_inj_left.1 hvec
    exact this p hp
  refine ⟨r, by simpa using hr, fun j hj => (hmr j).1 hj, conn_of (hperm.trans hrp.1.symm) hnr fun x y hxy => ?_⟩
  have hne : x ≠ y := by have := hxy.nodup hnr; simpa using this
  obtain ⟨hx, hy, hlt⟩ := (sub_idx hnr hne).1 hxy
  have hxs := (hmr x).1 hx
  have hys := (hmr y).1 hy
  have toS : s.idxOf x < s.idxOf y → List.Sublist [x, y] s := fun h => (sub_idx hns hne).2 ⟨(hmem x).2 hxs, (hmem y).2 hys, h⟩
  rcases Nat.lt_or_gt_of_ne hne with hl | hl
  · by_cases hb : befA bs x y = true
    · exact .inl (toS (hbef x y hys hb))
    · by_cases hf : free2 E is x y = true
      · simp only [free2, Bool.and_eq_true] at hf; exact .inr hf.1
      · have hp : (x, y) ∈ cps := List.mem_filter.2 ⟨mem_pairs.2 ⟨hys, hl⟩, by simp [hb, hf]⟩
        have hbt := hbit _ hp
        simp only [idxLt] at hbt
        rw [decide_eq_false (by omega), eq_comm, decide_eq_false_iff_not] at hbt
        have hne' : s.idxOf x ≠ s.idxOf y := fun e => hne (idx_inj ((hmem x).2 hxs) ((hmem y).2 hys) e)
        exact .inl (toS (by omega))
  · by_cases hb : befA bs y x = true
    · have := hrp.2 y x hxs hb
      omega
    · by_cases hf : free2 E is y x = true
      · simp only [free2, Bool.and_eq_true] at hf; exact .inr hf.2
      · have hp : (y, x) ∈ cps := List.mem_filter.2 ⟨mem_pairs.2 ⟨hxs, hl⟩, by simp [hb, hf]⟩
        have hbt := hbit _ hp
        simp only [idxLt] at hbt
        rw [decide_eq_true hlt, eq_comm, decide_eq_true_eq] at hbt
        exact .inl (toS hbt)
end
end Go.Proofs.YtcgjebaomhfbdaaGreat.Vm

/- Views of frozen rows as data. -/
namespace Go.Proofs.YtcgjebaomhfbdaaGreat.Vm
open Go
section
variable {P : Program} {g : Gh} {σ : St} {tmps : Array Value} {rts : Roots} {w : World}
theorem V.purs_length (m : Nat) (es : List T) : ∀ cs : List V, (V.purs m es cs).length = cs.length
  | [] => rfl
  | c :: cs => by simp only [V.purs, List.length_cons, V.purs_length m es cs]
structure Pured (O O' : Obs) : Prop where
  row : ∀ a n s es gr, O a n = some (.rw s es gr) → O' a n = some (.rw s es gr)
  fz : ∀ a n s es, O a n = some (.fz s es) → O' a n = some (.fz s es)
  box : ∀ a n cs, O a n = some (.box cs) → ∃ cs', cs'.length = cs.length ∧ O' a n = some (.box cs')
  gone : ∀ a n, O a n = some .gone → O' a n = some .gone
section
variable {m top s0 : Nat} {es : List T} {O O' : Obs}
theorem Pured.rowV (S : Pured O O') {a n lo len s' : Nat} {A : Option Addr} {c : Nat} (h : RowV g w O a n lo len s' A c) : RowV g w O' a n lo len s' A c := by
  unfold RowV at h ⊢
  split at h
  · rename_i heq; rw [S.row _ _ _ _ _ heq]; exact h
  · rename_i heq; rw [S.fz _ _ _ _ heq]; exact h
  · rename_i heq; rw [S.gone _ _ heq]; exact h
  · rename_i heq; obtain ⟨cs', hl, hb⟩ := S.box _ _ _ heq; rw [hb]; simp only [hl]; exact h
  · exact h.elim
theorem Pured.relV (S : Pured O O') {a n i off : Nat} {v : Value} (h : RelV g w O a n i off v) : RelV g w O' a n i off v := by
  unfold RelV at h ⊢
  split at h
  · rename_i heq; rw [S.row _ _ _ _ _ heq]; exact h
  · rename_i heq; rw [S.fz _ _ _ _ heq]; exact h
  · rename_i heq; rw [S.gone _ _ heq]; exact h
  · exact h.elim
theorem Pured.ptrV (S : Pured O O') {a n off : Nat} {v : Value} (h : PtrV g O a n off v) : PtrV g O' a n off v := by
  unfold PtrV at h ⊢
  split at h
  · rename_i heq; obtain ⟨cs', _, hb⟩ := S.box _ _ _ heq; rw [hb]; exact h
  · rename_i heq; rw [S.gone _ _ heq]; exact h
  · rename_i heq; rw [S.fz _ _ _ _ heq]; exact h
  · exact h.elim
theorem Pured.keep (S : Pured O O') {D : Nat} : Keep D (fun _ _ => False) g w O g w O' :=
  ⟨rfl, fun _ h => h, fun _ _ => rfl, fun _ _ _ _ _ _ _ _ _ h => S.rowV h, fun _ _ _ _ _ _ _ h => S.relV h, fun _ _ _ _ _ _ h => S.ptrV h⟩
mutual
theorem VR.pur (S : Pured O O') (hm : O top m = some (.fz s0 es)) : ∀ (v : V) (x : Value), VR g w O (top + 1) v x → VR g w O' (top + 1) (V.pur m es v) x
  | .row 0 n lo len s', x, h => by
    obtain ⟨hl, A, c, rfl, hr⟩ := h
    have e1 : top + 1 - 1 - 0 = top := by omega
    rw [e1] at hr
    simp only [V.pur]
    split
    · rename_i hnm
      subst hnm
      split
      · rename_i hfit
        unfold RowV at hr
        rw [hm] at hr
        simp only at hr
        obtain ⟨rfl, _, hc, hr⟩ := hr
        have hsl : (slice lo len es).length = len := slice_length hfit
        refine VR.ofRows hsl hc ?_
        rcases hr with hr | ⟨b, o, hA, hok, hd⟩
        · exact .inl (List.eq_nil_of_length_eq_zero (by omega))
        · exact .inr ⟨b, o, hA, .inl hok, hd⟩
      · trivial
    · exact ⟨hl, A, c, rfl, by rw [e1]; exact S.rowV hr⟩
  | .row (l + 1) n lo len s', x, h => by
    obtain ⟨hl, A, c, rfl, hr⟩ := h
    exact ⟨hl, A, c, rfl, S.rowV hr⟩
  | .ptr l n off, x, h => ⟨h.1, S.ptrV h.2⟩
  | .rel 0 n i off, x, h => by
    simp only [V.pur]
    split
    · trivial
    · exact ⟨h.1, S.relV h.2⟩
  | .rel (l + 1) n i off, x, h => ⟨h.1, S.relV h.2⟩
  | .ag cs, x, h => by
    obtain ⟨vs, hv, h, h1⟩ := h
    exact ⟨vs, hv, VRs.pur S hm cs vs h, h1⟩
  | .tp cs, x, h => by
    obtain ⟨vs, hv, h⟩ := h
    exact ⟨vs, hv, VRs.pur S hm cs vs h⟩
  | .cl f cs, x, h => by
    obtain ⟨vs, hv, h⟩ := h
    exact ⟨vs, hv, VRs.pur S hm cs vs h⟩
  | .d true t, x, h => h
  | .d false t, x, h => h
  | .dx true t, x, h => h
  | .dx false t, x, h => h
  | .nil _, x, h => h
  | .pd t, x, h => h
  | .u, x, h => trivial
theorem VRs.pur (S : Pured O O') (hm : O top m = some (.fz s0 es)) : ∀ (vs : List V) (xs : List Value), VRs g w O (top + 1) vs xs → VRs g w O' (top + 1) (V.purs m es vs) xs
  | [], xs, h => h
  | v :: vs, _, h => by
    obtain ⟨x, xs, rfl, h1, h2⟩ := h
    exact ⟨x, xs, rfl, VR.pur S hm v x h1, VRs.pur S hm vs xs h2⟩
end
end
theorem St.up_pur (σ : St) (m : Nat) : (σ.pur m).up = σ.up := by
  unfold St.pur
  split <;> rfl
theorem Rel.pur (h : Rel g σ tmps rts w) (m : Nat) : Rel g (σ.pur m) tmps rts w := by
  unfold St.pur
  split
  · rename_i s es hobj
    have hO : ∀ a n, (St.O { σ with sl := σ.sl.map (V.pur m es), ob := σ.ob.map (Option.map (Ob.pur m es)) }) a n = if a = σ.up.length then (σ.O a n).map (Ob.pur m es) else σ.O a n := fun a n => by
      show (if a < σ.up.length + 1 then _ else none) = _
      simp only [St.O]
      by_cases ha : a = σ.up.length
      · subst ha
        simp only [Nat.lt_succ_self, if_true, Nat.sub_self]
        exact gt_map (d := none) (e := none) (Option.map (Ob.pur m es)) (by rfl) _ _
      · rw [if_neg ha]
        obtain hk | ⟨k, hk⟩ : ¬ a < σ.up.length + 1 ∨ ∃ k, σ.up.length - a = k + 1 := by
          by_cases hlt : a < σ.up.length + 1
          · exact .inr ⟨σ.up.length - a - 1, by omega⟩
          · exact .inl hlt
        · simp [hk]
        · rw [hk]; rfl
    have hOm : σ.O σ.up.length m = some (.fz s es) := by
      have := St.O_obj σ 0 m (Nat.zero_le _)
      rw [← hobj]; simpa using this
    generalize hτ : ({ σ with sl := σ.sl.map (V.pur m es), ob := σ.ob.map (Option.map (Ob.pur m es)) } : St) = τ at hO
    have hup : τ.up = σ.up := by rw [← hτ]
    have hget : ∀ i, τ.get i = V.pur m es (σ.get i) := fun i => by rw [← hτ]; exact gt_map (V.pur m es) (by simp only [V.pur]) _ _
    have S : Pured σ.O τ.O := by
      refine ⟨fun a n s' es' gr' ho => ?_, fun a n s' es' ho => ?_, fun a n cs ho => ?_, fun a n ho => ?_⟩
      · rw [hO]
        split
        · rw [ho]; rfl
        · exact ho
      · rw [hO]
        split
        · rw [ho]; rfl
        · exact ho
      · rw [hO]
        split
        · rw [ho]; exact ⟨_, V.purs_length m es cs, rfl⟩
        · exact ⟨cs, rfl, ho⟩
      · rw [hO]
        split
        · rw [ho]; rfl
        · exact ho
    have K : ∀ D, Keep D (fun _ _ => False) g w σ.O g w τ.O := fun D => S.keep
    refine ⟨fun i => ?_, fun a n o ha ho => ?_, fun r hr => ?_, by rw [hup]; exact h.own, h.okb, h.base⟩
    · rw [hup, hget]; exact VR.pur S hOm _ _ (h.sl i)
    · rw [hup] at ha
      rw [hO] at ho
      by_cases haa : a = σ.up.length
      · subst haa
        rw [if_pos rfl] at ho
        cases hoo : σ.O σ.up.length n with
        | none => rw [hoo] at ho; cases ho
        | some o' =>
          rw [hoo] at ho
          cases ho
          have hold := h.ob _ n o' ha hoo
          cases o' with
          | box cs =>
            obtain ⟨h1, vs, rest, el, h2, h3, h4⟩ := hold
            exact ⟨h1, vs, rest, el, h2, VRs.pur S hOm _ _ h3, h4⟩
          | rw s es gr => exact hold
          | fz s es => trivial
          | gone => trivial
      · rw [if_neg haa] at ho
        have hold := h.ob a n o ha ho
        cases o with
        | box cs =>
          obtain ⟨h1, vs, rest, el, h2, h3, h4⟩ := hold
          exact ⟨h1, vs, rest, el, h2, VRs.keep' (K _) (Nat.le_refl _) h3, h4⟩
        | rw s es gr => exact hold
        | fz s es => trivial
        | gone => trivial
    · rw [hup]
      have := h.rt r hr
      exact ⟨this.1, VR.keep' (K _) (Nat.le_refl _) this.2⟩
  · exact h
end
end Go.Proofs.YtcgjebaomhfbdaaGreat.Vm

/- An object takes another name. -/
namespace Go.Proofs.YtcgjebaomhfbdaaGreat.Vm
open Go
section
variable {P : Program} {g : Gh} {σ : St} {tmps : Array Value} {rts : Roots} {w : World}
/-- names of a frame, renamed -/
def renP (a b top x n : Nat) : Nat := if x = top ∧ n = a then b else n
def Gh.ren (g : Gh) (a b top : Nat) : Gh where
  own := fun k => (g.own k).map fun p => (p.1, renP a b top p.1 p.2)
  loc := fun x n => if x = top ∧ n = b then g.loc top a else g.loc x n
  ok := g.ok
  base := g.base
theorem Gh.ren_own {a b top k x n : Nat} (h : g.own k = some (x, n)) : (g.ren a b top).own k = some (x, renP a b top x n) := by simp [Gh.ren, h]
theorem Gh.ren_loc {a b top x n : Nat} (hab : a ≠ b) (h : ¬ (x = top ∧ n = b)) : (g.ren a b top).loc x (renP a b top x n) = g.loc x n := by
  simp only [Gh.ren, renP]
  by_cases h1 : x = top ∧ n = a
  · obtain ⟨rfl, rfl⟩ := h1
    simp
  · rw [if_neg h1, if_neg h]
theorem V.rens_length (a b : Nat) : ∀ cs : List V, (V.rens a b cs).length = cs.length
  | [] => rfl
  | c :: cs => by simp only [V.rens, List.length_cons, V.rens_length a b cs]
structure Rend (a b top : Nat) (O O' : Obs) : Prop where
  row : ∀ x n s es gr, ¬ (x = top ∧ n = b) → O x n = some (.rw s es gr) → O' x (renP a b top x n) = some (.rw s es gr)
  fz : ∀ x n s es, ¬ (x = top ∧ n = b) → O x n = some (.fz s es) → O' x (renP a b top x n) = some (.fz s es)
  box : ∀ x n cs, ¬ (x = top ∧ n = b) → O x n = some (.box cs) → ∃ cs', cs'.length = cs.length ∧ O' x (renP a b top x n) = some (.box cs')
  gone : ∀ x n, ¬ (x = top ∧ n = b) → O x n = some .gone → O' x (renP a b top x n) = some .gone
section
variable {a b top : Nat} {O O' : Obs}
theorem Rend.rowV (hab : a ≠ b) (S : Rend a b top O O') {x n lo len s' : Nat} (hn : ¬ (x = top ∧ n = b)) {A : Option Addr} {c : Nat} (h : RowV g w O x n lo len s' A c) : RowV (g.ren a b top) w O' x (renP a b top x n) lo len s' A c := by
  unfold RowV at h ⊢
  split at h
  · rename_i heq; rw [S.row _ _ _ _ _ hn heq]; simp only [Gh.ren_loc hab hn]
    obtain ⟨h1, h2, h3, h4⟩ := h
    exact ⟨h1, h2, h3, h4.imp id fun ⟨b, o, hA, ho, hr⟩ => ⟨b, o, hA, Gh.ren_own ho, hr⟩⟩
  · rename_i heq; rw [S.fz _ _ _ _ hn heq]; exact h
  · rename_i heq; rw [S.gone _ _ hn heq]; exact h
  · rename_i heq; obtain ⟨cs', hl, hb⟩ := S.box _ _ _ hn heq; rw [hb]; simp only [Gh.ren_loc hab hn, hl]; exact h
  · exact h.elim
theorem Rend.relV (hab : a ≠ b) (S : Rend a b top O O') {x n i off : Nat} (hn : ¬ (x = top ∧ n = b)) {v : Value} (h : RelV g w O x n i off v) : RelV (g.ren a b top) w O' x (renP a b top x n) i off v := by
  unfold RelV at h ⊢
  split at h
  · rename_i heq; rw [S.row _ _ _ _ _ hn heq]; simp only [Gh.ren_loc hab hn]
    obtain ⟨b, o, e, vs, hv, ho, hr⟩ := h
    exact ⟨b, o, e, vs, hv, Gh.ren_own ho, hr⟩
  · rename_i heq; rw [S.fz _ _ _ _ hn heq]; exact h
  · rename_i heq; rw [S.gone _ _ hn heq]; exact h
  · exact h.elim
theorem Rend.ptrV (hab : a ≠ b) (S : Rend a b top O O') {x n off : Nat} (hn : ¬ (x = top ∧ n = b)) {v : Value} (h : PtrV g O x n off v) : PtrV (g.ren a b top) O' x (renP a b top x n) off v := by
  unfold PtrV at h ⊢
  split at h
  · rename_i heq; obtain ⟨cs', _, hb⟩ := S.box _ _ _ hn heq; rw [hb]; simp only [Gh.ren_loc hab hn]; exact h
  · rename_i heq; rw [S.gone _ _ hn heq]; exact h
  · rename_i heq; rw [S.fz _ _ _ _ hn heq]; exact h
  · exact h.elim
theorem renP_ne {x n : Nat} (h : x ≠ top) : renP a b top x n = n := if_neg fun h' => h h'.1
theorem Rend.keep (hab : a ≠ b) (S : Rend a b top O O') {D : Nat} (hD : D ≤ top) : Keep D (fun _ _ => False) g w O (g.ren a b top) w O' := by
  refine ⟨rfl, fun _ h => h, fun _ _ => rfl, fun x n _ _ _ _ _ hx _ h => ?_, fun x n _ _ _ hx _ h => ?_, fun x n _ _ hx _ h => ?_⟩
  · have hne : x ≠ top := by omega
    have := S.rowV hab (fun h' => hne h'.1) h; rwa [renP_ne hne] at this
  · have hne : x ≠ top := by omega
    have := S.relV hab (fun h' => hne h'.1) h; rwa [renP_ne hne] at this
  · have hne : x ≠ top := by omega
    have := S.ptrV hab (fun h' => hne h'.1) h; rwa [renP_ne hne] at this
theorem renN_cases {n : Nat} (f : Nat → V) : renN a b n f = .u ∧ n = b ∨ n ≠ b ∧ renN a b n f = f (renP a b top top n) ∨ n = a ∧ a = b := by
  unfold renN renP
  by_cases h1 : n = a
  · by_cases h2 : a = b
    · exact .inr (.inr ⟨h1, h2⟩)
    · subst h1; exact .inr (.inl ⟨h2, by simp⟩)
  · by_cases h2 : n = b
    · exact .inl ⟨by rw [if_neg h1, if_pos h2], h2⟩
    · exact .inr (.inl ⟨h2, by rw [if_neg h1, if_neg h2, if_neg (by simpa using h1)]⟩)
mutual
theorem VR.ren (hab : a ≠ b) (S : Rend a b top O O') : ∀ (v : V) (x : Value), VR g w O (top + 1) v x → VR (g.ren a b top) w O' (top + 1) (V.ren a b v) x
  | .row 0 n lo len s', x, h => by
    obtain ⟨hl, A, c, rfl, hr⟩ := h
    have e1 : top + 1 - 1 - 0 = top := by omega
    rw [e1] at hr
    simp only [V.ren]
    rcases renN_cases (a := a) (b := b) (top := top) (n := n) (fun n => V.row 0 n lo len s') with h | ⟨hn, h⟩ | h
    · rw [h.1]; trivial
    · rw [h]; exact ⟨hl, A, c, rfl, by rw [e1]; exact S.rowV hab (fun h' => hn h'.2) hr⟩
    · exact absurd h.2 hab
  | .row (l + 1) n lo len s', x, h => by
    obtain ⟨hl, A, c, rfl, hr⟩ := h
    have hne : top + 1 - 1 - (l + 1) ≠ top := by omega
    have := S.rowV hab (fun h' => hne h'.1) hr
    rw [renP_ne hne] at this
    exact ⟨hl, A, c, rfl, this⟩
  | .ptr 0 n off, x, h => by
    obtain ⟨hl, hr⟩ := h
    have e1 : top + 1 - 1 - 0 = top := by omega
    rw [e1] at hr
    simp only [V.ren]
    rcases renN_cases (a := a) (b := b) (top := top) (n := n) (fun n => V.ptr 0 n off) with h | ⟨hn, h⟩ | h
    · rw [h.1]; trivial
    · rw [h]; exact ⟨hl, by rw [e1]; exact S.ptrV hab (fun h' => hn h'.2) hr⟩
    · exact absurd h.2 hab
  | .ptr (l + 1) n off, x, h => by
    obtain ⟨hl, hr⟩ := h
    have hne : top + 1 - 1 - (l + 1) ≠ top := by omega
    have := S.ptrV hab (fun h' => hne h'.1) hr
    rw [renP_ne hne] at this
    exact ⟨hl, this⟩
  | .rel 0 n i off, x, h => by
    obtain ⟨hl, hr⟩ := h
    have e1 : top + 1 - 1 - 0 = top := by omega
    rw [e1] at hr
    simp only [V.ren]
    rcases renN_cases (a := a) (b := b) (top := top) (n := n) (fun n => V.rel 0 n i off) with h | ⟨hn, h⟩ | h
    · rw [h.1]; trivial
    · rw [h]; exact ⟨hl, by rw [e1]; exact S.relV hab (fun h' => hn h'.2) hr⟩
    · exact absurd h.2 hab
  | .rel (l + 1) n i off, x, h => by
    obtain ⟨hl, hr⟩ := h
    have hne : top + 1 - 1 - (l + 1) ≠ top := by omega
    have := S.relV hab (fun h' => hne h'.1) hr
    rw [renP_ne hne] at this
    exact ⟨hl, this⟩
  | .ag cs, x, h => by
    obtain ⟨vs, hv, h, h1⟩ := h
    exact ⟨vs, hv, VRs.ren hab S cs vs h, h1⟩
  | .tp cs, x, h => by
    obtain ⟨vs, hv, h⟩ := h
    exact ⟨vs, hv, VRs.ren hab S cs vs h⟩
  | .cl f cs, x, h => by
    obtain ⟨vs, hv, h⟩ := h
    exact ⟨vs, hv, VRs.ren hab S cs vs h⟩
  | .d true t, x, h => h
  | .d false t, x, h => h
  | .dx true t, x, h => h
  | .dx false t, x, h => h
  | .nil _, x, h => h
  | .pd t, x, h => h
  | .u, x, h => trivial
theorem VRs.ren (hab : a ≠ b) (S : Rend a b top O O') : ∀ (vs : List V) (xs : List Value), VRs g w O (top + 1) vs xs → VRs (g.ren a b top) w O' (top + 1) (V.rens a b vs) xs
  | [], xs, h => h
  | v :: vs, _, h => by
    obtain ⟨x, xs, rfl, h1, h2⟩ := h
    exact ⟨x, xs, rfl, VR.ren hab S v x h1, VRs.ren hab S vs xs h2⟩
end
end
theorem gt_renOb {a b : Nat} (hab : a ≠ b) (os : Lv) (n : Nat) : gt none (renOb a b os) n = if n = a then none else if n = b then (gt none os a).map (Ob.ren a b) else (gt none os n).map (Ob.ren a b) := by
  unfold renOb
  rw [gt_st, gt_st, gt_map_ob]
  by_cases h1 : n = a
  · subst h1; simp
  · rw [if_neg (fun h => h1 h.symm), if_neg h1]
    by_cases h2 : n = b
    · subst h2; simp
    · rw [if_neg (fun h => h2 h.symm), if_neg h2]
theorem Rel.ren (h : Rel g σ tmps rts w) {a b : Nat} (hab : a ≠ b) : ∃ g', Rel g' (σ.ren a b) tmps rts w ∧ Adv g w g' w := by
  have hO : ∀ x n, (σ.ren a b).O x n = if x = σ.up.length then (if n = a then none else if n = b then (σ.O x a).map (Ob.ren a b) else (σ.O x n).map (Ob.ren a b)) else σ.O x n := fun x n => by
    show (if x < σ.up.length + 1 then (σ.ren a b).obj (σ.up.length - x) n else none) = _
    simp only [St.O]
    by_cases ha : x = σ.up.length
    · subst ha
      simp only [Nat.lt_succ_self, if_true, Nat.sub_self]
      exact gt_renOb hab _ _
    · rw [if_neg ha]
      obtain hk | ⟨k, hk⟩ : ¬ x < σ.up.length + 1 ∨ ∃ k, σ.up.length - x = k + 1 := by
        by_cases hlt : x < σ.up.length + 1
        · exact .inr ⟨σ.up.length - x - 1, by omega⟩
        · exact .inl hlt
      · simp [hk]
      · rw [hk]; rfl
  have hup : (σ.ren a b).up = σ.up := rfl
  have hget : ∀ i, (σ.ren a b).get i = V.ren a b (σ.get i) := fun i => gt_map (V.ren a b) (by simp only [V.ren]) _ _
  generalize hτ : σ.ren a b = τ at hO hup hget
  have hat : ∀ x n, ¬ (x = σ.up.length ∧ n = b) → τ.O x (renP a b σ.up.length x n) = if x = σ.up.length then (σ.O x n).map (Ob.ren a b) else σ.O x n := fun x n hn => by
    rw [hO]
    by_cases hx : x = σ.up.length
    · subst hx
      simp only [if_true]
      unfold renP
      by_cases h1 : n = a
      · subst h1
        simp only [and_self, if_true]
        rw [if_neg (fun h => hab h.symm)]
      · have h2 : n ≠ b := fun h => hn ⟨rfl, h⟩
        simp only [h1, and_false, if_false, h2]
    · rw [if_neg hx, if_neg hx, renP_ne hx]
  have S : Rend a b σ.up.length σ.O τ.O := by
    refine ⟨fun x n s es gr hn ho => ?_, fun x n s es hn ho => ?_, fun x n cs hn ho => ?_, fun x n hn ho => ?_⟩
    · rw [hat x n hn, ho]; split <;> rfl
    · rw [hat x n hn, ho]; split <;> rfl
    · rw [hat x n hn, ho]
      split
      · exact ⟨_, V.rens_length a b cs, rfl⟩
      · exact ⟨cs, rfl, rfl⟩
    · rw [hat x n hn, ho]; split <;> rfl
  refine ⟨g.ren a b σ.up.length, ⟨fun i => ?_, fun x n o hx ho => ?_, fun r hr => ?_, fun k x n hk => ?_, h.okb, h.base⟩, ⟨rfl, fun _ h => h, fun _ h => .inl h, fun k hk => .inl fun h0 => hk (by simp [Gh.ren, h0]), fun _ _ _ => rfl, Nat.le_refl _, rfl, rfl, rfl⟩⟩
  · rw [hup, hget]; exact VR.ren hab S _ _ (h.sl i)
  · rw [hup] at hx
    -- the object's name before
    obtain ⟨m, hm, rfl⟩ : ∃ m, ¬ (x = σ.up.length ∧ m = b) ∧ n = renP a b σ.up.length x m := by
      by_cases hxt : x = σ.up.length
      · subst hxt
        rw [hO, if_pos rfl] at ho
        by_cases h1 : n = a
        · rw [if_pos h1] at ho; cases ho
        · by_cases h2 : n = b
          · exact ⟨a, fun h => hab h.2, by simp [renP, h2]⟩
          · exact ⟨n, fun h => h2 h.2, by simp [renP, h1]⟩
      · exact ⟨n, fun h => hxt h.1, (renP_ne hxt).symm⟩
    rw [hat x m hm] at ho
    have hloc := Gh.ren_loc (g := g) hab hm
    have hown : ∀ k, g.own k = some (x, m) → (g.ren a b σ.up.length).own k = some (x, renP a b σ.up.length x m) := fun k hk => Gh.ren_own hk
    by_cases hxt : x = σ.up.length
    · rw [if_pos hxt] at ho
      cases hoo : σ.O x m with
      | none => rw [hoo] at ho; cases ho
      | some o' =>
        rw [hoo] at ho
        cases ho
        have hold := h.ob x m o' hx hoo
        cases o' with
        | box cs =>
          obtain ⟨h1, vs, rest, el, h2, h3, h4⟩ := hold
          refine ⟨by rw [hloc]; exact hown _ h1, vs, rest, el, by rw [hloc]; exact h2, ?_, h4.1, by rw [hloc]; exact h4.2⟩
          subst hxt
          exact VRs.ren hab S _ _ h3
        | rw s es gr =>
          rcases hold with h1 | ⟨h1, h2, h3⟩
          · exact .inl (by rw [hloc]; exact h1)
          · exact .inr (by rw [hloc]; exact ⟨hown _ h1, h2, h3⟩)
        | fz s es => trivial
        | gone => trivial
    · rw [if_neg hxt] at ho
      have hold := h.ob x m o hx ho
      cases o with
      | box cs =>
        obtain ⟨h1, vs, rest, el, h2, h3, h4⟩ := hold
        exact ⟨by rw [hloc]; exact hown _ h1, vs, rest, el, by rw [hloc]; exact h2, VRs.keep' (S.keep hab (D := x + 1) (by omega)) (Nat.le_refl _) h3, h4.1, by rw [hloc]; exact h4.2⟩
      | rw s es gr =>
        rcases hold with h1 | ⟨h1, h2, h3⟩
        · exact .inl (by rw [hloc]; exact h1)
        · exact .inr (by rw [hloc]; exact ⟨hown _ h1, h2, h3⟩)
      | fz s es => trivial
      | gone => trivial
  · rw [hup]
    have := h.rt r hr
    exact ⟨this.1, VR.keep' (S.keep hab (Nat.le_refl _)) this.1 this.2⟩
  · rw [hup]
    simp only [Gh.ren, Option.map_eq_some_iff, Prod.mk.injEq] at hk
    obtain ⟨⟨x', n'⟩, hk, rfl, _⟩ := hk
    exact h.own k x' n' hk
end
end Go.Proofs.YtcgjebaomhfbdaaGreat.Vm

/- Code in the frame of a round, too. -/
namespace Go.Proofs.YtcgjebaomhfbdaaGreat.Vm
open Go
/-- no bounds; ro: the loop whose round it is -/
def Wd (ro : Option Nat) : Fence := { Fence.wide with round := ro }
theorem room_Wd (ro : Option Nat) (n : Nat) : (Wd ro).room n := fun _ h => by simp [Wd, Fence.wide] at h
section
variable {P : Program} {E : Env} {ro : Option Nat} {g : Gh} {σ : St} {tmps : Array Value} {rts : Roots} {w : World} {Q : Exit → Act → World → Prop} {a : Act}
theorem wpIn_Wd {c : Code} : c.wpIn (Wd none) 0 P Q a w ↔ c.wp P Q a w := wpIn_wide (n := 0)
theorem callsIn_Wd {f : FuncId} {args : Array Value} {R : Ending → World → Prop} (h : Calls P f args w R) : CallsIn (Wd ro) 0 P f args w R :=
  (callsIn_wide.2 h : CallsIn Fence.wide 0 P f args w R)
theorem upon_in {o : Oper} {K : Act → World → Prop} {r : Result Go.Next} (h : o.upon P a K Q r) : o.uponIn (Wd ro) 0 P a K Q r := by
  cases r with
  | ok n w' =>
    cases n with
    | value v => exact h
    | skip => exact h
    | defer d => exact h
    | enter f args => exact ⟨fun h => (by cases h), callsIn_Wd h⟩
    | row row args => exact ⟨fun h => (by cases h), fun c cs _ => let ⟨v, w', r, s⟩ := h c cs; ⟨v, w', r, stepsIn_wide.2 s⟩⟩
    | _ => exact h.elim
  | halt x w' => cases x <;> first | exact h | exact h.elim
theorem okI_defer {nt : Nat} {i : I} {o : Oper} (h : okI P nt i o = true) (c : Call) : o.op ≠ .defer c := by
  intro hd
  unfold okI at h
  rw [hd, Bool.and_eq_true] at h
  have h := h.2
  cases i <;> cases h
theorem op1_defer {nt : Nat} {ops : Array Oper} {i : G} {o : Oper} {σ' : St} (hok : okG P nt ops i o = true) (h1 : Op1 P E σ i σ') (c : Call) : o.op ≠ .defer c := by
  simp only [okG, Bool.and_eq_true, Bool.or_eq_true] at hok
  rcases hok.2 with hok2 | hok2
  · exact okI_defer hok2 c
  · intro hd
    unfold okCall at hok2
    split at hok2
    · rename_i h; rw [hd] at h; cases h
    · rename_i h; rw [hd] at h; cases h
    · rename_i hi
      obtain ⟨i, gd⟩ := i
      simp only at hi
      subst hi
      cases h1 with
      | step hg hs => cases hs
      | skip hg =>
        have ho : o.guard = none := by simpa [okCall] using hok2
        have h1 := hok.1
        unfold okGd at h1
        rw [ho] at h1
        cases gd with
        | none => simp [St.wants] at hg
        | some x => simp at h1
    · cases hok2
theorem opwp_in {ops : Array Oper} {o : Oper} {K : Act → World → Prop} (hd : ∀ c, o.op ≠ .defer c) (h : OpWp P ops Q o K a w) :
    if Region.wanted o (yielded ops a.tmps) then o.wpIn (Wd ro) 0 P a w K Q else (∀ f, o.about P w a.eval = some f → (Wd ro).fn f) ∧ K (a.put o.dst undef) w := by
  unfold OpWp at h
  split
  · rename_i e
    rw [e] at h
    refine ⟨fun _ _ => trivial, ?_⟩
    rw [Oper.semAt_eq _ _ _ hd]
    exact upon_in h
  · rename_i e; rw [if_neg e] at h; exact ⟨fun _ _ => trivial, h⟩
theorem ops_wpIn (hE : EnvOk P E) {nt : Nat} {ops : Array Oper} {ds : List Deferred} {is : List G} {σ' : St} (h1 : Ops1 P E σ is σ') : ∀ {js : List Nat} {g : Gh} {tmps : Array Value} {w : World}, OkL P nt ops is js →
    Rel g σ tmps rts w → tmps.size = nt → (∀ a' w', Next g w rts nt σ.up.length σ' ds a' w' → Q .normal a' w') → wpOpsIn (Wd ro) 0 P ops Q js ⟨tmps, ds⟩ w := by
  induction h1 with
  | nil =>
    intro js g tmps w hL h hnt hQ
    cases hL
    exact hQ _ _ ⟨g, tmps, rfl, hnt, h, Adv.refl g w, rfl⟩
  | @cons σ σ₁ σ' i is h1 hr ih =>
    intro js g tmps w hL h hnt hQ
    cases hL with
    | @cons _ _ j js o hj ho hL =>
      unfold wpOpsIn
      simp only [hj]
      refine opwp_in (op1_defer ho h1) (op_wp (K := wpOpsIn (Wd ro) 0 P ops Q js) hE ho h hnt h1 (fun a' w' hn => ?_))
      obtain ⟨g1, tmps1, rfl, hs1, R1, A1, hup1⟩ := hn
      refine ih hL R1 hs1 (fun a2 w2 hn2 => hQ _ _ ?_)
      exact hn2.trans A1 hup1
/-! Loops, by one round more. -/
def LoopWp (P : Program) (ro : Option Nat) (c : Code) (Q : Exit → Act → World → Prop) (a : Act) (w : World) : Prop :=
  ∀ (b : Frame) (k : List Item) (cs : List Frame), b.roundOf = ro → ∃ e a' w', Q e a' w' ∧ ArrivesIn (Machine.fenced P (Wd ro)) P (lone (b.atR a (.code c :: .inLoop c :: k)) cs w) b k cs e a' w'
theorem LoopWp.wp {c : Code} (h : LoopWp P ro c Q a w) : (Code.loop c).wpIn (Wd ro) 0 P Q a w :=
  fun b k cs hro hb hr => let ⟨e, a', w', q, r⟩ := h b k cs hro; ⟨e, a', w', q, .of_steps (.one (fenced_calm hb hr rfl) stepR_loop) r⟩
theorem LoopWp.round {c : Code} (h : c.wpIn (Wd ro) 0 P (Exit.then (LoopWp P ro c Q) Q) a w) : LoopWp P ro c Q a w := by
  intro b k cs hro
  obtain ⟨e, a₁, w₁, hq, harr⟩ := h b (.inLoop c :: k) cs hro trivial (room_Wd ro _)
  cases e with
  | normal =>
    obtain ⟨e₂, a₂, w₂, hq₂, harr₂⟩ := hq b k cs hro
    exact ⟨e₂, a₂, w₂, hq₂, .of_steps (StepsIn.trans harr (.one (fenced_calm (n := 0) trivial (room_Wd ro _) rfl) stepR_inLoop)) harr₂⟩
  | exit id => exact ⟨_, a₁, w₁, hq, .pass (x := .inLoop c) rfl (fun _ _ => .inl (by simp)) harr⟩
  | goto l => exact ⟨_, a₁, w₁, hq, .pass (x := .inLoop c) rfl (fun _ _ => .inl (by simp)) harr⟩
  | ret => exact ⟨_, a₁, w₁, hq, .pass (x := .inLoop c) rfl (fun _ _ => .inl (by simp)) harr⟩
  | panic ch => exact ⟨_, a₁, w₁, hq, .pass (x := .inLoop c) rfl (fun _ _ => .inl (by simp)) harr⟩
  | outgrown => exact ⟨_, a₁, w₁, hq, .pass (x := .inLoop c) rfl (fun _ _ => .inl (by simp)) harr⟩
theorem stepR_scope {b : Frame} {k : List Item} {cs : List Frame} {c : Code} : Go.step P (lone (b.atR a (.code (.scope c) :: k)) cs w) = .next (lone (b.atR a (.code c :: .inScope c :: k)) cs w) :=
  step_lone_go (by simp [stepG, stepG.exec, Frame.atR])
theorem stepR_inScope {b : Frame} {k : List Item} {cs : List Frame} {c : Code} : Go.step P (lone (b.atR a (.inScope c :: k)) cs w) = .next (lone (b.atR a k) cs w) :=
  step_lone_go (by simp [stepG, stepG.exec, Frame.atR])
theorem wpIn_scope {c : Code} (h : c.wpIn (Wd ro) 0 P (Exit.noGoto Q) a w) : (Code.scope c).wpIn (Wd ro) 0 P Q a w := by
  intro b k cs hro hb hr
  obtain ⟨e, a₁, w₁, hq, harr⟩ := h b (.inScope c :: k) cs hro hb hr
  have h0 : (lone (b.atR a (.code (.scope c) :: k)) cs w).fenced P (Wd ro) := fenced_calm hb hr rfl
  have hx : ∀ id, exitTo id (.inScope c :: k) = exitTo id k := fun id => by simp [exitTo]
  cases e with
  | normal => exact ⟨.normal, a₁, w₁, hq, .head h0 stepR_scope (StepsIn.trans harr (.one (fenced_calm hb hr rfl) stepR_inScope))⟩
  | exit id => exact ⟨.exit id, a₁, w₁, hq, fun k' hk => .head h0 stepR_scope (harr.1 k' (by rw [hx]; exact hk)),
      fun hr' hk => let ⟨k₁, h1, h2⟩ := harr.2 hr' (by rw [hx]; exact hk); ⟨k₁, h1, .head h0 stepR_scope h2⟩⟩
  | goto l => exact hq.elim
  | ret => exact ⟨_, a₁, w₁, hq, .of_steps (.one h0 stepR_scope) harr⟩
  | panic ch => exact ⟨_, a₁, w₁, hq, .of_steps (.one h0 stepR_scope) harr⟩
  | outgrown => exact ⟨_, a₁, w₁, hq, .of_steps (.one h0 stepR_scope) harr⟩
def CodeGoal (P : Program) (ro : Option Nat) (c : Code) (Q : Exit → Act → World → Prop) (a : Act) (w : World) : Prop := match c with
  | .loop c => LoopWp P ro c Q a w
  | c => c.wpIn (Wd ro) 0 P Q a w
theorem CodeGoal.wp {c : Code} (h : CodeGoal P ro c Q a w) : c.wpIn (Wd ro) 0 P Q a w := by
  cases c with
  | loop c => exact LoopWp.wp h
  | _ => exact h
/-! What is foreign to the machine: a block that is not cells of its own. -/
structure Foreign (g : Gh) (w : World) (b : Nat) : Prop where
  own : g.own b = none
  ok : ¬ g.ok b
  base : g.base ≤ b
  lt : b < w.heap.size
theorem Foreign.adv {g' : Gh} {w' : World} {b : Nat} (h : Foreign g w b) (A : Adv g w g' w') : Foreign g' w' b ∧ w'.heap[b]? = w.heap[b]? := by
  have hn : g'.own b = none := by
    cases ho : g'.own b with
    | none => rfl
    | some x => rcases A.ownNew b (by rw [ho]; simp) with h1 | h1
                · exact absurd h.own h1
                · have := h.lt; omega
  refine ⟨⟨hn, fun hk => ?_, by rw [A.base]; exact h.base, Nat.lt_of_lt_of_le h.lt A.size⟩, A.heap b h.lt h.own⟩
  rcases A.okNew b hk with h1 | h1 | h1
  · exact h.ok h1
  · have := h.lt; omega
  · exact h1 h.own
/-- a foreign block changes -/
theorem Rel.put (h : Rel g σ tmps rts w) {b : Nat} (hF : Foreign g w b) (o : Obj) : Rel g σ tmps rts (w.putObj b o) :=
  h.world (fun x hx => World.putObj_heap_other fun he => by
    subst he
    rcases hx with hx | hx | hx
    · exact hF.ok hx
    · have := hF.base; omega
    · exact hx hF.own) (by simp)
theorem Foreign.put {b c : Nat} (h : Foreign g w b) (o : Obj) : Foreign g (w.putObj c o) b := ⟨h.own, h.ok, h.base, by simpa using h.lt⟩
theorem Adv.put {g0 : Gh} {w0 : World} {b : Nat} (A : Adv g0 w0 g w) (hb : w0.heap.size ≤ b) (o : Obj) : Adv g0 w0 g (w.putObj b o) :=
  ⟨A.base, A.ok, A.okNew, A.ownNew, fun x hx hn => (World.putObj_heap_other (by omega)).trans (A.heap x hx hn), by simpa using A.size, A.os, A.tape, A.output⟩
theorem Adv.allocO (o : Obj) : Adv g w g (w.alloc o) :=
  ⟨rfl, fun _ h => h, fun _ h => .inl h, fun _ h => .inl h, fun x hx _ => RowKit.Below.heap_alloc w o x hx, by simp, rfl, rfl, rfl⟩
theorem Rel.allocO (h : Rel g σ tmps rts w) (o : Obj) : Rel g σ tmps rts (w.alloc o) :=
  h.world (fun x hx => RowKit.Below.heap_alloc w o x (by
    rcases hx with hx | hx | hx
    · exact h.okb x hx
    · exact Nat.lt_of_lt_of_le hx h.base
    · cases ho : g.own x with
      | none => exact absurd ho hx
      | some y => exact (h.own x y.1 y.2 ho).1)) (by simp)
theorem Foreign.allocO (h : Rel g σ tmps rts w) (o : Obj) : Foreign g (w.alloc o) w.heap.size := by
  refine ⟨?_, fun hk => ?_, h.base, by simp⟩
  · cases ho : g.own w.heap.size with
    | none => rfl
    | some y => have := (h.own _ y.1 y.2 ho).1; omega
  · have := h.okb _ hk; omega
/-- the deferred calls of an activation: marks of loops that are over, laid from block n0 on -/
def DsOk (n0 : Nat) (g : Gh) (w : World) : List Deferred → Prop
  | [] => n0 ≤ w.heap.size
  | d :: ds => (∃ r, d.target = .collected r ∧ w.heap[r]? = some (.deferred (some [])) ∧ Foreign g w r ∧ n0 ≤ r ∧ ∀ d' ∈ ds, d'.target ≠ .collected r) ∧ DsOk n0 g w ds
theorem DsOk.adv {n0 : Nat} {g' : Gh} {w' : World} (A : Adv g w g' w') : ∀ {ds : List Deferred}, DsOk n0 g w ds → DsOk n0 g' w' ds
  | [], h => Nat.le_trans h A.size
  | d :: ds, ⟨⟨r, h1, h2, h3, h4⟩, h5⟩ => by
    obtain ⟨q1, q2⟩ := h3.adv A
    exact ⟨⟨r, h1, by rw [q2]; exact h2, q1, h4⟩, DsOk.adv A h5⟩
theorem DsOk.put {n0 b : Nat} (o : Obj) : ∀ {ds : List Deferred}, (∀ d ∈ ds, d.target ≠ .collected b) → DsOk n0 g w ds → DsOk n0 g (w.putObj b o) ds
  | [], _, h => by simpa [DsOk] using h
  | d :: ds, hb, ⟨⟨r, h1, h2, h3, h4⟩, h5⟩ => by
    have hr : r ≠ b := fun e => hb d (by simp) (by rw [h1, e])
    exact ⟨⟨r, h1, by rw [World.putObj_heap_other hr]; exact h2, h3.put o, h4⟩, DsOk.put o (fun d hd => hb d (by simp [hd])) h5⟩
theorem DsOk.lt {n0 : Nat} : ∀ {ds : List Deferred} {r : Nat}, DsOk n0 g w ds → (∃ d ∈ ds, d.target = .collected r) → r < w.heap.size
  | [], _, _, ⟨_, h, _⟩ => by cases h
  | d :: ds, r, ⟨⟨r', h1, _, h3, _⟩, h5⟩, ⟨d', hd, he⟩ => by
    rcases List.mem_cons.1 hd with rfl | hd
    · rw [h1] at he; cases he; exact h3.lt
    · exact DsOk.lt h5 ⟨d', hd, he⟩
theorem DsOk.le {n0 : Nat} : ∀ {ds : List Deferred}, DsOk n0 g w ds → n0 ≤ w.heap.size
  | [], h => h
  | _ :: _, h => DsOk.le h.2
/-- what is so behind code; nr: no loop over a function in it -/
def NextD (nr : Bool) (n0 : Nat) (g : Gh) (w : World) (rts : Roots) (nt n : Nat) (σ' : St) (ds : List Deferred) (a' : Act) (w' : World) : Prop :=
  ∃ g' tmps' ds', a' = ⟨tmps', ds'⟩ ∧ tmps'.size = nt ∧ Rel g' σ' tmps' rts w' ∧ Adv g w g' w' ∧ σ'.up.length = n ∧ DsOk n0 g' w' ds' ∧ (nr = true → ds' = ds)
theorem Next.toD {nr : Bool} {n0 nt n : Nat} {σ' : St} {ds : List Deferred} {a' : Act} {w' : World} (hd : DsOk n0 g w ds) (h : Next g w rts nt n σ' ds a' w') : NextD nr n0 g w rts nt n σ' ds a' w' := by
  obtain ⟨g', tmps', ha, hs, R, A, hu⟩ := h
  exact ⟨g', tmps', ds, ha, hs, R, A, hu, hd.adv A, fun _ => rfl⟩
/-! What an operation leaves of the other slots. -/
theorem opwp_mono {ops : Array Oper} {o : Oper} {K K' : Act → World → Prop} (h : OpWp P ops Q o K a w) (hk : ∀ a' w', (∃ v, a'.tmps = (a.put o.dst v).tmps) → K a' w' → K' a' w') : OpWp P ops Q o K' a w := by
  unfold OpWp at h ⊢
  split
  · rename_i e
    rw [e] at h
    simp only [if_true] at h
    unfold Oper.wp at h ⊢
    generalize (execOp a.eval o).run P w = r at h ⊢
    cases r with
    | ok n w' =>
      cases n with
      | value v => exact hk _ _ ⟨v, rfl⟩ h
      | skip => exact hk _ _ ⟨undef, rfl⟩ h
      | defer d => exact hk _ _ ⟨undef, by cases o.dst <;> rfl⟩ h
      | enter f args =>
        refine Calls.mono h fun e w'' he => ?_
        cases e with
        | returned v => exact hk _ _ ⟨v, rfl⟩ he
        | panicked c => exact he
        | outgrown => exact he
      | row row args => exact Rows.mono h fun v w'' hr => hk _ _ ⟨v, rfl⟩ hr
      | _ => exact h
    | halt x w' => cases x <;> exact h
  · rename_i e; rw [if_neg e] at h; exact hk _ _ ⟨undef, rfl⟩ h
theorem op1_dst {nt : Nat} {ops : Array Oper} {i : G} {o : Oper} {σ' : St} (hok : okG P nt ops i o = true) (h1 : Op1 P E σ i σ') : o.dst = i.i.dst := by
  simp only [okG, Bool.and_eq_true, Bool.or_eq_true] at hok
  rcases hok.2 with hok2 | hok2
  · exact (okI.dst hok2).1
  · refine (okCall.dst (fun hi => ?_) hok2).1
    obtain ⟨i, gd⟩ := i
    simp only at hi
    subst hi
    cases h1 with
    | step hg hs => cases hs
    | skip hg =>
      have ho : o.guard = none := by simpa [okCall] using hok2
      have h1 := hok.1
      unfold okGd at h1
      rw [ho] at h1
      cases gd with
      | none => simp [St.wants] at hg
      | some x => simp at h1
theorem op_wpT (hE : EnvOk P E) {nt : Nat} {i : G} {o : Oper} {ops : Array Oper} {K : Act → World → Prop} {ds : List Deferred} {σ' : St} (hok : okG P nt ops i o = true) (h : Rel g σ tmps rts w) (hnt : tmps.size = nt)
    (h1 : Op1 P E σ i σ') (hK : ∀ a' w', Next g w rts nt σ.up.length σ' ds a' w' → (∀ s, i.i.dst ≠ some s → a'.tmps.getD s undef = tmps.getD s undef) → K a' w') : OpWp P ops Q o K ⟨tmps, ds⟩ w := by
  refine opwp_mono (op_wp (K := fun a' w' => Next g w rts nt σ.up.length σ' ds a' w') hE hok h hnt h1 (fun _ _ h => h)) fun a' w' ⟨v, hv⟩ hn => hK a' w' hn fun s hs => ?_
  rw [hv, op1_dst hok h1]
  cases hd : i.i.dst with
  | none => rfl
  | some d =>
    have hne : d ≠ s := fun e => hs (by rw [hd, e])
    simp [Act.put, Array.getD_eq_getD_getElem?, Array.getElem?_setIfInBounds_ne hne]
theorem move_wpT {nt d s : Nat} {o : Oper} {ops : Array Oper} {K : Act → World → Prop} {ds : List Deferred} (hok : okG P nt ops ⟨.mv d (.t s), none⟩ o = true) (h : Rel g σ tmps rts w) (hnt : tmps.size = nt)
    (hK : d < nt → K ⟨tmps.setIfInBounds d (tmps.getD s undef), ds⟩ w) : OpWp P ops Q o K ⟨tmps, ds⟩ w := by
  simp only [okG, Bool.and_eq_true, Bool.or_eq_true] at hok
  have hwt := wanted_of (t := true) hok.1 h rfl
  unfold OpWp
  rw [hwt]
  simp only [if_true]
  rcases hok.2 with hok | hok
  · have hd := okI.dst hok
    unfold okI at hok
    rw [Bool.and_eq_true] at hok
    have h2 := hok.2
    have key : ∀ p, okX (.t s) p = true → evalT tmps p = tmps.getD s undef := fun p hp => by
      cases p with
      | tmp t =>
        have : s = t := by simpa [okX] using hp
        subst this; rfl
      | _ => simp [okX] at hp
    unfold Oper.wp
    rw [Act.eval_T]
    cases hop : o.op with
    | move p =>
      rw [hop] at h2
      have : (execOp (evalT tmps) o).run P w = .ok (.value (evalT tmps p)) w := by unfold execOp; simp only [hop]; rfl
      rw [this, Oper.upon_value, hd.1, key p h2]
      exact hK (hd.2 d rfl)
    | assign p =>
      rw [hop] at h2
      have : (execOp (evalT tmps) o).run P w = .ok (.value (evalT tmps p)) w := by unfold execOp; simp only [hop]; rfl
      rw [this, Oper.upon_value, hd.1, key p h2]
      exact hK (hd.2 d rfl)
    | _ => rw [hop] at h2; cases h2
  · unfold okCall at hok
    split at hok
    · rename_i hi _; cases hi
    · rename_i hi _; cases hi
    · rename_i hi; cases hi
    · cases hok
end
end Go.Proofs.YtcgjebaomhfbdaaGreat.Vm

/- A row of slots becomes data for good. -/
namespace Go.Proofs.YtcgjebaomhfbdaaGreat.Vm
open Go
section
variable {P : Program} {g : Gh} {σ : St} {tmps : Array Value} {rts : Roots} {w : World}
theorem DenL.row {ok : Nat → Prop} : ∀ (ts : List T) (vs : List Value), DenL w ok ts vs → DenF w ok 1 ts vs
  | [], _, h => h
  | t :: ts, _, h => by
    obtain ⟨v, vs, rfl, _, hd, h⟩ := h
    exact ⟨[v], vs, rfl, rfl, hd, DenL.row ts vs h⟩
theorem frz_box {m : Nat} {cs : List V} : ∀ (ns : List Nat) {σ : St}, σ.obj 0 m = some (.box cs) → (σ.frz ns).obj 0 m = some (.box cs)
  | [], _, h => h
  | n :: ns, σ, h => by
    show ((σ.frz1 n).frz ns).obj 0 m = _
    refine frz_box ns ?_
    unfold St.frz1
    split
    · rename_i s es gr ho
      rw [St.obj_setObj, if_neg (fun e => by obtain ⟨_, rfl⟩ := e; rw [ho] at h; cases h)]
      exact h
    · exact h
/-- a box becomes a frozen row -/
theorem Rel.frzB {m : Nat} {cs : List V} {ts : List T} (h : Rel g σ tmps rts w) (hO : σ.obj 0 m = some (.box cs)) (hlen : ts.length = cs.length) (hden : DenR w (g.frz σ.up.length m).ok (g.loc σ.up.length m).1 1 0 ts) :
    Rel (g.frz σ.up.length m) (σ.setObj 0 m (some (.fz 1 ts))) tmps rts w := by
  have hO' : σ.O σ.up.length m = some (.box cs) := by
    have := St.O_obj σ 0 m (Nat.zero_le _)
    simpa using this.trans hO
  obtain ⟨hownm, _⟩ := h.ob σ.up.length m _ (by omega) hO'
  have hset : ∀ a n, (σ.setObj 0 m (some (.fz 1 ts))).O a n = if a = σ.up.length ∧ n = m then some (.fz 1 ts) else σ.O a n := fun a n => by
    simpa using St.O_setObj σ 0 m (some (.fz 1 ts)) (Nat.zero_le _) a n
  have hdm : ∀ b s o es, DenR w g.ok b s o es → DenR w (g.frz σ.up.length m).ok b s o es := fun b s o es h => DenR.mono (fun _ _ => rfl) (fun _ h => .inl h) b s rfl o es h
  have hdc : ∀ e us, DenC w g.ok e us → DenC w (g.frz σ.up.length m).ok e us := fun e us h => DenC.mono (fun _ _ => rfl) (fun _ h => .inl h) e us h
  have hother : ∀ b a n, ¬ (a = σ.up.length ∧ n = m) → g.own b = some (a, n) → (g.frz σ.up.length m).own b = some (a, n) := fun b a n hx hb => by
    simp only [Gh.frz]
    rw [if_neg (by rw [hb]; intro hh; cases hh; exact hx ⟨rfl, rfl⟩)]; exact hb
  have K : Keep (σ.up.length + 1) (fun _ _ => False) g w σ.O (g.frz σ.up.length m) w (σ.setObj 0 m (some (.fz 1 ts))).O := by
    refine ⟨rfl, fun _ h => .inl h, fun _ _ => rfl, fun a n lo len s' A c ha _ hv => ?_, fun a n i off v ha _ hv => ?_, fun a n off v ha _ hv => ?_⟩
    · by_cases hx : a = σ.up.length ∧ n = m
      · obtain ⟨rfl, rfl⟩ := hx
        simp only [RowV, hO'] at hv
        simp only [RowV, hset, and_self, if_true]
        obtain ⟨rfl, h2, h3, h4⟩ := hv
        refine ⟨rfl, by omega, h2, ?_⟩
        rcases h4 with h4 | ⟨hA, _⟩
        · exact .inl (by omega)
        · refine .inr ⟨_, _, hA, .inr hownm, ?_⟩
          have := hden.slice (lo := lo) (len := len)
          simpa using this
      · unfold RowV at hv ⊢
        rw [hset, if_neg hx]
        split at hv
        · obtain ⟨h1, h2, h3, h4⟩ := hv
          exact ⟨h1, h2, h3, h4.imp id fun ⟨b, o, hA, ho, hd, hy⟩ => ⟨b, o, hA, hother b a n hx ho, hdm _ _ _ _ hd, hy⟩⟩
        · obtain ⟨h1, h2, h3, h4⟩ := hv
          exact ⟨h1, h2, h3, h4.imp id fun ⟨b, o, hA, ho, hd⟩ => ⟨b, o, hA, .inl ho, hdm _ _ _ _ hd⟩⟩
        · exact hv
        · exact hv
        · exact hv
    · by_cases hx : a = σ.up.length ∧ n = m
      · obtain ⟨rfl, rfl⟩ := hx
        simp only [RelV, hO'] at hv
      · unfold RelV at hv ⊢
        rw [hset, if_neg hx]
        split at hv
        · obtain ⟨b, o, e, us, hv, ho, he, hll, hc, hd, hg⟩ := hv
          exact ⟨b, o, e, us, hv, hother b a n hx ho, he, hll, hc, hdc _ _ hd, hg⟩
        · obtain ⟨b, o, e, us, hv, ho, he, hll, hc, hd⟩ := hv
          exact ⟨b, o, e, us, hv, .inl ho, he, hll, hc, hdc _ _ hd⟩
        · exact hv
        · exact hv
    · by_cases hx : a = σ.up.length ∧ n = m
      · obtain ⟨rfl, rfl⟩ := hx
        have := hv.box hO'
        simp only [PtrV, hset, and_self, if_true]
        exact ⟨_, 0, by rw [Nat.zero_add]; exact this⟩
      · unfold PtrV at hv ⊢
        rw [hset, if_neg hx]
        exact hv
  refine Rel.over (a₀ := σ.up.length) (n₀ := m) h rfl (fun i => St.get_setObj _ _ _ _ _) K (fun a n hx => by rw [hset, if_neg hx]) (fun _ _ _ => rfl)
    (fun b a n hx hb => ⟨hother b a n hx hb, rfl⟩) (fun o ho => ?_) (fun b a n hb => ?_) (fun b hb => ?_) h.base
  · rw [hset, if_pos ⟨rfl, rfl⟩] at ho
    cases ho
    trivial
  · simp only [Gh.frz] at hb ⊢
    split at hb
    · cases hb
    · rename_i hne
      have := h.own b a n hb
      exact ⟨this.1, fun hk => hk.elim this.2.1 hne, this.2.2⟩
  · rcases hb with hb | hb
    · exact h.okb b hb
    · exact (h.own b _ _ hb).1
theorem toTs_length : ∀ (cs : List V) (ts : List T) (ns : List Nat), σ.toTs cs = some (ts, ns) → ts.length = cs.length
  | [], ts, ns, e => by simp only [St.toTs, Option.some.injEq, Prod.mk.injEq] at e; rw [← e.1]; rfl
  | c :: cs, ts, ns, e => by
    simp only [St.toTs] at e
    split at e
    · rename_i t n1 ts' n2 e1 e2
      simp only [Option.some.injEq, Prod.mk.injEq] at e
      rw [← e.1, List.length_cons, List.length_cons, toTs_length cs ts' n2 e2]
    · cases e
theorem Rel.unvs {m : Nat} {σ' : St} (h : Rel g σ tmps rts w) (e : σ.unvs m = some σ') : ∃ g', Rel g' σ' tmps rts w ∧ Adv g w g' w ∧ σ'.up.length = σ.up.length := by
  unfold St.unvs at e
  split at e
  · rename_i cs hO
    split at e
    · rename_i ts ns hts
      cases e
      have hO' : σ.O σ.up.length m = some (.box cs) := by
        have := St.O_obj σ 0 m (Nat.zero_le _)
        simpa using this.trans hO
      obtain ⟨hown, vs, rest, el, hh, hvs, hone, _⟩ := h.ob σ.up.length m _ (by omega) hO'
      obtain ⟨g1, R1, K1, A1, H, H2, HL⟩ := h.frzs ns
      have hOf := frz_box ns hO
      have hup : (σ.frz ns).up.length = σ.up.length := by rw [St.up_frz]
      have hn : ∀ n ∈ ns, ∀ b, g.own b = some (σ.up.length, n) → g1.ok b := fun n hn b hb => by
        obtain ⟨s, es, gr, hobj⟩ := St.toTs_names cs ts ns hts n hn
        exact H n hn s es gr hobj b hb
      have dl := St.toTs_den (g := g) (w := w) (ok' := (g1.frz σ.up.length m).ok) rfl (fun b hb => .inl (A1.ok b hb)) cs ts ns vs hts hvs (fun y hy => hone y (List.mem_append_left _ hy)) (fun n hn' b hb => .inl (hn n hn' b hb))
      have hl : vs.length = ts.length := by rw [← VRs.length _ _ hvs, toTs_length cs ts ns hts]
      have hden : DenR w (g1.frz σ.up.length m).ok (g.loc σ.up.length m).1 1 0 ts := DenF.row (fun _ _ => rfl) ts vs 0 (DenL.row ts vs dl) (fun j hj => by
        simp only [World.cell?, hh, Nat.zero_add, List.getElem?_toArray]
        rw [List.getElem?_append_left hj]; rfl)
      have R2 := Rel.frzB (m := m) (ts := ts) R1 hOf (toTs_length cs ts ns hts) (by rw [hup, HL]; exact hden)
      exact ⟨_, R2, A1.trans (Adv.frz _ _), by rw [St.up_setObj0, hup]⟩
    · cases e
  · cases e
    exact ⟨g, h, Adv.refl g w, rfl⟩
end
end Go.Proofs.YtcgjebaomhfbdaaGreat.Vm

/- Code: what the machine's run says of Go's. -/
namespace Go.Proofs.YtcgjebaomhfbdaaGreat.Vm
open Go
def okRg (P : Program) (E : Env) (nt : Nat) (dr : Bool) (is : List G) (ops : Array Oper) (os : List (List Nat)) : Bool :=
  decide (is.length = ops.size) && ((List.range ops.size).all fun i => match ops[i]? with | some o => okG P nt ops (itG is i) o | none => false) && (!dr || okDraw E is ops os)
def okCode (P : Program) (E : Env) (nt : Nat) : C → Code → Bool
  | .skip, .skip => true
  | .skip, .label _ => true
  | .rg _ dr _ is os, .region _ ops dr' => (dr == dr') && okRg P E nt dr is ops os
  | .seq a b, .seq x y => okCode P E nt a x && okCode P E nt b y
  | .seq .skip a, .scope x => okCode P E nt a x
  | .cond x a b, .cond p c d => okX x p && okCode P E nt a c && okCode P E nt b d
  | .block i a, .block j b => decide (i = j) && okCode P E nt a b
  | .loop a, .loop b => okCode P E nt a b
  | .exit i, .exit j => decide (i = j)
  | .ret, .ret => true
  | .rfun x ps a b, .rangeFunc p qs c d => okX x p && decide (qs.toList = ps) && ps.all (fun q => decide (q < nt)) && okCode P E nt a c && okCode P E nt b d
  | .bad, _ => true
  | _, _ => false
def okRv (P : Program) : List Rv → List ResultVar → Bool
  | [], [] => true
  | .s t :: rs, .tmp u :: us => decide (t = u) && okRv P rs us
  | .c t w :: rs, .cell u ty :: us => decide (t = u) && isW P ty w && okRv P rs us
  | _, _ => false
def exitOf : Ex → Exit
  | .normal => .normal
  | .exit id => .exit id
  | .ret => .ret
section
variable {P : Program} {E : Env} {g : Gh} {σ : St} {tmps : Array Value} {rts : Roots} {w : World}
theorem Rel.nrw {d m : Nat} {σ' : St} (h : Rel g σ tmps rts w) (e : σ.nrw d m = some σ') : ∃ g', Rel g' σ' tmps rts w ∧ Adv g w g' w ∧ σ'.up.length = σ.up.length := by
  unfold St.nrw at e
  split at e
  · rename_i s hd
    obtain ⟨τ, hn, rfl⟩ := map_some e
    obtain ⟨hno, rfl⟩ := new_some hn
    have hv0 := h.sl d
    rw [hd] at hv0
    obtain ⟨A, hA⟩ := hv0
    obtain ⟨R, K, Ad, hv⟩ := h.newNil (s := s) (gr := false) hno A
    refine ⟨_, ⟨fun i => ?_, fun a n o ha ho => ?_, fun r hr => ?_, R.own, R.okb, R.base⟩, Ad, rfl⟩
    · rw [St.O_set, St.get_set]
      by_cases hi : d = i
      · subst hi
        rw [if_pos rfl, hA]
        exact hv
      · rw [if_neg hi]; exact R.sl i
    · rw [St.O_set] at ho ⊢; exact R.ob a n o ha ho
    · rw [St.O_set]; exact R.rt r hr
  · cases e; exact ⟨g, h, Adv.refl g w, rfl⟩
theorem pre_sound : ∀ (fs : List F) {g : Gh} {σ σ₁ : St}, Rel g σ tmps rts w → pre σ fs = some σ₁ → ∃ g', Rel g' σ₁ tmps rts w ∧ Adv g w g' w ∧ σ₁.up.length = σ.up.length
  | [], g, σ, σ₁, h, e => by simp only [pre, Option.some.injEq] at e; subst e; exact ⟨g, h, Adv.refl g w, rfl⟩
  | .frz m :: fs, g, σ, σ₁, h, e => by
    simp only [pre] at e
    obtain ⟨g1, R1, _, A1, _⟩ := h.frzs [m]
    obtain ⟨g2, R2, A2, hup⟩ := pre_sound fs (σ := σ.frz1 m) R1 e
    exact ⟨g2, R2, A1.trans A2, by rw [hup]; exact congrArg List.length (St.up_frz σ [m])⟩
  | .pur m :: fs, g, σ, σ₁, h, e => by
    simp only [pre] at e
    obtain ⟨g2, R2, A2, hup⟩ := pre_sound fs (h.pur m) e
    exact ⟨g2, R2, A2, by rw [hup, St.up_pur]⟩
  | .kill a b :: fs, g, σ, σ₁, h, e => by
    simp only [pre] at e
    obtain ⟨g2, R2, A2, hup⟩ := pre_sound fs (h.kill a b) e
    exact ⟨g2, R2, A2, by rw [hup, St.up_kill]⟩
  | .settle m :: fs, g, σ, σ₁, h, e => by
    simp only [pre] at e
    split at e
    · rename_i σ2 hs
      obtain ⟨R, hup⟩ := h.settle hs
      obtain ⟨g2, R2, A2, hup2⟩ := pre_sound fs R e
      exact ⟨g2, R2, A2, by rw [hup2, hup]⟩
    · cases e
  | .nrw d m :: fs, g, σ, σ₁, h, e => by
    simp only [pre] at e
    split at e
    · rename_i σ2 hs
      obtain ⟨g1, R, A1, hup⟩ := h.nrw hs
      obtain ⟨g2, R2, A2, hup2⟩ := pre_sound fs R e
      exact ⟨g2, R2, A1.trans A2, by rw [hup2, hup]⟩
    · cases e
  | .ren a b :: fs, g, σ, σ₁, h, e => by
    simp only [pre] at e
    split at e
    · cases e
    · rename_i hab
      obtain ⟨g1, R, A1⟩ := h.ren hab
      obtain ⟨g2, R2, A2, hup2⟩ := pre_sound fs R e
      exact ⟨g2, R2, A1.trans A2, hup2⟩
  | .renf a b :: fs, g, σ, σ₁, h, e => by
    simp only [pre] at e
    split at e
    · cases e
    · rename_i hab
      obtain ⟨g1, R, A1⟩ := h.ren hab
      obtain ⟨g2, R2, A2, hup2⟩ := pre_sound fs R e
      exact ⟨g2, R2, A1.trans A2, hup2⟩
  | .unvs m :: fs, g, σ, σ₁, h, e => by
    simp only [pre] at e
    split at e
    · rename_i σ2 hs
      obtain ⟨g1, R, A1, hup⟩ := h.unvs hs
      obtain ⟨g2, R2, A2, hup2⟩ := pre_sound fs R e
      exact ⟨g2, R2, A1.trans A2, by rw [hup2, hup]⟩
    · cases e
theorem okRg.facts {nt : Nat} {dr : Bool} {is : List G} {ops : Array Oper} {os : List (List Nat)} (h : okRg P E nt dr is ops os = true) :
    is.length = ops.size ∧ (∀ i, i < ops.size → ∃ o, ops[i]? = some o ∧ okG P nt ops (itG is i) o = true) ∧ (dr = true → okDraw E is ops os = true) := by
  simp only [okRg, Bool.and_eq_true, decide_eq_true_eq, Bool.or_eq_true, Bool.not_eq_true'] at h
  obtain ⟨⟨h1, h2⟩, h3⟩ := h
  refine ⟨h1, fun i hi => ?_, fun hd => ?_⟩
  · have := List.all_eq_true.1 h2 i (List.mem_range.2 hi)
    split at this
    · rename_i o ho; exact ⟨o, ho, this⟩
    · cases this
  · rcases h3 with h3 | h3
    · rw [hd] at h3; cases h3
    · exact h3
theorem itG_map {is : List G} {n : Nat} (h : is.length = n) : (List.range n).map (itG is) = is := by
  apply List.ext_getElem?
  intro i
  simp only [List.getElem?_map]
  by_cases hi : i < n
  · rw [List.getElem?_range hi]; simp [itG, List.getElem?_eq_getElem (show i < is.length by omega)]
  · rw [List.getElem?_eq_none (by simp; omega), List.getElem?_eq_none (by omega)]; rfl
theorem OkL.of {nt : Nat} {is : List G} {ops : Array Oper} (h : ∀ i, i < ops.size → ∃ o, ops[i]? = some o ∧ okG P nt ops (itG is i) o = true) : ∀ js : List Nat, (∀ j ∈ js, j < ops.size) → OkL P nt ops (js.map (itG is)) js
  | [], _ => .nil
  | j :: js, hj => by
    obtain ⟨o, ho, hok⟩ := h j (hj j (by simp))
    exact .cons ho hok (OkL.of h js fun k hk => hj k (by simp [hk]))
theorem pick_map {is : List G} : ∀ {o : List Nat}, (∀ j ∈ o, j < is.length) → pick is o = o.map (itG is)
  | [], _ => rfl
  | j :: o, h => by
    have hj := h j (by simp)
    simp only [pick, List.filterMap_cons, List.getElem?_eq_getElem hj, List.map_cons, itG, List.getD_eq_getElem?_getD, Option.getD_some]
    rw [← pick_map (is := is) (o := o) (fun k hk => h k (by simp [hk]))]
    rfl
theorem region_wp (hE : EnvOk P E) (hX : ExtOk E) (hm : P.follows .mixedOrders = true) {nt id : Nat} {dr : Bool} {is : List G} {ops : Array Oper} {os : List (List Nat)} {σ' : St} {ds : List Deferred} {Q : Exit → Act → World → Prop} {ro : Option Nat} (hok : okRg P E nt dr is ops os = true)
    (h1 : Ops1 P E σ is σ') (hos : ∀ o ∈ os, Ops1 P E σ (pick is o) σ') (h : Rel g σ tmps rts w) (hnt : tmps.size = nt) (hQ : ∀ a' w', Next g w rts nt σ.up.length σ' ds a' w' → Q .normal a' w') : (Code.region id ops dr).wpIn (Wd ro) 0 P Q ⟨tmps, ds⟩ w := by
  obtain ⟨hlen, hall, hdr⟩ := okRg.facts hok
  cases dr with
  | false =>
    refine wpIn_region (ops_wpIn hE h1 ?_ h hnt hQ)
    have := OkL.of hall (List.range ops.size) (fun j hj => List.mem_range.1 hj)
    rwa [itG_map hlen] at this
  | true =>
    refine wpIn_region_draw fun t => ?_
    simp only [Region.schedule, hm, Bool.true_or, if_true]
    have hd := hdr rfl
    obtain ⟨r, hr, hlt, hc⟩ := sched_any hd t
    have hg : Good nt σ := ⟨g, tmps, rts, w, h, hnt⟩
    have hao : AllOk P nt ops (r.map (itG is)) := fun i hi => by
      obtain ⟨j, hj, rfl⟩ := List.mem_map.1 hi
      obtain ⟨o, _, ho⟩ := hall j (hlt j hj)
      exact ⟨o, ho⟩
    have hrun : Ops1 P E σ (r.map (itG is)) σ' := by
      rcases hr with rfl | hr
      · rw [itG_map hlen]; exact h1
      · rw [← pick_map (fun j hj => by rw [hlen]; exact hlt j hj)]; exact hos r hr
    have h2 := lin hE hX hc hg hao hrun
    have hL := OkL.of hall _ (fun j hj => hlt j (hc.perm.mem_iff.1 hj))
    refine ops_wpIn hE h2 hL (h.same (w' := { w with drawn := w.drawn + 1 }) rfl) hnt (fun a' w' hn => hQ a' w' ?_)
    obtain ⟨g', tmps', ha, hs, R, Ad, hup⟩ := hn
    exact ⟨g', tmps', ha, hs, R, Adv.trans Adv.drew Ad, hup⟩
/-- the table of functions is the program's -/
structure FnsOk (P : Program) (E : Env) : Prop where
  fn : ∀ f F, E.fn f = some F → ∃ fn c, P.funcs[f]? = some fn ∧ fn.body = some c ∧ okRv P F.res fn.results.toList = true ∧ ∀ nt, fn.ntmps ≤ nt → okCode P E nt F.code c = true
/-! A loop over a function, while its function runs. -/
def codeEx : Ex → Code
  | .exit id => .exit id
  | _ => .ret
def stOf : Option Ex → LoopState
  | none => .ready
  | some _ => .done
def recAt (r : Loop) (j : Option Ex) : Loop := { r with state := stOf j, pending := j.map codeEx }
structure LoopAt (l : Nat) (r : Loop) (j : Option Ex) (g : Gh) (w : World) : Prop where
  rc : w.heap[l]? = some (.loop (recAt r j))
  fgn : Foreign g w l
  nn : j ≠ some .normal
/-- y: as the machine has it; l, r: the record; D: the loop's level; it was laid in w0 or later -/
structure LoopC (P : Program) (E : Env) (y : Yc) (l : Nat) (r : Loop) (D : Nat) (w0 : World) (rts : Roots) : Prop where
  ps : r.params.toList = y.ps
  lt : ∀ p ∈ y.ps, p < r.tmps.size
  a : okCode P E r.tmps.size y.a r.assign = true
  b : okCode P E r.tmps.size y.b r.body = true
  na : y.a.noRf = true
  nb : y.b.noRf = true
  rts : ∀ i, i < y.sl.length → (D, gt .u y.sl i, r.tmps.getD i undef) ∈ rts
  new : w0.heap.size ≤ l
def isYield (l : Nat) (v : Value) : Prop := v = .func (.yield l) #[] #[]
/-- what is so behind a part of the function's code -/
def NextI (l : Nat) (r : Loop) (j : Option Ex) (g0 : Gh) (w0 : World) (rts : Roots) (nt n : Nat) (σ' : St) (ys : List Nat) (a' : Act) (w' : World) : Prop :=
  ∃ g' tmps', a' = ⟨tmps', []⟩ ∧ tmps'.size = nt ∧ (∀ s ∈ ys, isYield l (tmps'.getD s undef)) ∧ Rel g' σ' tmps' rts w' ∧ Adv g0 w0 g' w' ∧ σ'.up.length = n ∧ LoopAt l r j g' w'
def Mot (P : Program) (E : Env) : Task → Res → Prop
  | .code c σ, .code e σ' => ∀ ro nt mc, (ro = none ∨ c.noRf = true) → okCode P E nt c mc = true → ∀ g tmps rts w ds n0, Rel g σ tmps rts w → tmps.size = nt → DsOk n0 g w ds →
      ∀ Q, (∀ a' w', NextD c.noRf n0 g w rts nt σ.up.length σ' ds a' w' → Q (exitOf e) a' w') → CodeGoal P ro mc Q ⟨tmps, ds⟩ w
  | .ops is σ, .ops σ' => Ops1 P E σ is σ'
  | .fn f as up, .fn v σ => FnSem P f as up v σ
  | .icode y j c σ, .icode j' e σ' => ∀ nt mc, c.noRf = true → okCode P E nt c mc = true → ∀ l r g0 w0 rts, LoopC P E y l r σ.up.length w0 rts → ∀ g tmps w, Rel g σ tmps rts w → tmps.size = nt → isYield l (tmps.getD 0 undef) → LoopAt l r j g w → Adv g0 w0 g w →
      ∀ Q, (∀ a' w', NextI l r j' g0 w0 rts nt σ.up.length σ' [0] a' w' → Q (exitOf e) a' w') → CodeGoal P none mc Q ⟨tmps, []⟩ w
  | .iops y j ys is σ, .iops j' σ' => ∀ nt ops js, OkL P nt ops is js → ∀ l r g0 w0 rts, LoopC P E y l r σ.up.length w0 rts → 0 ∈ ys → ∀ g tmps w, Rel g σ tmps rts w → tmps.size = nt → (∀ s ∈ ys, isYield l (tmps.getD s undef)) → LoopAt l r j g w → Adv g0 w0 g w →
      ∀ Q, (∀ a' w', NextI l r j' g0 w0 rts nt σ.up.length σ' [0] a' w' → Q .normal a' w') → wpOpsIn (Wd none) 0 P ops Q js ⟨tmps, []⟩ w
  | _, _ => True
end
end Go.Proofs.YtcgjebaomhfbdaaGreat.Vm

/- Rounds of a loop over a function. -/
namespace Go.Proofs.YtcgjebaomhfbdaaGreat.Vm
open Go
section
variable {P : Program} {E : Env} {g : Gh} {σ : St} {tmps : Array Value} {rts : Roots} {w : World}
theorem gt_shifts (k : Nat) : ∀ (cs : List V) (i : Nat), gt .u (V.shifts k cs) i = V.shift k (gt .u cs i)
  | [], i => by simp [V.shifts, gt, V.shift]
  | c :: cs, 0 => rfl
  | c :: cs, i + 1 => gt_shifts k cs i
theorem Rel.sets {ob : Lv} {up : List Lv} : ∀ (ps : List Nat) (vs : List V) (xs : List Value) {sl : List V} {tl : Array Value}, Rel g ⟨sl, ob, up⟩ tl rts w → VRs g w (⟨[], ob, up⟩ : St).O (up.length + 1) vs xs → (∀ p ∈ ps, p < tl.size) →
    Rel g ⟨setsl sl ps vs, ob, up⟩ ((ps.zip xs).foldl (fun t p => t.setIfInBounds p.1 p.2) tl) rts w ∧ ((ps.zip xs).foldl (fun t p => t.setIfInBounds p.1 p.2) tl).size = tl.size
  | [], vs, xs, sl, tl, h, _, _ => by
    simp only [setsl, List.zip_nil_left, List.foldl_nil]; exact ⟨h, trivial⟩
  | p :: ps, [], xs, sl, tl, h, hv, _ => by
    simp only [VRs] at hv
    subst hv
    simp only [setsl, List.zip_nil_right, List.foldl_nil]; exact ⟨h, trivial⟩
  | p :: ps, v :: vs, xs, sl, tl, h, hv, hp => by
    obtain ⟨x, xs, rfl, h1, h2⟩ := hv
    have h3 : Rel g ⟨st .u sl p v, ob, up⟩ (tl.setIfInBounds p x) rts w := Rel.set h (hp p (by simp)) h1
    obtain ⟨q1, q2⟩ := Rel.sets ps vs xs h3 h2 (fun q hq => by rw [Array.size_setIfInBounds]; exact hp q (by simp [hq]))
    simp only [setsl, List.zip_cons_cons, List.foldl_cons]
    exact ⟨q1, by rw [q2, Array.size_setIfInBounds]⟩
theorem VRs.shift1 {O : Obs} {D : Nat} {vs : List V} {xs : List Value} (h : VRs g w O D vs xs) : VRs g w O (D + 1) (V.shifts 1 vs) xs :=
  VRs.shift (k := 1) (D := D + 1) (by omega) vs xs h
theorem Rel.atRound (h : Rel g σ tmps rts w) {y : Yc} {r : Loop} (hr : ∀ i, i < y.sl.length → (σ.up.length, gt .u y.sl i, r.tmps.getD i undef) ∈ rts) (hps : r.params.toList = y.ps) (hlt : ∀ p ∈ y.ps, p < r.tmps.size) {vs : List V} {args : Array Value}
    (hv : VRs g w σ.O (σ.up.length + 1) vs args.toList) :
    Rel g (roundSt y σ vs) ((r.params.zip args).foldl (fun t p => t.setIfInBounds p.1 p.2) r.tmps) (slotRoots σ tmps ++ rts) w ∧ ((r.params.zip args).foldl (fun t p => t.setIfInBounds p.1 p.2) r.tmps).size = r.tmps.size := by
  have R0 := h.enter (vs := []) (args := #[]) rfl
  have hO : (⟨V.shifts 1 [], [], σ.ob :: σ.up⟩ : St).O = σ.O := St.O_enter σ _
  have R1 : Rel g ⟨V.shifts 2 y.sl, [], σ.ob :: σ.up⟩ r.tmps (slotRoots σ tmps ++ rts) w := by
    refine ⟨fun i => ?_, R0.ob, R0.rt, R0.own, R0.okb, R0.base⟩
    show VR g w (⟨V.shifts 2 y.sl, [], σ.ob :: σ.up⟩ : St).O ((σ.ob :: σ.up).length + 1) (gt .u (V.shifts 2 y.sl) i) _
    rw [St.O_enter, gt_shifts]
    by_cases hi : i < y.sl.length
    · have := (h.rt _ (hr i hi)).2
      exact VR.shift (k := 2) (by simp) _ _ (by simpa using this)
    · rw [gt_far _ _ _ (by omega)]; trivial
  have hv1 : VRs g w (⟨[], [], σ.ob :: σ.up⟩ : St).O ((σ.ob :: σ.up).length + 1) (V.shifts 1 vs) args.toList := by
    rw [St.O_enter]
    exact hv.shift1
  obtain ⟨q1, q2⟩ := Rel.sets y.ps (V.shifts 1 vs) args.toList R1 hv1 hlt
  have e : (r.params.zip args).foldl (fun t p => t.setIfInBounds p.1 p.2) r.tmps = (y.ps.zip args.toList).foldl (fun t p => t.setIfInBounds p.1 p.2) r.tmps := by
    rw [← hps, ← Array.foldl_toList, Array.toList_zip]
  rw [e]
  exact ⟨q1, q2⟩
theorem run_yieldB {o : Oper} {l : Nat} {p : Operand} {ps : Array Operand} {ts : Array TypeId} (hop : o.op = .call ⟨.value p, ps, ts⟩) (hp : isYield l (evalT tmps p)) :
    (execOp (evalT tmps) o).run P w = (Instr.yield l (ps.map (evalT tmps))).run P w := by
  unfold isYield at hp
  unfold execOp
  simp only [hop]
  simp [resolve, hp, Deferred.ofValue, invoke]
theorem LoopAt.adv {l : Nat} {r : Loop} {j : Option Ex} {g' : Gh} {w' : World} (h : LoopAt l r j g w) (A : Adv g w g' w') : LoopAt l r j g' w' := by
  obtain ⟨q1, q2⟩ := h.fgn.adv A
  exact ⟨q2.trans h.rc, q1, h.nn⟩
theorem jump_none (e : Ex) : (jump e).isNone = true ↔ e = .normal := by cases e <;> simp [jump]
theorem NextD.trans {nr1 nr2 : Bool} {n0 nt n : Nat} {σ₁ σ₂ : St} {ds ds1 : List Deferred} {a' : Act} {w1 w2 : World} {g1 : Gh} (A : Adv g w g1 w1) (hn : σ₁.up.length = n) (hds : nr1 = true → ds1 = ds) (h : NextD nr2 n0 g1 w1 rts nt σ₁.up.length σ₂ ds1 a' w2) : NextD (nr1 && nr2) n0 g w rts nt n σ₂ ds a' w2 := by
  obtain ⟨g2, tmps2, ds2, ha, hs, R, A2, hup, hD, hd⟩ := h
  refine ⟨g2, tmps2, ds2, ha, hs, R, A.trans A2, by rw [hup, hn], hD, fun h => ?_⟩
  simp only [Bool.and_eq_true] at h
  rw [hd h.2, hds h.1]
theorem NextD.weak {nr nr' : Bool} {n0 nt n : Nat} {σ' : St} {ds : List Deferred} {a' : Act} {w' : World} (hn : nr' = true → nr = true) (h : NextD nr n0 g w rts nt n σ' ds a' w') : NextD nr' n0 g w rts nt n σ' ds a' w' := by
  obtain ⟨g2, tmps2, ds2, ha, hs, R, A2, hup, hD, hd⟩ := h
  exact ⟨g2, tmps2, ds2, ha, hs, R, A2, hup, hD, fun h => hd (hn h)⟩
/-- One round, as the function that is ranged over meets it. -/
theorem round_sound {y : Yc} {σ₂ τ₁ τ₂ : St} {e : Ex} {vs : List V} {args : Array Value} {l : Nat} {r : Loop} {g0 : Gh} {w0 : World}
    (C : LoopC P E y l r σ.up.length w0 rts) (iha : Mot P E (.code y.a (roundSt y σ vs)) (.code .normal τ₁)) (ihb : Mot P E (.code y.b τ₁) (.code e τ₂)) (hle : leave false σ τ₂ = some σ₂)
    (R : Rel g σ tmps rts w) (hv : VRs g w σ.O (σ.up.length + 1) vs args.toList) (hL : LoopAt l r none g w) (A : Adv g0 w0 g w) :
    RoundIn (Wd none) 0 P l r.fn ((r.params.zip args).foldl (fun t p => t.setIfInBounds p.1 p.2) r.tmps) r.assign r.body w fun x w' =>
      x = .returned (.bool (jump e).isNone) ∧ ∃ g', Rel g' σ₂ tmps rts w' ∧ Adv g0 w0 g' w' ∧ σ₂.up.length = σ.up.length ∧ LoopAt l r (jump e) g' w' := by
  obtain ⟨R1, hs1⟩ := R.atRound C.rts C.ps C.lt hv
  have hrt : ∀ q ∈ rts, q.1 ≤ σ.up.length := fun q hq => (R.rt q hq).1
  refine roundIn_of_wpIn trivial ?_
  refine CodeGoal.wp (iha (some l) r.tmps.size r.assign (.inr C.na) C.a g _ (slotRoots σ tmps ++ rts) w [] 0 R1 hs1 (Nat.zero_le _) _ fun a1 w1 hn1 => ?_)
  obtain ⟨g1, tmps1, ds1, rfl, hz1, Ra, A1, hu1, _, hd1⟩ := hn1
  obtain rfl := hd1 C.na
  have hL1 := hL.adv A1
  have hbr := run_beginRound (P := P) hL1.rc rfl
  refine ⟨_, hbr, ?_⟩
  have F2 := hL1.fgn.put (c := l) (.loop { recAt r none with state := .busy })
  have hrec2 : (w1.putObj l (.loop { recAt r none with state := .busy })).heap[l]? = some (.loop { recAt r none with state := .busy }) := World.putObj_heap_same hL1.fgn.lt
  refine CodeGoal.wp (ihb (some l) r.tmps.size r.body (.inr C.nb) C.b g1 tmps1 (slotRoots σ tmps ++ rts) _ [] 0 (Ra.put hL1.fgn _) hz1 (Nat.zero_le _) _ fun a3 w3 hn3 => ?_)
  obtain ⟨g3, tmps3, ds3, rfl, hz3, Rb, A3, hu3, _, hd3⟩ := hn3
  obtain rfl := hd3 C.nb
  obtain ⟨F3, hh3⟩ := F2.adv A3
  have hrec3 := hh3.trans hrec2
  have A03 : Adv g0 w0 g3 w3 := ((A.trans A1).put C.new _).trans A3
  have hu : τ₂.up.length = σ.up.length + 1 := by rw [hu3, hu1]; rfl
  have fin : ∀ (j : Option Ex) (o : Obj), j ≠ some .normal → o = .loop (recAt r j) → ∃ g', Rel g' σ₂ tmps rts (w3.putObj l o) ∧ Adv g0 w0 g' (w3.putObj l o) ∧ σ₂.up.length = σ.up.length ∧ LoopAt l r j g' (w3.putObj l o) := fun j o hj ho => by
    obtain ⟨R4, K4, hl4⟩ := Rel.leave (Rb.put F3 o) hle hu hrt
    have A4 := (A03.put C.new o).low (D := σ.up.length + 1)
    have F4 : Foreign (g3.low (σ.up.length + 1)) (w3.putObj l o) l := by
      refine ⟨?_, F3.ok, F3.base, by simpa using F3.lt⟩
      cases hx : (g3.low (σ.up.length + 1)).own l with
      | none => rfl
      | some x => have := (Gh.low_some hx).1; rw [F3.own] at this; cases this
    exact ⟨_, R4, A4, hl4, ⟨by rw [ho]; exact World.putObj_heap_same F3.lt, F4, hj⟩⟩
  cases e with
  | normal =>
    refine ⟨_, _, run_endRound none hrec3, rfl, ?_⟩
    exact fin none _ (by simp) rfl
  | ret =>
    refine ⟨_, _, run_endRound (some .ret) hrec3, rfl, ?_⟩
    exact fin (some .ret) _ (by simp) rfl
  | exit id =>
    refine ⟨_, _, run_endRound (some (.exit id)) hrec3, rfl, ?_⟩
    exact fin (some (.exit id)) _ (by simp) rfl
/-- A yield among a region's operations. -/
theorem yield_wp {y : Yc} {σ₂ τ₁ τ₂ : St} {e : Ex} {d s nt : Nat} {as : List X} {rm : Option Nat} {o : Oper} {ops : Array Oper} {l : Nat} {r : Loop} {g0 : Gh} {w0 : World} {K : Act → World → Prop} {Q : Exit → Act → World → Prop}
    (C : LoopC P E y l r σ.up.length w0 rts) (iha : Mot P E (.code y.a (roundSt y σ (σ.vals as))) (.code .normal τ₁)) (ihb : Mot P E (.code y.b τ₁) (.code e τ₂)) (hle : leave false σ τ₂ = some σ₂) (hlen : as.length = y.ps.length)
    (hok : okG P nt ops ⟨.callv d (.t s) as rm, none⟩ o = true) (hnt : tmps.size = nt) (hy : isYield l (tmps.getD s undef)) (R : Rel g σ tmps rts w) (hL : LoopAt l r none g w) (A : Adv g0 w0 g w)
    (hK : ∀ g' w', Rel g' σ₂ tmps rts w' → Adv g0 w0 g' w' → σ₂.up.length = σ.up.length → LoopAt l r (jump e) g' w' → d < nt → K ⟨tmps.setIfInBounds d (.bool (jump e).isNone), []⟩ w') :
    if Region.wanted o (yielded ops tmps) then o.wpIn (Wd none) 0 P ⟨tmps, []⟩ w K Q else (∀ f, o.about P w (⟨tmps, []⟩ : Act).eval = some f → (Wd none).fn f) ∧ K ((⟨tmps, []⟩ : Act).put o.dst undef) w := by
  simp only [okG, Bool.and_eq_true, Bool.or_eq_true] at hok
  obtain ⟨hok1, hok2⟩ := hok
  have hwt := wanted_of (t := true) hok1 R rfl
  rw [hwt]
  simp only [if_true]
  rcases hok2 with hok2 | hok2
  · exact (okI_callv hok2).elim
  · unfold okCall at hok2
    split at hok2
    · rename_i hi _; cases hi
    · rename_i d' x' as' rm' p ps ts hi hop
      cases hi
      simp only [Bool.and_eq_true, decide_eq_true_eq] at hok2
      obtain ⟨⟨⟨hd, hlt⟩, hxp⟩, hxs⟩ := hok2
      have hp : isYield l (evalT tmps p) := by
        cases p with
        | tmp t =>
          have ht : s = t := by simpa [okX] using hxp
          subst ht
          exact hy
        | _ => simp [okX] at hxp
      have hv := R.vals hxs
      have hv' : VRs g w σ.O (σ.up.length + 1) (σ.vals as) (ps.map (evalT tmps)).toList := by rw [Array.toList_map]; exact hv
      have hsz : (ps.map (evalT tmps)).size = (recAt r none).params.size := by
        have h1 := VRs.length _ _ hv'
        simp only [St.vals, List.length_map, Array.length_toList] at h1
        have h2 : r.params.size = y.ps.length := by rw [← C.ps]; simp
        show _ = r.params.size
        rw [h2, ← hlen, ← h1]
      have hrun := run_yield (P := P) hL.rc hsz
      refine ⟨fun _ _ => trivial, ?_⟩
      rw [Oper.semAt_eq _ _ _ (by rw [hop]; intro c hc; cases hc), Act.eval_T, run_yieldB hop hp, hrun, Oper.uponIn_round]
      refine ⟨fun h => (by cases h), (round_sound C iha ihb hle R hv' hL A).mono fun x w' hx => ?_⟩
      obtain ⟨rfl, g', R', A', hu, hL'⟩ := hx
      show K ((⟨tmps, []⟩ : Act).put o.dst _) w'
      rw [hd]
      exact hK g' w' R' A' hu hL' hlt
    · rename_i hi; cases hi
    · cases hok2
end
end Go.Proofs.YtcgjebaomhfbdaaGreat.Vm

/- The machine's runs are Go's. -/
namespace Go.Proofs.YtcgjebaomhfbdaaGreat.Vm
open Go
section
variable {P : Program} {E : Env} {g : Gh} {σ : St} {tmps : Array Value} {rts : Roots} {w : World}
def readRv (tmps : Array Value) : ResultVar → Sem Value
  | .tmp t => pure (tmps.getD t undef)
  | .cell a t => do loadVar t (← asAddr (tmps.getD a undef))
theorem loadAt_as {t : TypeId} {y z : Value} (h : (Instr.loadAt t y).run P w = .ok z w) : (do loadVar t (← asAddr y) : Sem Value).run P w = .ok z w := by
  cases y with
  | pointer a =>
    cases a with
    | some a => simpa [Instr.loadAt, Instr.sureAddr, asAddr] using h
    | none => simp [Instr.loadAt, Instr.sureAddr, stuck] at h
  | _ => simp [Instr.loadAt, Instr.sureAddr, stuck] at h
theorem readRv_sound (R : Rel g σ tmps rts w) : ∀ (rs : List Rv) (us : List ResultVar) (vs : List V), okRv P rs us = true → resVals σ rs = some vs →
    ∃ xs, (us.mapM (readRv tmps)).run P w = .ok xs w ∧ VRs g w σ.O (σ.up.length + 1) vs xs
  | [], [], vs, _, e => by
    simp only [resVals, Option.some.injEq] at e; subst e
    exact ⟨[], by simp, rfl⟩
  | [], _ :: _, _, h, _ => by simp [okRv] at h
  | _ :: _, [], _, h, _ => by simp [okRv] at h
  | .s t :: rs, .tmp x :: us, vs, h, e => by
    simp only [okRv, Bool.and_eq_true, decide_eq_true_eq] at h
    obtain ⟨rfl, h⟩ := h
    simp only [resVals] at e
    split at e
    · rename_i v vs' e1 e2
      cases e1
      cases e
      obtain ⟨xs, hx, hv⟩ := readRv_sound R rs us vs' h e2
      refine ⟨tmps.getD t undef :: xs, ?_, ⟨_, xs, rfl, R.sl t, hv⟩⟩
      simp only [List.mapM_cons, Sem.run_bind]
      simp [readRv, hx]
    · cases e
  | .c t k :: rs, .cell x ty :: us, vs, h, e => by
    simp only [okRv, Bool.and_eq_true, decide_eq_true_eq] at h
    obtain ⟨⟨rfl, hk⟩, h⟩ := h
    simp only [resVals] at e
    split at e
    · rename_i v vs' e1 e2
      cases e
      obtain ⟨xs, hx, hv⟩ := readRv_sound R rs us vs' h e2
      obtain ⟨z, hz, hvz⟩ := R.load (of_decide_eq_true hk) (R.sl t) e1
      refine ⟨z :: xs, ?_, ⟨_, xs, rfl, hvz, hv⟩⟩
      have hz2 := loadAt_as hz
      simp only [List.mapM_cons, Sem.run_bind]
      have : (readRv tmps (.cell t ty)).run P w = .ok z w := hz2
      rw [this]
      simp [hx]
    · cases e
  | .s _ :: _, .cell _ _ :: _, _, h, _ => by simp [okRv] at h
  | .c _ _ :: _, .tmp _ :: _, _, h, _ => by simp [okRv] at h
theorem results_sound (R : Rel g σ tmps rts w) {fn : Func} {rs : List Rv} {v : V} (h : okRv P rs fn.results.toList = true) (e : resVal σ rs = some v) :
    ∃ r, (results fn tmps).run P w = .ok r w ∧ VR g w σ.O (σ.up.length + 1) v r := by
  unfold resVal at e
  obtain ⟨vs, e1, e2⟩ := map_some e
  obtain ⟨xs, hx, hv⟩ := readRv_sound R rs _ vs h e1
  have hrun : (fn.results.mapM (readRv tmps)).run P w = .ok xs.toArray w := by
    rw [Array.mapM_eq_mapM_toList]
    simp [hx]
  have hres : (results fn tmps).run P w = .ok (if h : xs.toArray.size = 1 then xs.toArray[0] else .tuple xs.toArray) w := by
    have he : results fn tmps = (do
        let vs ← fn.results.mapM (readRv tmps)
        pure (if h : vs.size = 1 then vs[0] else .tuple vs)) := by
      unfold results
      congr 1
    rw [he, Sem.run_bind, hrun]
    rfl
  refine ⟨_, hres, ?_⟩
  have hl := VRs.length _ _ hv
  subst e2
  match vs, xs, hv, hl with
  | [], [], _, _ => exact ⟨[], rfl, rfl⟩
  | [v], [x], hv, _ =>
    obtain ⟨y, ys, hy, h1, _⟩ := hv
    cases hy
    exact h1
  | v :: v2 :: vs, x :: x2 :: xs, hv, _ =>
    rw [dif_neg (by simp)]
    exact ⟨_, rfl, hv⟩
theorem Next.refl {nt : Nat} {ds : List Deferred} (h : Rel g σ tmps rts w) (hnt : tmps.size = nt) : Next g w rts nt σ.up.length σ ds ⟨tmps, ds⟩ w := ⟨g, tmps, rfl, hnt, h, Adv.refl g w, rfl⟩
theorem callsIn_Wd2 {f : Nat} {args : Array Value} {R : Ending → World → Prop} (h : CallsIn (Wd none) 0 P f args w R) : Calls P f args w R := (callsIn_wide (n := 0)).1 h
theorem leavesM_sound {fn : Func} {rs : List Rv} {v : V} {g0 : Gh} {w0 : World} {up : List Lv} (hres : okRv P rs fn.results.toList = true) (hv : resVal σ rs = some v) (hup : σ.up.length = up.length) :
    ∀ ds {w : World}, Rel g σ tmps rts w → Adv g0 w0 g w → DsOk w0.heap.size g w ds → LeavesInM (Wd none) 0 P fn tmps (fun e w' => ∃ r, e = .returned r ∧ Left g0 rts w0 up v σ r w') ds .returning w
  | [], w, R, A, _ => by
    obtain ⟨r, hr, hvr⟩ := results_sound R hres hv
    exact ⟨r, hr, r, rfl, g, tmps, R, hvr, A, hup⟩
  | d :: ds, w, R, A, ⟨⟨r, h1, h2, h3, h4, h5⟩, h6⟩ => by
    refine ⟨by simp, .inl ⟨r, _, h1, run_takeDeferred h2, ?_⟩⟩
    exact leavesM_sound hres hv hup ds (R.put h3 _) (A.put h4 _) (DsOk.put _ h5 h6)
theorem NextI.refl {nt l : Nat} {r : Loop} {j : Option Ex} {g0 : Gh} {w0 : World} (R : Rel g σ tmps rts w) (hnt : tmps.size = nt) (hy : isYield l (tmps.getD 0 undef)) (hL : LoopAt l r j g w) (A : Adv g0 w0 g w) : NextI l r j g0 w0 rts nt σ.up.length σ [0] ⟨tmps, []⟩ w :=
  ⟨g, tmps, rfl, hnt, fun s hs => by simp only [List.mem_singleton] at hs; subst hs; exact hy, R, A, rfl, hL⟩
theorem NextI.up {nt l n n' : Nat} {r : Loop} {j : Option Ex} {g0 : Gh} {w0 : World} {σ' : St} {ys : List Nat} {a' : Act} {w' : World} (hn : n = n') (h : NextI l r j g0 w0 rts nt n σ' ys a' w') : NextI l r j g0 w0 rts nt n' σ' ys a' w' := hn ▸ h
theorem LoopC.up {y : Yc} {l : Nat} {r : Loop} {D D' : Nat} {w0 : World} (hn : D' = D) (h : LoopC P E y l r D w0 rts) : LoopC P E y l r D' w0 rts := hn ▸ h
theorem dropY_zero {ys : List Nat} {i : G} (hd : keep0 i = true) (h : 0 ∈ ys) : 0 ∈ dropY ys i := by
  unfold keep0 at hd
  unfold dropY
  split
  · rename_i d hdst
    rw [hdst] at hd
    simp only [List.mem_filter]
    refine ⟨h, ?_⟩
    have h1 : d.beq 0 = false := by simpa using hd
    have h2 : d ≠ 0 := fun e => by subst e; cases h1
    have h3 : Nat.beq 0 d = false := by
      cases d with
      | zero => exact absurd rfl h2
      | succ d => rfl
    rw [h3]; rfl
  · exact h
theorem dropY_mem {ys : List Nat} {i : G} {s : Nat} (h : s ∈ dropY ys i) : s ∈ ys ∧ i.i.dst ≠ some s := by
  unfold dropY at h
  split at h
  · rename_i d hdst
    simp only [List.mem_filter] at h
    refine ⟨h.1, fun e => ?_⟩
    rw [hdst] at e
    cases e
    have := h.2
    simp at this
  · rename_i hdst
    exact ⟨h, by rw [hdst]; simp⟩
theorem run_resolve {a : Act} {p : Operand} {l f : Nat} {caps : Array Value} (hp : a.eval p = .func (.func f) #[] caps) (he : enters P f = true) :
    ∃ d, (resolve a.eval (rangeCall p l) 0).run P w = .ok d w ∧ (invoke d.target d.args).run P w = .ok (.enter f (#[.func (.yield l) #[] #[]] ++ caps)) w := by
  have hcall : ∀ args, (callFunc f args).run P w = .ok (.enter f args) w := fun args => by
    unfold enters at he
    split at he
    · rename_i fn hf
      simp only [Bool.and_eq_true, bne_iff_ne, ne_eq] at he
      unfold callFunc
      have h2 : fn.body ≠ none := fun hb => by rw [hb] at he; cases he.2
      simp [hf, he.1, h2]
    · cases he
  refine ⟨_, by simp [resolve, rangeCall, hp, Deferred.ofValue]; rfl, ?_⟩
  simp only [invoke]
  have e : (#[a.eval (.const (.func (.yield l) #[] #[]))] : Array Value) = #[.func (.yield l) #[] #[]] := rfl
  first | exact hcall _ | (simp [invoke]; exact hcall _)
theorem rfun_sound (hE : EnvOk P E) (hF : FnsOk P E) {x : X} {ps : List Nat} {a b : C} {σ τ σ' : St} {f : Nat} {caps : List V} {F : Fn} {j : Option Ex} {e : Ex} (hx : σ.val x = .cl f caps) (hb : Nat.ble bndF f = false) (hf : E.fn f = some F) (hn : (a.noRf && b.noRf && F.code.noRf) = true)
    (ih : Mot P E (.icode ⟨ps, a, b, σ.sl⟩ none F.code ⟨V.shifts 1 (.u :: caps), [], σ.ob :: σ.up⟩) (.icode j e τ)) (he : e = .normal ∨ e = .ret) (hr : F.res = []) (hl : leave false σ τ = some σ') : Mot P E (.code (.rfun x ps a b) σ) (.code (ofJump j) σ') := by
  intro ro nt mc hro hok g tmps rts w ds n0 R hnt hD Q hQ
  have hro0 : ro = none := hro.resolve_right (fun h => by cases h)
  subst hro0
  simp only [Bool.and_eq_true] at hn
  obtain ⟨⟨hna, hnb⟩, hnF⟩ := hn
  cases mc with
  | rangeFunc p qs ca cb =>
    simp only [okCode, Bool.and_eq_true, decide_eq_true_eq] at hok
    obtain ⟨⟨⟨⟨hxp, hqs⟩, hlt⟩, hoa⟩, hob⟩ := hok
    have hxv := R.val hxp
    rw [hx] at hxv
    obtain ⟨cs, hpv, hcs⟩ := hxv
    obtain ⟨fn, c, hfn, hbody, hres, hokF⟩ := hF.fn f F hf
    have hen := hE.fn f F hf
    have hnilF : Nat.ble nilF f = false := by
      rw [Bool.eq_false_iff]
      intro h
      have h1 := Nat.le_of_ble_eq_true h
      rw [Bool.eq_false_iff] at hb
      exact hb (Nat.ble_eq_true_of_le (by unfold nilF at h1; unfold bndF; omega))
    have hpv' : (⟨tmps, ds⟩ : Act).eval p = .func (.func f) #[] cs.toArray := by
      rw [Act.eval_T]
      show evalT tmps p = _
      rw [hpv]
      unfold clV
      rw [hnilF, hb]
    show (Code.rangeFunc p qs ca cb).wpIn (Wd none) 0 P Q ⟨tmps, ds⟩ w
    refine wpIn_rangeFunc fun fn0 _ => ?_
    have henter := run_enterLoop_outer (P := P) (w := w) fn0 tmps qs ca cb
    let r : Loop := { state := .ready, pending := none, fn := fn0, tmps := tmps, params := qs, assign := ca, body := cb, defers := w.heap.size }
    let wD := w.alloc (.deferred (some []))
    have hwl : wD.heap.size = w.heap.size + 1 := by simp [wD]
    obtain ⟨d, hres1, hinv⟩ := run_resolve (w := wD.alloc (.loop r)) (l := w.heap.size + 1) (p := p) hpv' hen
    refine ⟨w.heap.size + 1, _, _, d, _, f, _, _, henter, hres1, fun _ _ => trivial, hinv, fun h => (by cases h), ?_⟩
    -- the function's call
    have AD : Adv g w g wD := Adv.allocO _
    have RD : Rel g σ tmps rts wD := R.allocO _
    have R1 : Rel g σ tmps rts (wD.alloc (.loop r)) := RD.allocO _
    have Fl : Foreign g (wD.alloc (.loop r)) (w.heap.size + 1) := by rw [← hwl]; exact Foreign.allocO RD _
    have hL : LoopAt (w.heap.size + 1) r none g (wD.alloc (.loop r)) := ⟨by rw [← hwl]; exact World.alloc_heap_new wD _, Fl, by simp⟩
    have FD : Foreign g wD w.heap.size := Foreign.allocO R _
    have hDD : wD.heap[w.heap.size]? = some (.deferred (some [])) := World.alloc_heap_new w _
    have hrt : ∀ q ∈ rts, q.1 ≤ σ.up.length := fun q hq => (R.rt q hq).1
    have hcs1 : VRs g (wD.alloc (.loop r)) σ.O (σ.up.length + 1) (.u :: caps) (#[Value.func (.yield (w.heap.size + 1)) #[] #[]] ++ cs.toArray).toList := by
      have hh := R1.val hxp
      rw [hx] at hh
      obtain ⟨cs', hpv2, hcs2⟩ := hh
      have : cs' = cs := by
        have h1 := hpv.symm.trans hpv2
        unfold clV at h1
        rw [hnilF, hb] at h1
        simpa using h1.symm
      subst this
      exact ⟨.func (.yield (w.heap.size + 1)) #[] #[], cs', by simp, trivial, hcs2⟩
    have Re := R1.enter hcs1
    have LC : LoopC P E ⟨ps, a, b, σ.sl⟩ (w.heap.size + 1) r (⟨V.shifts 1 (.u :: caps), [], σ.ob :: σ.up⟩ : St).up.length wD (slotRoots σ tmps ++ rts) := by
      refine ⟨hqs, fun q hq => ?_, by rw [show r.tmps.size = nt from hnt]; exact hoa, by rw [show r.tmps.size = nt from hnt]; exact hob, hna, hnb, fun i hi => List.mem_append_left _ (List.mem_map.2 ⟨i, List.mem_range.2 hi, rfl⟩), by rw [hwl]; exact Nat.le_refl _⟩
      have := List.all_eq_true.1 hlt q hq
      rw [show r.tmps.size = nt from hnt]
      exact of_decide_eq_true this
    generalize hargs : (#[Value.func (.yield (w.heap.size + 1)) #[] #[]] ++ cs.toArray) = args at Re
    have hsz1 : 1 ≤ args.size := by rw [← hargs]; simp
    have hget0 : args.getD 0 undef = .func (.yield (w.heap.size + 1)) #[] #[] := by rw [← hargs]; simp
    refine callsIn_of_wp hfn hbody trivial (CodeGoal.wp (ih (args ++ Array.replicate (fn.ntmps - args.size) undef).size c hnF (hokF _ (by simp; omega)) _ r g wD _ LC g _ _ ?_ rfl ?_ hL (Adv.allocO _) _ fun a' w' hn => ?_))
    · refine ⟨fun i => ?_, Re.ob, Re.rt, Re.own, Re.okb, Re.base⟩
      have := Re.sl i
      by_cases hi : i < args.size
      · have e1 : (args ++ Array.replicate (fn.ntmps - args.size) undef).getD i undef = args.getD i undef := by
          simp [Array.getD_eq_getD_getElem?, Array.getElem?_append, hi]
        rw [e1]; exact this
      · have hlen : (V.shifts 1 (.u :: caps)).length = args.size := by rw [V.shifts_length, VRs.length _ _ hcs1, ← hargs, Array.length_toList]
        have : (⟨V.shifts 1 (.u :: caps), [], σ.ob :: σ.up⟩ : St).get i = .u := gt_far _ _ _ (by rw [hlen]; omega)
        rw [this]; trivial
    · show (args ++ Array.replicate (fn.ntmps - args.size) undef).getD 0 undef = _
      have e1 : (args ++ Array.replicate (fn.ntmps - args.size) undef).getD 0 undef = args.getD 0 undef := by
        simp [Array.getD_eq_getD_getElem?, Array.getElem?_append, show 0 < args.size by omega]
      rw [e1, hget0]
    · obtain ⟨g', tmps', rfl, hs, _, R', A', hu, hL'⟩ := hn
      obtain ⟨v, hrv, _⟩ := results_sound R' hres (v := .tp []) (by rw [hr]; rfl)
      have hup' : τ.up.length = σ.up.length + 1 := hu
      have post : ([] : List Deferred) = [] ∧ ∃ v, (results fn tmps').run P w' = .ok v w' ∧ rangePost (Wd none) 0 P (w.heap.size + 1) Q ⟨tmps, [{ target := .collected w.heap.size, args := #[] }] ++ ds⟩ (.returned v) w' := by
        refine ⟨rfl, v, hrv, (recAt r j).pending, _, run_endLoop hL'.rc (by unfold recAt; cases j <;> simp [stOf]), ?_⟩
        obtain ⟨R4, K4, hl4⟩ := Rel.leave (R'.put hL'.fgn (.loop { recAt r j with state := .exhausted })) hl hup' hrt
        have A4 := (A'.put (b := w.heap.size + 1) (by rw [hwl]; exact Nat.le_refl _) (.loop { recAt r j with state := .exhausted })).low (D := σ.up.length + 1)
        have A5 := AD.trans A4
        have hDs : DsOk n0 (g'.low (σ.up.length + 1)) (w'.putObj (w.heap.size + 1) (.loop { recAt r j with state := .exhausted })) ([{ target := .collected w.heap.size, args := #[] }] ++ ds) := by
          obtain ⟨q1, q2⟩ := FD.adv A4
          refine ⟨⟨w.heap.size, rfl, q2.trans hDD, q1, hD.le, fun d' hd' he => ?_⟩, hD.adv A5⟩
          have := hD.lt ⟨d', hd', he⟩
          omega
        have hN : NextD false n0 g w rts nt σ.up.length σ' ds ⟨tmps, [{ target := .collected w.heap.size, args := #[] }] ++ ds⟩ (w'.putObj (w.heap.size + 1) (.loop { recAt r j with state := .exhausted })) :=
          ⟨_, tmps, _, rfl, hnt, R4, A5, hl4, hDs, fun h => by cases h⟩
        have hq := hQ _ _ hN
        cases j with
        | none => exact hq
        | some e' =>
          cases e' with
          | normal => exact absurd rfl hL'.nn
          | exit id => exact wpIn_exit hq
          | ret => exact wpIn_ret hq
      rcases he with rfl | rfl
      · exact post
      · exact post
  | _ => simp [okCode] at hok
theorem ev_sound (hE : EnvOk P E) (hX : ExtOk E) (hF : FnsOk P E) (hm : P.follows .mixedOrders = true) {t : Task} {r : Res} (h : Ev E t r) : Mot P E t r := by
  induction h with
  | skip =>
    intro ro nt mc hro hok g tmps rts w ds n0 R hnt hD Q hQ
    cases mc <;> simp [okCode] at hok
    · exact wpIn_skip (hQ _ _ ((Next.refl R hnt).toD hD))
    · exact wpIn_label (hQ _ _ ((Next.refl R hnt).toD hD))
  | @rg id dr fs is os σ σ₁ σ' hp _ _ ih iho =>
    intro ro nt mc hro hok g tmps rts w ds n0 R hnt hD Q hQ
    cases mc <;> simp [okCode] at hok
    obtain ⟨rfl, hok⟩ := hok
    obtain ⟨g1, R1, A1, hup⟩ := pre_sound fs R hp
    exact region_wp hE hX hm hok ih iho R1 hnt (fun a' w' hn => hQ a' w' (Next.toD hD (hn.trans A1 hup)))
  | @seq a b σ σ₁ r ha hb iha ihb =>
    cases r with
    | code e σ' =>
      intro ro nt mc hro hok g tmps rts w ds n0 R hnt hD Q hQ
      cases mc with
      | seq x y =>
        simp [okCode] at hok
        have hro1 : (ro = none ∨ a.noRf = true) ∧ (ro = none ∨ b.noRf = true) := by
          rcases hro with h | h
          · exact ⟨.inl h, .inl h⟩
          · simp only [C.noRf, Bool.and_eq_true] at h; exact ⟨.inr h.1, .inr h.2⟩
        refine wpIn_seq (CodeGoal.wp (iha ro nt x hro1.1 hok.1 g tmps rts w ds n0 R hnt hD _ fun a' w' hn => ?_))
        obtain ⟨g1, tmps1, ds1, rfl, hs1, R1, A1, hup1, hD1, hds1⟩ := hn
        exact CodeGoal.wp (ihb ro nt y hro1.2 hok.2 g1 tmps1 rts w' ds1 n0 R1 hs1 hD1 Q fun a2 w2 hn2 => hQ _ _ (NextD.trans A1 hup1 hds1 hn2))
      | scope x =>
        cases a with
        | skip =>
          simp only [okCode] at hok
          cases ha
          exact wpIn_scope (CodeGoal.wp (ihb ro nt x (by simpa [C.noRf] using hro) hok g tmps rts w ds n0 R hnt hD (Exit.noGoto Q) fun a' w' hn => by
            have hn2 : NextD (C.seq .skip b).noRf n0 g w rts nt σ.up.length σ' ds a' w' := hn.weak (fun h => by simpa [C.noRf] using h)
            cases e <;> exact hQ _ _ hn2))
        | _ => simp [okCode] at hok
      | _ => simp [okCode] at hok
    | _ => trivial
  | @seqX a b σ σ₁ e he ha iha =>
    intro ro nt mc hro hok g tmps rts w ds n0 R hnt hD Q hQ
    cases mc with
    | seq x y =>
      simp [okCode] at hok
      have hro1 : ro = none ∨ a.noRf = true := hro.imp id (fun h => by simp only [C.noRf, Bool.and_eq_true] at h; exact h.1)
      refine wpIn_seq (CodeGoal.wp (iha ro nt x hro1 hok.1 g tmps rts w ds n0 R hnt hD _ fun a' w' hn => ?_))
      have hn2 : NextD (C.seq a b).noRf n0 g w rts nt σ.up.length σ₁ ds a' w' := hn.weak (fun h => by simp only [C.noRf, Bool.and_eq_true] at h; exact h.1)
      cases e with
      | normal => exact absurd rfl he
      | exit id => exact hQ _ _ hn2
      | ret => exact hQ _ _ hn2
    | scope x =>
      cases a with
      | skip => cases ha; exact absurd rfl he
      | _ => simp [okCode] at hok
    | _ => simp [okCode] at hok
  | @cond x a b σ p t r hx _ ih =>
    cases r with
    | code e σ' =>
      intro ro nt mc hro hok g tmps rts w ds n0 R hnt hD Q hQ
      cases mc <;> simp [okCode] at hok
      rename_i q c d
      have hv := R.val hok.1.1
      rw [hx] at hv
      refine wpIn_cond (t := t) (by rw [Act.eval_T]; exact hv.bool) ?_
      cases t with
      | true => exact CodeGoal.wp (ih ro nt c (hro.imp id (fun h => by simp only [C.noRf, Bool.and_eq_true] at h; exact h.1)) hok.1.2 g tmps rts w ds n0 R hnt hD Q fun a' w' hn => hQ _ _ (hn.weak (fun h => by simp only [C.noRf, Bool.and_eq_true] at h; exact h.1)))
      | false => exact CodeGoal.wp (ih ro nt d (hro.imp id (fun h => by simp only [C.noRf, Bool.and_eq_true] at h; exact h.2)) hok.2 g tmps rts w ds n0 R hnt hD Q fun a' w' hn => hQ _ _ (hn.weak (fun h => by simp only [C.noRf, Bool.and_eq_true] at h; exact h.2)))
    | _ => trivial
  | @block id c σ σ₁ _ ih =>
    intro ro nt mc hro hok g tmps rts w ds n0 R hnt hD Q hQ
    cases mc <;> simp [okCode] at hok
    obtain ⟨rfl, hok⟩ := hok
    exact wpIn_block (CodeGoal.wp (ih ro nt _ hro hok g tmps rts w ds n0 R hnt hD _ fun a' w' hn => hQ _ _ hn))
  | @blockX id c σ σ₁ _ ih =>
    intro ro nt mc hro hok g tmps rts w ds n0 R hnt hD Q hQ
    cases mc <;> simp [okCode] at hok
    obtain ⟨rfl, hok⟩ := hok
    refine wpIn_block (CodeGoal.wp (ih ro nt _ hro hok g tmps rts w ds n0 R hnt hD _ fun a' w' hn => ?_))
    simp only [exitOf, Exit.inBlock, if_true]
    exact hQ _ _ hn
  | @blockY id c σ σ₁ e hn1 he _ ih =>
    intro ro nt mc hro hok g tmps rts w ds n0 R hnt hD Q hQ
    cases mc <;> simp [okCode] at hok
    obtain ⟨rfl, hok⟩ := hok
    refine wpIn_block (CodeGoal.wp (ih ro nt _ hro hok g tmps rts w ds n0 R hnt hD _ fun a' w' hn => ?_))
    cases e with
    | normal => exact absurd rfl hn1
    | exit id' =>
      have : id' ≠ id := fun h => he (by rw [h])
      simp only [exitOf, Exit.inBlock, if_neg this]
      exact hQ _ _ hn
    | ret => exact hQ _ _ hn
  | @loop c σ σ₁ r _ _ ih1 ih2 =>
    cases r with
    | code e σ' =>
      intro ro nt mc hro hok g tmps rts w ds n0 R hnt hD Q hQ
      cases mc with
      | loop b =>
        simp only [okCode] at hok
        refine LoopWp.round (CodeGoal.wp (ih1 ro nt b hro hok g tmps rts w ds n0 R hnt hD _ fun a' w' hn => ?_))
        obtain ⟨g1, tmps1, ds1, rfl, hs1, R1, A1, hup1, hD1, hds1⟩ := hn
        exact ih2 ro nt (.loop b) hro (by simp only [okCode]; exact hok) g1 tmps1 rts w' ds1 n0 R1 hs1 hD1 Q fun a2 w2 hn2 => hQ _ _ ((NextD.trans A1 hup1 hds1 hn2).weak (fun h => by simp only [C.noRf, Bool.and_self] at h ⊢; exact h))
      | _ => simp [okCode] at hok
    | _ => trivial
  | @loopX c σ σ₁ e he _ ih =>
    intro ro nt mc hro hok g tmps rts w ds n0 R hnt hD Q hQ
    cases mc with
    | loop b =>
      simp only [okCode] at hok
      refine LoopWp.round (CodeGoal.wp (ih ro nt b hro hok g tmps rts w ds n0 R hnt hD _ fun a' w' hn => ?_))
      cases e with
      | normal => exact absurd rfl he
      | exit id => exact hQ _ _ hn
      | ret => exact hQ _ _ hn
    | _ => simp [okCode] at hok
  | exit =>
    intro ro nt mc hro hok g tmps rts w ds n0 R hnt hD Q hQ
    cases mc <;> simp [okCode] at hok
    subst hok
    exact wpIn_exit (hQ _ _ ((Next.refl R hnt).toD hD))
  | ret =>
    intro ro nt mc hro hok g tmps rts w ds n0 R hnt hD Q hQ
    cases mc <;> simp [okCode] at hok
    exact wpIn_ret (hQ _ _ ((Next.refl R hnt).toD hD))
  | nil => exact Ops1.nil
  | @step i g is σ σ₁ r hg hs _ ih => cases r with
    | ops σ' => exact Ops1.cons (.step hg hs) ih
    | _ => trivial
  | @skipped i g is σ r hg _ ih => cases r with
    | ops σ' => exact Ops1.cons (.skip hg) ih
    | _ => trivial
  | @call d f as rm g is σ F v σc w σ₁ r hg hf hmm _ hb _ ihf ih => cases r with
    | ops σ' => exact Ops1.cons (.call hg hf hmm ihf hb) ih
    | _ => trivial
  | @callv d x f caps as rm g is σ F v σc w σ₁ r hg hx hf hmm _ hb _ ihf ih => cases r with
    | ops σ' => exact Ops1.cons (.callv hg hx hf hmm ihf hb) ih
    | _ => trivial
  | @pcall d f as rm g is σ F ms ws ns v σc w σ₁ r hg hf hmm hh _ hb _ ihf ih => cases r with
    | ops σ' => exact Ops1.cons (.pcall hg hf hmm hh ihf hb) ih
    | _ => trivial
  | @ext d f as rm g is σ X w σ₁ r hg hf hx h _ ih => cases r with
    | ops σ' => exact Ops1.cons (.ext hg hf hx h) ih
    | _ => trivial
  | @fn f as up F e σ v hf _ he hv ih =>
    intro g rts w args hlen R
    obtain ⟨fn, c, hfn, hbody, hres, hok⟩ := hF.fn f F hf
    refine callsIn_Wd2 (callsIn_of_wp_marks hfn hbody trivial (CodeGoal.wp (ih none _ c (.inl rfl) (hok (args ++ Array.replicate (fn.ntmps - args.size) undef).size (by simp; omega)) g _ rts w [] w.heap.size ?_ rfl (Nat.le_refl _) _ fun a' w' hn => ?_)))
    · refine ⟨fun i => ?_, R.ob, R.rt, R.own, R.okb, R.base⟩
      have := R.sl i
      by_cases hi : i < args.size
      · have e1 : (args ++ Array.replicate (fn.ntmps - args.size) undef).getD i undef = args.getD i undef := by
          simp [Array.getD_eq_getD_getElem?, Array.getElem?_append, hi]
        rw [e1]; exact this
      · have : (⟨as, [], up⟩ : St).get i = .u := gt_far _ _ _ (by simp; omega)
        rw [this]; trivial
    · obtain ⟨g', tmps', ds', rfl, hs, R', Ad, hup, hD, _⟩ := hn
      have post := leavesM_sound (fn := fn) hres hv hup ds' R' Ad hD
      rcases he with rfl | rfl
      · exact post
      · exact post
  | rfun hx hb hf hmm hn _ he hr hl ih => exact rfun_sound hE hF hx hb hf hn ih he hr hl
  | iskip =>
    intro nt mc hno hok l r g0 w0 rts LC g tmps w R hnt hy hL A Q hQ
    cases mc <;> simp [okCode] at hok
    · exact wpIn_skip (hQ _ _ (NextI.refl R hnt hy hL A))
    · exact wpIn_label (hQ _ _ (NextI.refl R hnt hy hL A))
  | iexit =>
    intro nt mc hno hok l r g0 w0 rts LC g tmps w R hnt hy hL A Q hQ
    cases mc <;> simp [okCode] at hok
    subst hok
    exact wpIn_exit (hQ _ _ (NextI.refl R hnt hy hL A))
  | iret =>
    intro nt mc hno hok l r g0 w0 rts LC g tmps w R hnt hy hL A Q hQ
    cases mc <;> simp [okCode] at hok
    exact wpIn_ret (hQ _ _ (NextI.refl R hnt hy hL A))
  | @iseq y j a b σ j₁ σ₁ r ha hb iha ihb =>
    cases r with
    | icode j₂ e σ' =>
      intro nt mc hno hok l r g0 w0 rts LC g tmps w R hnt hy hL A Q hQ
      simp only [C.noRf, Bool.and_eq_true] at hno
      cases mc with
      | seq x z =>
        simp [okCode] at hok
        refine wpIn_seq (CodeGoal.wp (iha nt x hno.1 hok.1 l r g0 w0 rts LC g tmps w R hnt hy hL A _ fun a' w' hn => ?_))
        obtain ⟨g1, tmps1, rfl, hs1, hy1, R1, A1, hup1, hL1⟩ := hn
        exact CodeGoal.wp (ihb nt z hno.2 hok.2 l r g0 w0 rts (LC.up hup1) g1 tmps1 w' R1 hs1 (hy1 0 (by simp)) hL1 A1 Q fun a2 w2 hn2 => hQ _ _ (hn2.up hup1))
      | scope x =>
        cases a with
        | skip =>
          simp only [okCode] at hok
          cases ha
          exact wpIn_scope (CodeGoal.wp (ihb nt x hno.2 hok l r g0 w0 rts LC g tmps w R hnt hy hL A (Exit.noGoto Q) fun a' w' hn => by cases e <;> exact hQ _ _ hn))
        | _ => simp [okCode] at hok
      | _ => simp [okCode] at hok
    | _ => trivial
  | @iseqX y j a b σ j₁ σ₁ e he ha iha =>
    intro nt mc hno hok l r g0 w0 rts LC g tmps w R hnt hy hL A Q hQ
    simp only [C.noRf, Bool.and_eq_true] at hno
    cases mc with
    | seq x z =>
      simp [okCode] at hok
      refine wpIn_seq (CodeGoal.wp (iha nt x hno.1 hok.1 l r g0 w0 rts LC g tmps w R hnt hy hL A _ fun a' w' hn => ?_))
      cases e with
      | normal => exact absurd rfl he
      | exit id => exact hQ _ _ hn
      | ret => exact hQ _ _ hn
    | scope x =>
      cases a with
      | skip => cases ha; exact absurd rfl he
      | _ => simp [okCode] at hok
    | _ => simp [okCode] at hok
  | @icond y j x a b σ p t r hx _ ih =>
    cases r with
    | icode j₂ e σ' =>
      intro nt mc hno hok l r g0 w0 rts LC g tmps w R hnt hy hL A Q hQ
      simp only [C.noRf, Bool.and_eq_true] at hno
      cases mc <;> simp [okCode] at hok
      rename_i q c d
      have hv := R.val hok.1.1
      rw [hx] at hv
      refine wpIn_cond (t := t) (by rw [Act.eval_T]; exact hv.bool) ?_
      cases t with
      | true => exact CodeGoal.wp (ih nt c hno.1 hok.1.2 l r g0 w0 rts LC g tmps w R hnt hy hL A Q hQ)
      | false => exact CodeGoal.wp (ih nt d hno.2 hok.2 l r g0 w0 rts LC g tmps w R hnt hy hL A Q hQ)
    | _ => trivial
  | @iblock y j id c σ j₁ σ₁ _ ih =>
    intro nt mc hno hok l r g0 w0 rts LC g tmps w R hnt hy hL A Q hQ
    cases mc <;> simp [okCode] at hok
    obtain ⟨rfl, hok⟩ := hok
    exact wpIn_block (CodeGoal.wp (ih nt _ hno hok l r g0 w0 rts LC g tmps w R hnt hy hL A _ fun a' w' hn => hQ _ _ hn))
  | @iblockX y j id c σ j₁ σ₁ _ ih =>
    intro nt mc hno hok l r g0 w0 rts LC g tmps w R hnt hy hL A Q hQ
    cases mc <;> simp [okCode] at hok
    obtain ⟨rfl, hok⟩ := hok
    refine wpIn_block (CodeGoal.wp (ih nt _ hno hok l r g0 w0 rts LC g tmps w R hnt hy hL A _ fun a' w' hn => ?_))
    simp only [exitOf, Exit.inBlock, if_true]
    exact hQ _ _ hn
  | @iblockY y j id c σ j₁ σ₁ e hn1 he _ ih =>
    intro nt mc hno hok l r g0 w0 rts LC g tmps w R hnt hy hL A Q hQ
    cases mc <;> simp [okCode] at hok
    obtain ⟨rfl, hok⟩ := hok
    refine wpIn_block (CodeGoal.wp (ih nt _ hno hok l r g0 w0 rts LC g tmps w R hnt hy hL A _ fun a' w' hn => ?_))
    cases e with
    | normal => exact absurd rfl hn1
    | exit id' =>
      have : id' ≠ id := fun h => he (by rw [h])
      simp only [exitOf, Exit.inBlock, if_neg this]
      exact hQ _ _ hn
    | ret => exact hQ _ _ hn
  | @iloop y j c σ j₁ σ₁ r _ _ ih1 ih2 =>
    cases r with
    | icode j₂ e σ' =>
      intro nt mc hno hok l r g0 w0 rts LC g tmps w R hnt hy hL A Q hQ
      cases mc with
      | loop b =>
        simp only [okCode] at hok
        refine LoopWp.round (CodeGoal.wp (ih1 nt b hno hok l r g0 w0 rts LC g tmps w R hnt hy hL A _ fun a' w' hn => ?_))
        obtain ⟨g1, tmps1, rfl, hs1, hy1, R1, A1, hup1, hL1⟩ := hn
        exact ih2 nt (.loop b) hno (by simp only [okCode]; exact hok) l r g0 w0 rts (LC.up hup1) g1 tmps1 w' R1 hs1 (hy1 0 (by simp)) hL1 A1 Q fun a2 w2 hn2 => hQ _ _ (hn2.up hup1)
      | _ => simp [okCode] at hok
    | _ => trivial
  | @iloopX y j c σ j₁ σ₁ e he _ ih =>
    intro nt mc hno hok l r g0 w0 rts LC g tmps w R hnt hy hL A Q hQ
    cases mc with
    | loop b =>
      simp only [okCode] at hok
      refine LoopWp.round (CodeGoal.wp (ih nt b hno hok l r g0 w0 rts LC g tmps w R hnt hy hL A _ fun a' w' hn => ?_))
      cases e with
      | normal => exact absurd rfl he
      | exit id => exact hQ _ _ hn
      | ret => exact hQ _ _ hn
    | _ => simp [okCode] at hok
  | @irg y j id fs is σ σ₁ j₁ σ' hp hz _ ih =>
    intro nt mc hno hok l r g0 w0 rts LC g tmps w R hnt hy hL A Q hQ
    cases mc <;> simp [okCode] at hok
    obtain ⟨rfl, hok⟩ := hok
    obtain ⟨g1, R1, A1, hup⟩ := pre_sound fs R hp
    obtain ⟨hlen, hall, _⟩ := okRg.facts hok
    have hL' := OkL.of hall (List.range _) (fun j hj => List.mem_range.1 hj)
    rw [itG_map hlen] at hL'
    exact wpIn_region (ih nt _ _ hL' l r g0 w0 rts (LC.up hup) (by simp) g1 tmps w R1 hnt (fun s hs => by simp only [List.mem_singleton] at hs; subst hs; exact hy) (hL.adv A1) (A.trans A1) Q fun a2 w2 hn2 => hQ _ _ (hn2.up hup))
  | inil =>
    intro nt ops js hO l r g0 w0 rts LC h0 g tmps w R hnt hy hL A Q hQ
    cases hO
    exact hQ _ _ ⟨g, tmps, rfl, hnt, fun s hs => by simp only [List.mem_singleton] at hs; subst hs; exact hy 0 h0, R, A, rfl, hL⟩
  | @iop y j ys i is σ σ₁ r hyi hd0 _ _ ihs ih =>
    cases r with
    | iops j₂ σ' =>
      intro nt ops js hO l r g0 w0 rts LC h0 g tmps w R hnt hy hL A Q hQ
      cases hO with
      | @cons _ _ jx js o hj ho hO =>
        have h1 : Op1 P E σ i σ₁ := by
          have h1 : Ops1 P E σ [i] σ₁ := ihs
          cases h1 with
          | cons h1 hr => cases hr; exact h1
        unfold wpOpsIn
        simp only [hj]
        refine opwp_in (op1_defer ho h1) (op_wpT (K := wpOpsIn (Wd none) 0 P ops Q js) hE ho R hnt h1 (fun a' w' hn hkeep => ?_))
        obtain ⟨g1, tmps1, rfl, hs1, R1, A1, hup1⟩ := hn
        refine ih nt ops js hO l r g0 w0 rts (LC.up hup1) ?_ g1 tmps1 w' R1 hs1 ?_ (hL.adv A1) (A.trans A1) Q fun a2 w2 hn2 => hQ _ _ (hn2.up hup1)
        · exact dropY_zero hd0 h0
        · intro s hs
          obtain ⟨q1, q2⟩ := dropY_mem hs
          rw [hkeep s q2]
          exact hy s q1
    | _ => trivial
  | @imv y j ys d s is σ r hyi hd0 _ ih =>
    cases r with
    | iops j₂ σ' =>
      intro nt ops js hO l r g0 w0 rts LC h0 g tmps w R hnt hy hL A Q hQ
      cases hO with
      | @cons _ _ jx js o hj ho hO =>
        have hmem : s ∈ ys := by simpa using hyi
        have h1 : Op1 P E (σ.set s .u) ⟨.mv d (.t s), none⟩ ((σ.set s .u).set d .u) := .step rfl (by simp [Vm.step, St.val, St.get_set])
        unfold wpOpsIn
        simp only [hj]
        refine opwp_in (op1_defer ho h1) (move_wpT (K := wpOpsIn (Wd none) 0 P ops Q js) ho R hnt (fun hlt => ?_))
        refine ih nt ops js hO l r g0 w0 rts LC (by simp [h0]) g _ w (R.set (by rw [hnt]; exact hlt) trivial) (by simpa using hnt) ?_ hL A Q hQ
        intro t ht
        by_cases htd : d = t
        · subst htd
          simp only [Array.getD_eq_getD_getElem?, Array.getElem?_setIfInBounds_self_of_lt (by rw [hnt]; exact hlt), Option.getD_some]
          have := hy s hmem
          simpa [Array.getD_eq_getD_getElem?] using this
        · have : t ∈ ys := by simpa [Ne.symm htd] using ht
          simp only [Array.getD_eq_getD_getElem?, Array.getElem?_setIfInBounds_ne htd]
          have := hy t this
          simpa [Array.getD_eq_getD_getElem?] using this
    | _ => trivial
  | @iyield y ys d s as rm is σ τ₁ e τ₂ σ₂ r hyi hd0 hl _ _ hv _ iha ihb ih =>
    cases r with
    | iops j₂ σ' =>
      intro nt ops js hO l r g0 w0 rts LC h0 g tmps w R hnt hy hL A Q hQ
      cases hO with
      | @cons _ _ jx js o hj ho hO =>
        have hmem : s ∈ ys := by simpa using hyi
        unfold wpOpsIn
        simp only [hj]
        refine yield_wp LC iha ihb hv hl ho hnt (hy s hmem) R hL A fun g' w' R' A' hu hL' hlt => ?_
        refine ih nt ops js hO l r g0 w0 rts (LC.up (by rw [St.up_set]; exact hu)) ?_ g' _ w' (R'.set (by rw [hnt]; exact hlt) (by simp [VR, Den, DenC])) (by simpa using hnt) ?_ hL' A' Q fun a2 w2 hn2 => hQ _ _ (hn2.up (by rw [St.up_set]; exact hu))
        · refine dropY_zero ?_ h0
          simp only [keep0, I.dst, hd0]; rfl
        · intro t ht
          obtain ⟨q1, q2⟩ := dropY_mem ht
          have hne : d ≠ t := fun h => q2 (by rw [← h]; rfl)
          simp only [Array.getD_eq_getD_getElem?, Array.getElem?_setIfInBounds_ne hne]
          have := hy t q1
          simpa [Array.getD_eq_getD_getElem?] using this
    | _ => trivial
end
end Go.Proofs.YtcgjebaomhfbdaaGreat.Vm

/- Checks hold for longer frames too. -/
namespace Go.Proofs.YtcgjebaomhfbdaaGreat.Vm
open Go
section
variable {P : Program} {E : Env} {nt nt' : Nat}
theorem okI_mono (hn : nt ≤ nt') {i : I} {o : Oper} (h : okI P nt i o = true) : okI P nt' i o = true := by
  unfold okI at h ⊢
  rw [Bool.and_eq_true] at h ⊢
  refine ⟨?_, h.2⟩
  have h1 := h.1
  cases hd : i.dst with
  | none => rw [hd] at h1; exact h1
  | some d =>
    rw [hd] at h1
    simp only [Bool.and_eq_true, decide_eq_true_eq] at h1 ⊢
    exact ⟨h1.1, by omega⟩
theorem okCall_mono (hn : nt ≤ nt') {i : I} {o : Oper} (h : okCall nt i o = true) : okCall nt' i o = true := by
  unfold okCall at h ⊢
  split at h
  · simp only [Bool.and_eq_true, decide_eq_true_eq] at h ⊢
    exact ⟨⟨⟨h.1.1.1, by omega⟩, h.1.2⟩, h.2⟩
  · simp only [Bool.and_eq_true, decide_eq_true_eq] at h ⊢
    exact ⟨⟨⟨h.1.1.1, by omega⟩, h.1.2⟩, h.2⟩
  · exact h
  · cases h
theorem okG_mono (hn : nt ≤ nt') {ops : Array Oper} {i : G} {o : Oper} (h : okG P nt ops i o = true) : okG P nt' ops i o = true := by
  simp only [okG, Bool.and_eq_true, Bool.or_eq_true] at h ⊢
  exact ⟨h.1, h.2.imp (okI_mono hn) (okCall_mono hn)⟩
theorem okRg_mono (hn : nt ≤ nt') {dr : Bool} {is : List G} {ops : Array Oper} {os : List (List Nat)} (h : okRg P E nt dr is ops os = true) : okRg P E nt' dr is ops os = true := by
  simp only [okRg, Bool.and_eq_true] at h ⊢
  refine ⟨⟨h.1.1, List.all_eq_true.2 fun i hi => ?_⟩, h.2⟩
  have := List.all_eq_true.1 h.1.2 i hi
  split at this
  · exact okG_mono hn this
  · cases this
theorem okCode_mono (hn : nt ≤ nt') : ∀ (c : C) (mc : Code), okCode P E nt c mc = true → okCode P E nt' c mc = true := by
  intro c
  induction c with
  | skip => intro mc h; cases mc <;> first | exact h | (simp [okCode] at h; done)
  | rg id dr fs is os =>
    intro mc h
    cases mc <;> try (simp [okCode] at h; done)
    simp only [okCode, Bool.and_eq_true] at h ⊢
    exact ⟨h.1, okRg_mono hn h.2⟩
  | seq a b iha ihb =>
    intro mc h
    cases mc with
    | seq x y =>
      simp only [okCode, Bool.and_eq_true] at h ⊢
      exact ⟨iha _ h.1, ihb _ h.2⟩
    | scope x =>
      cases a with
      | skip => simp only [okCode] at h ⊢; exact ihb _ h
      | _ => simp [okCode] at h
    | _ => simp [okCode] at h
  | cond x a b iha ihb =>
    intro mc h
    cases mc <;> try (simp [okCode] at h; done)
    simp only [okCode, Bool.and_eq_true] at h ⊢
    exact ⟨⟨h.1.1, iha _ h.1.2⟩, ihb _ h.2⟩
  | block id a iha =>
    intro mc h
    cases mc <;> try (simp [okCode] at h; done)
    simp only [okCode, Bool.and_eq_true] at h ⊢
    exact ⟨h.1, iha _ h.2⟩
  | loop a iha =>
    intro mc h
    cases mc <;> try (simp [okCode] at h; done)
    simp only [okCode] at h ⊢
    exact iha _ h
  | exit id => intro mc h; cases mc <;> first | exact h | (simp [okCode] at h; done)
  | ret => intro mc h; cases mc <;> first | exact h | (simp [okCode] at h; done)
  | rfun x ps a b iha ihb =>
    intro mc h
    cases mc <;> try (simp [okCode] at h; done)
    simp only [okCode, Bool.and_eq_true] at h ⊢
    refine ⟨⟨⟨h.1.1.1, List.all_eq_true.2 fun q hq => ?_⟩, iha _ h.1.2⟩, ihb _ h.2⟩
    have := List.all_eq_true.1 h.1.1.2 q hq
    simp only [decide_eq_true_eq] at this ⊢
    omega
  | bad => intro mc h; simp [okCode]
/-- one function of the table -/
def okFn (P : Program) (E : Env) (f : Nat) (F : Fn) : Bool := match P.funcs[f]? with
  | some fn => fn.name != "runtime.NumGoroutine" && (match fn.body with | some c => okCode P E fn.ntmps F.code c | none => false) && okRv P F.res fn.results.toList
  | none => false
theorem okFn.fns (h : ∀ f F, E.fn f = some F → okFn P E f F = true) : FnsOk P E ∧ ∀ f F, E.fn f = some F → enters P f = true := by
  refine ⟨⟨fun f F hf => ?_⟩, fun f F hf => ?_⟩
  · have := h f F hf
    unfold okFn at this
    split at this
    · rename_i fn hfn
      simp only [Bool.and_eq_true] at this
      split at this
      · rename_i c hc
        exact ⟨fn, c, hfn, hc, this.2, fun nt hnt => okCode_mono hnt _ _ this.1.2⟩
      · cases this.1.2
    · cases this
  · have := h f F hf
    unfold okFn at this
    unfold enters
    split at this
    · rename_i fn hfn
      simp only [Bool.and_eq_true] at this
      split at this
      · rename_i c hc
        rw [hfn]
        simp [hc]
        simpa using this.1.1
      · cases this.1.2
    · cases this
end
end Go.Proofs.YtcgjebaomhfbdaaGreat.Vm

/- Arguments that can be read, as trees. -/
namespace Go.Proofs.YtcgjebaomhfbdaaGreat.Vm
open Go
/-- a value of a type, put together out of its cells' trees -/
def mkT (P : Program) (t : TypeId) (ts : List T) : T := match wOf P t with
  | some 0 => ts.headD (.agg [])
  | _ => .agg ts
/-- the cells' trees of a type's values -/
def TyT (P : Program) : Nat → TypeId → List T → Prop
  | 0, _, _ => False
  | fuel + 1, t, ts => match P.underlying t with
    | some .bool => ∃ b, ts = [.bool b]
    | some (.int k) => ∃ n, ts = [.int k n] ∧ (Lit.int k n).wf = true
    | some (.slice e) => ∃ es : List (List T), ts = [.lst (P.cellsOf e) (es.map (mkT P e))] ∧ es.length ≤ maxLen ∧ ∀ x ∈ es, TyT P fuel e x
    | some (.struct fs) => ∃ ps : List (List T), ts = ps.flatten ∧ ps.length = fs.size ∧ ∀ (i : Nat) (f : Field) (p : List T), fs[i]? = some f → ps[i]? = some p → TyT P fuel f.type p
    | some (.array n e) => ∃ ps : List (List T), ts = ps.flatten ∧ ps.length = n ∧ ∀ p ∈ ps, TyT P fuel e p
    | _ => False
/-- may a type's values be read as trees? -/
def offsOk (P : Program) : Nat → List Field → Option Nat
  | n, [] => some n
  | n, f :: fs => if f.offset = n then offsOk P (n + P.cellsOf f.type) fs else none
def tyOk (P : Program) : Nat → TypeId → Bool
  | 0, _ => false
  | fuel + 1, t => match P.underlying t with
    | some .bool => decide (wOf P t = some 0) && decide (P.cellsOf t = 1)
    | some (.int _) => decide (wOf P t = some 0) && decide (P.cellsOf t = 1)
    | some (.slice e) => decide (wOf P t = some 0) && decide (P.cellsOf t = 1) && decide (0 < P.cellsOf e) && tyOk P fuel e
    | some (.struct fs) => decide (wOf P t = some (P.cellsOf t + 1)) && decide (offsOk P 0 fs.toList = some (P.cellsOf t)) && fs.toList.all fun f => tyOk P fuel f.type
    | some (.array n e) => decide (wOf P t = some (P.cellsOf t + 1)) && decide (P.cellsOf t = n * P.cellsOf e) && tyOk P fuel e
    | _ => false
theorem mapM_some {α β : Type} {f : α → Option β} : ∀ {l : List α} {ys : List β}, l.mapM f = some ys → ys.length = l.length ∧ ∀ (i : Nat) (x : α), l[i]? = some x → ∃ y, ys[i]? = some y ∧ f x = some y
  | [], ys, h => by simp at h; subst h; simp
  | a :: l, ys, h => by
    simp only [List.mapM_cons, Option.bind_eq_bind, Option.pure_def] at h
    cases h1 : f a with
    | none => simp [h1] at h
    | some b =>
      cases h2 : l.mapM f with
      | none => simp [h1, h2] at h
      | some bs =>
        simp [h1, h2] at h
        subst h
        have ih := mapM_some h2
        refine ⟨by simp [ih.1], fun i x hx => ?_⟩
        cases i with
        | zero => simp at hx; subst hx; exact ⟨b, by simp, h1⟩
        | succ i => simp at hx; obtain ⟨y, hy, hf⟩ := ih.2 i x hx; exact ⟨y, by simpa using hy, hf⟩
section
variable {P : Program} {w : World} {ok : Nat → Prop}
theorem DenL.cells : ∀ {ts : List T} {vs : List Value}, DenL w ok ts vs → ts.length = vs.length ∧ ∀ t ∈ ts, t.isCell = true
  | [], vs, h => by simp only [DenL] at h; subst h; simp
  | t :: ts, _, h => by
    obtain ⟨v, vs, rfl, h0, _, h2⟩ := h
    have ih := DenL.cells h2
    exact ⟨by simp [ih.1], fun x hx => by rcases List.mem_cons.1 hx with rfl | hx; exact h0; exact ih.2 x hx⟩
theorem DenL.append : ∀ {ts us : List T} {vs ws : List Value}, DenL w ok ts vs → DenL w ok us ws → DenL w ok (ts ++ us) (vs ++ ws)
  | [], us, vs, ws, h, k => by simp only [DenL] at h; subst h; simpa using k
  | t :: ts, us, _, ws, h, k => by
    obtain ⟨v, vs, rfl, h0, h1, h2⟩ := h
    exact ⟨v, vs ++ ws, by simp, h0, h1, DenL.append h2 k⟩
theorem mkT_den {t : TypeId} {ts : List T} {vs : List Value} (hw : wOf P t = some 0 → vs.length = 1) (h : DenL w ok ts vs) : DenC w ok (mkT P t ts) vs := by
  unfold mkT
  split
  · rename_i h0
    have hl := hw h0
    match ts, vs, h, hl with
    | [t], [v], h, _ =>
      obtain ⟨v', vs', he, _, h1, _⟩ := h
      cases he
      exact h1
    | [], [v], h, _ => exact absurd h (by simp [DenL])
    | t :: u :: ts, [v], h, _ =>
      obtain ⟨v', vs', he, _, _, h2⟩ := h
      simp only [List.cons.injEq] at he
      obtain ⟨_, rfl⟩ := he
      obtain ⟨_, _, he, _⟩ := h2
      cases he
  · exact h
theorem cells_some {a : Addr} {n : Nat} {cs : List Value} (h : w.cells? 0 a n = some cs) : cs.length = n ∧ ∀ j, j < n → w.cell? (a.add j) = cs[j]? := by
  unfold World.cells? at h
  rw [if_pos (Nat.zero_le _)] at h
  obtain ⟨h1, h2⟩ := mapM_some h
  refine ⟨by simpa using h1, fun j hj => ?_⟩
  obtain ⟨y, hy, hf⟩ := h2 j j (by rw [List.getElem?_range hj])
  rw [hf, hy]
theorem cell_there {b o : Nat} {v : Value} (h : w.cell? ⟨b, o, none⟩ = some v) : b < w.heap.size := by
  unfold World.cell? at h
  rcases Nat.lt_or_ge b w.heap.size with hb | hb
  · exact hb
  · rw [Array.getElem?_eq_none hb] at h
    simp at h
end
end Go.Proofs.YtcgjebaomhfbdaaGreat.Vm

/- Arguments that can be read: they are trees. -/
namespace Go.Proofs.YtcgjebaomhfbdaaGreat.Vm
open Go
section
variable {P : Program} {w : World}
theorem DenR.mk {ok : Nat → Prop} {b s : Nat} : ∀ (es : List T) (o : Nat), (∀ (i : Nat) (e : T), es[i]? = some e → ∃ vs, vs.length = s ∧ (∀ j, j < s → w.cell? ⟨b, o + i * s + j, none⟩ = vs[j]?) ∧ DenC w ok e vs) → DenR w ok b s o es
  | [], _, _ => trivial
  | e :: es, o, h => by
    refine ⟨?_, DenR.mk es (o + s) fun i e he => ?_⟩
    · obtain ⟨vs, hl, hc, hd⟩ := h 0 e (by simp)
      exact ⟨vs, hl, fun j hj => by simpa using hc j hj, hd⟩
    · obtain ⟨vs, hl, hc, hd⟩ := h (i + 1) e (by simpa using he)
      refine ⟨vs, hl, fun j hj => ?_, hd⟩
      have := hc j hj
      rw [show o + (i + 1) * s + j = o + s + i * s + j by rw [Nat.succ_mul]; omega] at this
      exact this
theorem tyOk_size {t : TypeId} (hw : wOf P t = some 0) : P.cellsOf t = 1 := by
  obtain ⟨i, hi, hs⟩ := wOf_size hw
  simp [Program.cellsOf, hi, hs, wid]
theorem cell_add {a : Addr} {n j : Nat} (h : a.spot = none) : w.cell? ((a.add n).add j) = w.cell? ⟨a.block, a.off + n + j, none⟩ := by
  have : (a.add n).add j = ⟨a.block, a.off + n + j, none⟩ := by
    unfold Addr.add
    cases a
    simp at h
    subst h
    split <;> split <;> simp_all
  rw [this]
/-- the parts of a struct -/
theorem trod_parts {Q : TypeId → List T → Prop} {ok : Nat → Prop} {cs : List Value} {N : Nat} : ∀ (fs : List Field) (n : Nat),
    offsOk P n fs = some N → (∀ f ∈ fs, ∃ ts, Q f.type ts ∧ DenL w ok ts ((cs.drop f.offset).take (P.cellsOf f.type))) →
    ∃ ps : List (List T), ps.length = fs.length ∧ (∀ (i : Nat) (f : Field) (p : List T), fs[i]? = some f → ps[i]? = some p → Q f.type p) ∧ DenL w ok ps.flatten ((cs.drop n).take (N - n)) ∧ n ≤ N
  | [], n, h, _ => by
    simp [offsOk] at h
    subst h
    exact ⟨[], rfl, fun i f p hf => by simp at hf, by simp [DenL], Nat.le_refl _⟩
  | f :: fs, n, h, hf => by
    unfold offsOk at h
    split at h
    · rename_i ho
      obtain ⟨ts, hq, hd⟩ := hf f (by simp)
      obtain ⟨ps, hl, hp, hdd, hle⟩ := trod_parts fs _ h (fun f hm => hf f (by simp [hm]))
      refine ⟨ts :: ps, by simp [hl], fun i g p hg hpp => ?_, ?_, by omega⟩
      · cases i with
        | zero => simp at hg hpp; subst hg; subst hpp; exact hq
        | succ i => simp at hg hpp; exact hp i g p hg hpp
      · rw [List.flatten_cons]
        have := DenL.append hd hdd
        rw [ho] at this
        rw [show N - n = P.cellsOf f.type + (N - (n + P.cellsOf f.type)) by omega, List.take_add, List.drop_drop]
        exact this
    · cases h
theorem trod_arr {Q : List T → Prop} {ok : Nat → Prop} {cs : List Value} {s : Nat} : ∀ (n m : Nat),
    (∀ i, i < n → ∃ ts, Q ts ∧ DenL w ok ts ((cs.drop ((m + i) * s)).take s)) →
    ∃ ps : List (List T), ps.length = n ∧ (∀ p ∈ ps, Q p) ∧ DenL w ok ps.flatten ((cs.drop (m * s)).take (n * s))
  | 0, m, _ => ⟨[], rfl, fun p hp => by simp at hp, by simp [DenL]⟩
  | n + 1, m, h => by
    obtain ⟨ts, hq, hd⟩ := h 0 (by omega)
    obtain ⟨ps, hl, hp, hdd⟩ := trod_arr n (m + 1) (fun i hi => by
      obtain ⟨ts, h1, h2⟩ := h (i + 1) (by omega)
      exact ⟨ts, h1, by rw [show m + 1 + i = m + (i + 1) by omega]; exact h2⟩)
    refine ⟨ts :: ps, by simp [hl], fun p hm => ?_, ?_⟩
    · rcases List.mem_cons.1 hm with rfl | hm
      · exact hq
      · exact hp p hm
    · rw [List.flatten_cons]
      have := DenL.append hd hdd
      rw [show (n + 1) * s = s + n * s by rw [Nat.succ_mul]; omega, List.take_add, List.drop_drop]
      rw [show (m + 1) * s = m * s + s by rw [Nat.succ_mul]] at this
      simpa using this
/-- the elements of a slice -/
theorem trod_els {H : Type} {enc : TypeId × Value → H} {spare : Nat → Bool} {held : Bool} {k fuel : Nat} {e : TypeId} {a : Addr} {xs : List (DataW H × List MemPlace)} {len : Nat}
    (IH : ∀ (cs : List Value) (x : DataW H × List MemPlace), DataW.trod enc P w 0 spare held fuel e cs = some x → ∃ ts, TyT P k e ts ∧ DenL w (· < w.heap.size) ts cs ∧ cs.length = P.cellsOf e)
    (hs : 0 < P.cellsOf e) (hw : wOf P e = some 0 → P.cellsOf e = 1)
    (h : (List.range len).mapM (fun i => (w.cells? 0 (a.add (i * P.cellsOf e)) (P.cellsOf e)).bind (DataW.trod enc P w 0 spare held fuel e)) = some xs) :
    ∃ es : List (List T), es.length = len ∧ (∀ x ∈ es, TyT P k e x) ∧ (es = [] ∨ ∃ b o, a = ⟨b, o, none⟩ ∧ b < w.heap.size ∧ DenR w (· < w.heap.size) b (P.cellsOf e) o (es.map (mkT P e))) := by
  obtain ⟨h1, h2⟩ := mapM_some h
  have each : ∀ i, i < len → ∃ (ts : List T) (cs : List Value), TyT P k e ts ∧ DenL w (· < w.heap.size) ts cs ∧ cs.length = P.cellsOf e ∧ w.cells? 0 (a.add (i * P.cellsOf e)) (P.cellsOf e) = some cs := by
    intro i hi
    obtain ⟨y, _, hy⟩ := h2 i i (by rw [List.getElem?_range hi])
    cases hc : w.cells? 0 (a.add (i * P.cellsOf e)) (P.cellsOf e) with
    | none => rw [hc] at hy; simp at hy
    | some cs =>
      rw [hc] at hy
      obtain ⟨ts, q1, q2, q3⟩ := IH cs y (by simpa using hy)
      exact ⟨ts, cs, q1, q2, q3, rfl⟩
  have spot : 0 < len → a.spot = none ∧ a.block < w.heap.size := by
    intro hl
    obtain ⟨ts, cs, _, _, hlen, hc⟩ := each 0 hl
    have hcs := (cells_some hc).2 0 hs
    simp only [Nat.zero_mul, Addr.add, if_true] at hcs
    have hv : ∃ v, cs[0]? = some v := ⟨cs[0]'(by omega), List.getElem?_eq_getElem (by omega)⟩
    obtain ⟨v, hv⟩ := hv
    rw [hv] at hcs
    unfold World.cell? at hcs
    split at hcs
    · rename_i hb
      split at hcs
      · cases hcs
      · rename_i hsp
        refine ⟨by simpa using hsp, ?_⟩
        rcases Nat.lt_or_ge a.block w.heap.size with hb' | hb'
        · exact hb'
        · rw [Array.getElem?_eq_none hb'] at hb; cases hb
    · cases hcs
  obtain ⟨es, hl, hes⟩ : ∃ es : List (List T), es.length = len ∧ ∀ i, i < len → ∃ ts cs, es[i]? = some ts ∧ TyT P k e ts ∧ DenL w (· < w.heap.size) ts cs ∧ cs.length = P.cellsOf e ∧ w.cells? 0 (a.add (i * P.cellsOf e)) (P.cellsOf e) = some cs := by
    refine ⟨(List.range len).map fun i => if hi : i < len then (each i hi).choose else [], by simp, fun i hi => ?_⟩
    obtain ⟨cs, q⟩ := (each i hi).choose_spec
    exact ⟨_, cs, by simp [hi], q⟩
  refine ⟨es, hl, fun x hx => ?_, ?_⟩
  · obtain ⟨i, hi⟩ := List.mem_iff_getElem?.1 hx
    have hil : i < len := by rw [← hl]; exact (List.getElem?_eq_some_iff.1 hi).1
    obtain ⟨ts, cs, q0, q1, _⟩ := hes i hil
    rw [hi] at q0
    cases q0
    exact q1
  · rcases Nat.eq_zero_or_pos len with h0 | h0
    · left; exact List.length_eq_zero_iff.1 (by omega)
    · right
      obtain ⟨s1, s2⟩ := spot h0
      refine ⟨a.block, a.off, by cases a; simp at s1; simp [s1], s2, DenR.mk _ _ fun i x hx => ?_⟩
      rw [List.getElem?_map] at hx
      cases hi : es[i]? with
      | none => rw [hi] at hx; simp at hx
      | some ts' =>
        rw [hi] at hx
        simp at hx
        subst hx
        have hil : i < len := by rw [← hl]; exact (List.getElem?_eq_some_iff.1 hi).1
        obtain ⟨ts, cs, q0, _, q2, q3, q4⟩ := hes i hil
        rw [hi] at q0
        cases q0
        refine ⟨cs, q3, fun j hj => ?_, mkT_den (fun h0 => by rw [q3]; exact hw h0) q2⟩
        rw [← cell_add s1]
        exact (cells_some q4).2 j hj
set_option maxHeartbeats 2000000 in
theorem trod_den {H : Type} {enc : TypeId × Value → H} {spare : Nat → Bool} {held : Bool} : ∀ (k fuel : Nat) (t : TypeId) (cs : List Value) (x : DataW H × List MemPlace),
    tyOk P k t = true → DataW.trod enc P w 0 spare held fuel t cs = some x → ∃ ts, TyT P k t ts ∧ DenL w (· < w.heap.size) ts cs ∧ cs.length = P.cellsOf t
  | 0, _, _, _, _, h, _ => by simp [tyOk] at h
  | k + 1, 0, _, _, _, _, h => by simp [DataW.trod] at h
  | k + 1, fuel + 1, t, cs, x, hk, h => by
    have IH := trod_den (H := H) (enc := enc) (spare := spare) (held := held) k fuel
    unfold tyOk at hk
    unfold TyT
    split at hk
    · rename_i hu
      simp only [Bool.and_eq_true, decide_eq_true_eq] at hk
      rw [DataW.trod.eq_def] at h
      simp only [hu] at h
      split at h <;> (try (rename_i e _; cases e; done)) <;> (try (cases h; done)) <;> (try (rename_i e; cases e; done))
      rename_i b _
      refine ⟨[.bool b], ⟨b, rfl⟩, ?_, by simp [hk.2]⟩
      simp [DenL, DenC, T.isCell]
    · rename_i kd hu
      simp only [Bool.and_eq_true, decide_eq_true_eq] at hk
      rw [DataW.trod.eq_def] at h
      simp only [hu] at h
      split at h <;> (try (rename_i e _; cases e; done)) <;> (try (cases h; done)) <;> (try (rename_i e; cases e; done))
      rename_i k0 k' n e
      cases e
      split at h
      · rename_i hc
        obtain ⟨rfl, hwf⟩ := hc
        refine ⟨[.int _ n], ⟨n, rfl, hwf⟩, ?_, by simp [hk.2]⟩
        simp [DenL, DenC, T.isCell]
      · cases h
    · rename_i e hu
      simp only [Bool.and_eq_true, decide_eq_true_eq] at hk
      rw [DataW.trod.eq_def] at h
      simp only [hu] at h
      split at h <;> (try (rename_i e _; cases e; done)) <;> (try (cases h; done)) <;> (try (rename_i e; cases e; done))
      · refine ⟨[.lst (P.cellsOf e) []], ⟨[], by simp, by simp [maxLen], by simp⟩, ?_, by simp [hk.1.1.2]⟩
        show ∃ v vs', _ ∧ _
        exact ⟨_, [], rfl, rfl, ⟨none, 0, rfl, Nat.le_refl _, .inl rfl⟩, rfl⟩
      · rename_i e' a len cap e1
        cases e1
        split at h
        · rename_i hc
          cases hm : (List.range len).mapM (fun i => (w.cells? 0 (a.add (i * P.cellsOf e)) (P.cellsOf e)).bind (DataW.trod enc P w 0 spare held fuel e)) with
          | none => rw [hm] at h; cases h
          | some xs =>
            obtain ⟨es, q1, q2, q3⟩ := trod_els (k := k) (fun cs x => IH e cs x hk.2) hk.1.2 tyOk_size hm
            refine ⟨[.lst (P.cellsOf e) (es.map (mkT P e))], ⟨es, rfl, by omega, q2⟩, ?_, by simp [hk.1.1.2]⟩
            show ∃ v vs', _ ∧ _
            refine ⟨_, [], rfl, rfl, ⟨some a, cap, by rw [List.length_map, q1], by rw [List.length_map, q1]; exact hc.2.1, ?_⟩, rfl⟩
            rcases q3 with rfl | ⟨b, o, rfl, hb, hr⟩
            · exact .inl rfl
            · exact .inr ⟨b, o, rfl, hb, hr⟩
        · cases h
    · rename_i fs hu
      simp only [Bool.and_eq_true, decide_eq_true_eq, List.all_eq_true] at hk
      rw [DataW.trod.eq_def] at h
      simp only [hu] at h
      split at h <;> (try (rename_i e _; cases e; done)) <;> (try (cases h; done)) <;> (try (rename_i e; cases e; done))
      · rename_i hlen
        cases hm : fs.toList.mapM fun f => DataW.trod enc P w 0 spare held fuel f.type ((cs.drop f.offset).take (P.cellsOf f.type)) with
        | none => rw [hm] at h; cases h
        | some xs =>
          obtain ⟨h1, h2⟩ := mapM_some hm
          obtain ⟨ps, q1, q2, q3, _⟩ := trod_parts (w := w) (Q := TyT P k) (ok := (· < w.heap.size)) (cs := cs) fs.toList 0 hk.1.2 (fun f hf => by
            obtain ⟨i, hi⟩ := List.mem_iff_getElem?.1 hf
            obtain ⟨y, _, hy⟩ := h2 i f hi
            obtain ⟨ts, t1, t2, _⟩ := IH f.type _ y (hk.2 f hf) hy
            exact ⟨ts, t1, t2⟩)
          refine ⟨ps.flatten, ⟨ps, rfl, by simpa using q1, fun i f p hf hp => q2 i f p (by simpa using hf) hp⟩, ?_, hlen⟩
          simpa [← hlen] using q3
    · rename_i n e hu
      simp only [Bool.and_eq_true, decide_eq_true_eq] at hk
      rw [DataW.trod.eq_def] at h
      simp only [hu] at h
      split at h <;> (try (rename_i e _; cases e; done)) <;> (try (cases h; done)) <;> (try (rename_i e; cases e; done))
      · rename_i hlen
        cases hm : (List.range n).mapM fun i => DataW.trod enc P w 0 spare held fuel e ((cs.drop (i * P.cellsOf e)).take (P.cellsOf e)) with
        | none => rw [hm] at h; cases h
        | some xs =>
          obtain ⟨h1, h2⟩ := mapM_some hm
          obtain ⟨ps, q1, q2, q3⟩ := trod_arr (w := w) (Q := TyT P k e) (ok := (· < w.heap.size)) (cs := cs) (s := P.cellsOf e) n 0 (fun i hi => by
            obtain ⟨y, _, hy⟩ := h2 i i (by rw [List.getElem?_range hi])
            obtain ⟨ts, t1, t2, _⟩ := IH e _ y hk.2 hy
            exact ⟨ts, t1, by simpa using t2⟩)
          refine ⟨ps.flatten, ⟨ps, rfl, q1, q2⟩, ?_, hlen⟩
          rw [← hk.1.2, ← hlen] at q3
          simpa using q3
    · cases hk
end
end Go.Proofs.YtcgjebaomhfbdaaGreat.Vm

