/- Runs by computing, quickly: slots in a tree. -/
import Derived.Test.YtcgjebaomhfbdaaGreatVmE1
import Derived.Test.YtcgjebaomhfbdaaGreatVmP4
namespace Go.Proofs.YtcgjebaomhfbdaaGreat.Vm
open Go
inductive Tr where
  | nil
  | node (v : V) (l r : Tr)
noncomputable def Tr.get (t : Tr) : Nat → V :=
  Tr.rec (motive := fun _ => Nat → V) (fun _ => .u) (fun v _ _ gl gr i => match Nat.beq i 0 with
    | true => v
    | false => match Nat.beq (i % 2) 1 with
      | true => gl (i / 2)
      | false => gr (i / 2 - 1)) t
noncomputable def Tr.setF (n : Nat) : Tr → Nat → V → Tr :=
  Nat.rec (motive := fun _ => Tr → Nat → V → Tr) (fun t _ _ => t) (fun _ ih t i v => match Nat.beq i 0 with
    | true => match t with
      | .nil => .node v .nil .nil
      | .node _ l r => .node v l r
    | false => match Nat.beq (i % 2) 1 with
      | true => match t with
        | .nil => .node .u (ih .nil (i / 2) v) .nil
        | .node w l r => .node w (ih l (i / 2) v) r
      | false => match t with
        | .nil => .node .u .nil (ih .nil (i / 2 - 1) v)
        | .node w l r => .node w l (ih r (i / 2 - 1) v)) n
noncomputable def Tr.set (t : Tr) (i : Nat) (v : V) : Tr := t.setF (i + 1) i v
noncomputable def Tr.map (f : V → V) (t : Tr) : Tr := Tr.rec (motive := fun _ => Tr) .nil (fun v _ _ l r => .node (f v) l r) t
theorem Tr.get_nil (i : Nat) : Tr.nil.get i = .u := rfl
theorem Tr.get_node (v : V) (l r : Tr) (i : Nat) : (Tr.node v l r).get i = if i = 0 then v else if i % 2 = 1 then l.get (i / 2) else r.get (i / 2 - 1) := by
  have : (Tr.node v l r).get i = match Nat.beq i 0 with
    | true => v
    | false => match Nat.beq (i % 2) 1 with
      | true => l.get (i / 2)
      | false => r.get (i / 2 - 1) := rfl
  rw [this]
  by_cases h0 : i = 0
  · subst h0; rfl
  · rw [if_neg h0]
    have h1 : Nat.beq i 0 = false := by
      cases h : Nat.beq i 0 with
      | false => rfl
      | true => exact absurd (Nat.eq_of_beq_eq_true h) h0
    rw [h1]
    by_cases h2 : i % 2 = 1
    · rw [if_pos h2, h2]
    · rw [if_neg h2]
      have h3 : Nat.beq (i % 2) 1 = false := by
        cases h : Nat.beq (i % 2) 1 with
        | false => rfl
        | true => exact absurd (Nat.eq_of_beq_eq_true h) h2
      rw [h3]
theorem Tr.setF_succ (n : Nat) (t : Tr) (i : Nat) (v : V) : t.setF (n + 1) i v = if i = 0 then (match t with
      | .nil => .node v .nil .nil
      | .node _ l r => .node v l r) else if i % 2 = 1 then (match t with
        | .nil => .node .u (Tr.nil.setF n (i / 2) v) .nil
        | .node w l r => .node w (l.setF n (i / 2) v) r) else (match t with
        | .nil => .node .u .nil (Tr.nil.setF n (i / 2 - 1) v)
        | .node w l r => .node w l (r.setF n (i / 2 - 1) v)) := by
  have : t.setF (n + 1) i v = match Nat.beq i 0 with
    | true => (match t with
      | .nil => .node v .nil .nil
      | .node _ l r => .node v l r)
    | false => match Nat.beq (i % 2) 1 with
      | true => (match t with
        | .nil => .node .u (Tr.nil.setF n (i / 2) v) .nil
        | .node w l r => .node w (l.setF n (i / 2) v) r)
      | false => (match t with
        | .nil => .node .u .nil (Tr.nil.setF n (i / 2 - 1) v)
        | .node w l r => .node w l (r.setF n (i / 2 - 1) v)) := rfl
  rw [this]
  by_cases h0 : i = 0
  · subst h0; rfl
  · rw [if_neg h0]
    have h1 : Nat.beq i 0 = false := by
      cases h : Nat.beq i 0 with
      | false => rfl
      | true => exact absurd (Nat.eq_of_beq_eq_true h) h0
    rw [h1]
    by_cases h2 : i % 2 = 1
    · rw [if_pos h2, h2]
    · rw [if_neg h2]
      have h3 : Nat.beq (i % 2) 1 = false := by
        cases h : Nat.beq (i % 2) 1 with
        | false => rfl
        | true => exact absurd (Nat.eq_of_beq_eq_true h) h2
      rw [h3]
theorem Tr.get_setF : ∀ (n : Nat) (t : Tr) (i j : Nat) (v : V), i < n → (t.setF n i v).get j = if i = j then v else t.get j
  | 0, _, _, _, _, h => by omega
  | n + 1, t, i, j, v, h => by
    rw [Tr.setF_succ]
    by_cases h0 : i = 0
    · subst h0
      rw [if_pos rfl]
      by_cases hj : 0 = j
      · subst hj; cases t <;> simp [Tr.get_node]
      · rw [if_neg hj]
        cases t with
        | nil => simp only [Tr.get_node, Tr.get_nil]; rw [if_neg (fun e => hj e.symm)]; split <;> rfl
        | node w l r => simp only [Tr.get_node]; rw [if_neg (c := j = 0) (fun e => hj e.symm), if_neg (c := j = 0) (fun e => hj e.symm)]
    · rw [if_neg h0]
      by_cases h2 : i % 2 = 1
      · rw [if_pos h2]
        have key : ∀ l : Tr, (l.setF n (i / 2) v).get (j / 2) = if i / 2 = j / 2 then v else l.get (j / 2) := fun l => Tr.get_setF n l (i / 2) (j / 2) v (by omega)
        by_cases hij : i = j
        · subst hij
          cases t <;> (simp only [Tr.get_node]; rw [if_neg h0, if_pos h2, key]; simp)
        · rw [if_neg hij]
          cases t with
          | nil =>
            simp only [Tr.get_node, Tr.get_nil]
            by_cases hj0 : j = 0
            · rw [if_pos hj0]
            · rw [if_neg hj0]
              by_cases hj2 : j % 2 = 1
              · rw [if_pos hj2, key, if_neg (by omega)]; rfl
              · rw [if_neg hj2]
          | node w l r =>
            simp only [Tr.get_node]
            by_cases hj0 : j = 0
            · rw [if_pos hj0, if_pos hj0]
            · rw [if_neg hj0, if_neg hj0]
              by_cases hj2 : j % 2 = 1
              · rw [if_pos hj2, if_pos hj2, key, if_neg (by omega)]
              · rw [if_neg hj2, if_neg hj2]
      · rw [if_neg h2]
        have key : ∀ r : Tr, (r.setF n (i / 2 - 1) v).get (j / 2 - 1) = if i / 2 - 1 = j / 2 - 1 then v else r.get (j / 2 - 1) := fun r => Tr.get_setF n r (i / 2 - 1) (j / 2 - 1) v (by omega)
        by_cases hij : i = j
        · subst hij
          cases t <;> (simp only [Tr.get_node]; rw [if_neg h0, if_neg h2, key]; simp)
        · rw [if_neg hij]
          cases t with
          | nil =>
            simp only [Tr.get_node, Tr.get_nil]
            by_cases hj0 : j = 0
            · rw [if_pos hj0]
            · rw [if_neg hj0]
              by_cases hj2 : j % 2 = 1
              · rw [if_pos hj2]
              · rw [if_neg hj2, key, if_neg (by omega)]; rfl
          | node w l r =>
            simp only [Tr.get_node]
            by_cases hj0 : j = 0
            · rw [if_pos hj0, if_pos hj0]
            · rw [if_neg hj0, if_neg hj0]
              by_cases hj2 : j % 2 = 1
              · rw [if_pos hj2, if_pos hj2]
              · rw [if_neg hj2, if_neg hj2, key, if_neg (by omega)]
theorem Tr.get_set (t : Tr) (i j : Nat) (v : V) : (t.set i v).get j = if i = j then v else t.get j := Tr.get_setF _ _ _ _ _ (Nat.lt_succ_self _)
theorem Tr.get_map {f : V → V} (hf : f .u = .u) : ∀ (t : Tr) (i : Nat), (t.map f).get i = f (t.get i)
  | .nil, i => hf.symm
  | .node v l r, i => by
    have e : (Tr.node v l r).map f = .node (f v) (l.map f) (r.map f) := rfl
    rw [e]
    simp only [Tr.get_node]
    split
    · rfl
    · split
      · exact Tr.get_map hf l _
      · exact Tr.get_map hf r _
/-- a state, its slots in a tree; no slot from n on is set -/
structure StF where
  n : Nat
  t : Tr
  ob : Lv
  up : List Lv
def StF.core (τ : StF) : St := ⟨[], τ.ob, τ.up⟩
noncomputable def StF.abs (τ : StF) : St := ⟨(List.range τ.n).map τ.t.get, τ.ob, τ.up⟩
def StF.Wf (τ : StF) : Prop := ∀ i, τ.n ≤ i → τ.t.get i = .u
noncomputable def StF.set (τ : StF) (d : Nat) (v : V) : StF := ⟨match Nat.ble (d + 1) τ.n with | true => τ.n | false => d + 1, τ.t.set d v, τ.ob, τ.up⟩
/-- other slots -/
def St.wsl (σ : St) (sl : List V) : St := { σ with sl := sl }
def StF.put (τ : StF) (ρ : St) : StF := ⟨τ.n, τ.t, ρ.ob, ρ.up⟩
theorem st_len {α : Type} (d : α) : ∀ (l : List α) (i : Nat) (v : α), (st d l i v).length = max l.length (i + 1)
  | [], 0, v => by simp [st]
  | [], i + 1, v => by simp only [st, List.length_cons, st_len d [] i v, List.length_nil]; omega
  | a :: l, 0, v => by simp [st]
  | a :: l, i + 1, v => by simp only [st, List.length_cons, st_len d l i v]; omega
theorem gt_map_range (f : Nat → V) (n i : Nat) : gt V.u ((List.range n).map f) i = if i < n then f i else .u := by
  rw [gt_get]
  by_cases h : i < n
  · simp [h]
  · simp [h]
theorem list_ext_gt {α : Type} (d : α) {l l' : List α} (hl : l.length = l'.length) (h : ∀ i, gt d l i = gt d l' i) : l = l' := by
  refine List.ext_getElem hl fun i h1 h2 => ?_
  have := h i
  rw [gt_get, gt_get, List.getElem?_eq_getElem h1, List.getElem?_eq_getElem h2] at this
  exact this
section
variable {τ : StF} {σ : St}
theorem StF.get_abs (h : τ.Wf) (i : Nat) : τ.abs.get i = τ.t.get i := by
  simp only [StF.abs, St.get, gt_map_range]
  split
  · rfl
  · exact (h i (by omega)).symm
theorem StF.set_n (d : Nat) (v : V) : (τ.set d v).n = max τ.n (d + 1) := by
  simp only [StF.set]
  cases h : Nat.ble (d + 1) τ.n with
  | true => have := Nat.le_of_ble_eq_true h; simp only; omega
  | false =>
    have : ¬ (d + 1 ≤ τ.n) := fun hh => by rw [Nat.ble_eq_true_of_le hh] at h; cases h
    simp only; omega
theorem StF.set_wf (h : τ.Wf) (d : Nat) (v : V) : (τ.set d v).Wf := fun i hi => by
  rw [StF.set_n] at hi
  show (τ.t.set d v).get i = .u
  rw [Tr.get_set, if_neg (by omega)]
  exact h i (by omega)
theorem StF.set_abs (h : τ.Wf) (d : Nat) (v : V) : (τ.set d v).abs = τ.abs.set d v := by
  have hl : ((List.range (τ.set d v).n).map (τ.set d v).t.get) = st .u ((List.range τ.n).map τ.t.get) d v := by
    refine list_ext_gt .u ?_ fun i => ?_
    · rw [st_len]; simp only [List.length_map, List.length_range]; exact StF.set_n d v
    · rw [gt_st, gt_map_range, gt_map_range, StF.set_n]
      have e : (τ.set d v).t.get i = if d = i then v else τ.t.get i := Tr.get_set _ _ _ _
      rw [e]
      by_cases hd : d = i
      · rw [if_pos hd, if_pos hd, if_pos (by omega)]
      · rw [if_neg hd, if_neg hd]
        by_cases hi : i < τ.n
        · rw [if_pos hi, if_pos (by omega)]
        · rw [if_neg hi]
          split
          · exact h i (by omega)
          · rfl
  show (⟨_, _, _⟩ : St) = ⟨_, _, _⟩
  rw [hl]; rfl
theorem StF.put_abs (ρ : St) : (τ.put ρ).abs = ρ.wsl τ.abs.sl := rfl
theorem StF.put_wf (h : τ.Wf) (ρ : St) : (τ.put ρ).Wf := h
theorem StF.abs_core : τ.abs = τ.core.wsl τ.abs.sl := rfl
/-! What does not look at slots. -/
variable {sl : List V}
theorem obj_wsl (l n : Nat) : (σ.wsl sl).obj l n = σ.obj l n := by cases l <;> rfl
theorem setObj_wsl (l n : Nat) (o : Option Ob) : (σ.wsl sl).setObj l n o = (σ.setObj l n o).wsl sl := by cases l <;> rfl
theorem new_wsl (n : Nat) (o : Ob) : (σ.wsl sl).new n o = (σ.new n o).map (·.wsl sl) := by
  unfold St.new
  rw [obj_wsl]
  split
  · rw [setObj_wsl]; rfl
  · rfl
theorem rowOf_wsl (l n lo len : Nat) : (σ.wsl sl).rowOf l n lo len = σ.rowOf l n lo len := by unfold St.rowOf; rw [obj_wsl]
theorem els_wsl (s : Nat) (x : V) : (σ.wsl sl).els s x = σ.els s x := by unfold St.els; simp only [rowOf_wsl]
mutual
theorem toT_wsl : ∀ x : V, (σ.wsl sl).toT x = σ.toT x
  | .ag cs => by simp only [St.toT, toTs_wsl cs]
  | .row l n lo len s => by simp only [St.toT, obj_wsl]
  | .d true _ | .d false _ | .dx true _ | .dx false _ | .nil _ | .ptr .. | .rel .. | .pd _ | .tp _ | .cl .. | .u => by simp only [St.toT]
theorem toTs_wsl : ∀ xs : List V, (σ.wsl sl).toTs xs = σ.toTs xs
  | [] => by simp only [St.toTs]
  | x :: xs => by simp only [St.toTs, toT_wsl x, toTs_wsl xs]
end
theorem frz1_wsl (n : Nat) : (σ.wsl sl).frz1 n = (σ.frz1 n).wsl sl := by
  unfold St.frz1
  rw [obj_wsl]
  split
  · exact setObj_wsl _ _ _
  · rfl
theorem frz_wsl : ∀ (ns : List Nat) {σ : St}, (σ.wsl sl).frz ns = (σ.frz ns).wsl sl
  | [], _ => rfl
  | n :: ns, σ => by
    show ((σ.wsl sl).frz1 n).frz ns = ((σ.frz1 n).frz ns).wsl sl
    rw [frz1_wsl]
    exact frz_wsl ns
theorem load_wsl (x : V) (k : Nat) : (σ.wsl sl).load x k = σ.load x k := by
  unfold St.load
  simp only [obj_wsl]
theorem ix_wsl (x i : V) (s : Nat) : (σ.wsl sl).ix x i s = σ.ix x i s := by
  unfold St.ix
  simp only [obj_wsl]
theorem store_wsl (x y : V) (k : Nat) : (σ.wsl sl).store x y k = (σ.store x y k).map (·.wsl sl) := by
  unfold St.store
  split
  · simp only [obj_wsl]
    split
    · split
      · rw [setObj_wsl]; rfl
      · rfl
    · rfl
  · simp only [toT_wsl]
    split
    · simp only [frz_wsl, obj_wsl]
      split
      · split
        · rw [setObj_wsl]; rfl
        · rfl
      · rfl
    · rfl
  · rfl
theorem unvs_wsl (m : Nat) : (σ.wsl sl).unvs m = (σ.unvs m).map (·.wsl sl) := by
  unfold St.unvs
  simp only [obj_wsl, toTs_wsl]
  split
  · split
    · rw [frz_wsl, setObj_wsl]; rfl
    · rfl
  · rfl
theorem ixv_wsl (x i : V) : (σ.wsl sl).ixv x i = σ.ixv x i := by
  unfold St.ixv
  simp only [obj_wsl]
theorem newL_wsl (l n : Nat) (o : Ob) : (σ.wsl sl).newL l n o = (σ.newL l n o).map (·.wsl sl) := by
  unfold St.newL
  simp only [obj_wsl]
  rw [show (σ.wsl sl).up = σ.up from rfl]
  split
  · split
    · rw [setObj_wsl]; rfl
    · rfl
  · rfl
theorem clr_wsl (s : Nat) (x : V) (z : T) : (σ.wsl sl).clr s x z = (σ.clr s x z).map (·.wsl sl) := by
  unfold St.clr
  simp only [obj_wsl]
  split
  · split
    · split
      · split
        · rw [setObj_wsl]; rfl
        · rfl
      · rfl
    · rfl
  · rfl
  · rfl
theorem zcells_wsl : ∀ (zs : List Z) {σ : St}, zcells (σ.wsl sl) zs = (zcells σ zs).map fun p => (p.1, p.2.wsl sl)
  | [], _ => rfl
  | z :: zs, σ => by
    simp only [zcells, zcells_wsl zs]
    cases zcells σ zs with
    | none => rfl
    | some p =>
      obtain ⟨vs, ρ⟩ := p
      simp only [Option.map_some]
      cases z with
      | r nm s => simp only [new_wsl]; cases ρ.new nm _ <;> rfl
      | _ => rfl
theorem lend1_wsl (x : V) : (σ.wsl sl).lend1 x = σ.lend1 x := by unfold St.lend1; simp only [rowOf_wsl]
theorem lends_wsl : ∀ xs : List V, (σ.wsl sl).lends xs = σ.lends xs
  | [] => rfl
  | x :: xs => by simp only [St.lends, lend1_wsl, lends_wsl xs]
theorem lend_wsl (x : V) : (σ.wsl sl).lend x = σ.lend x := by
  unfold St.lend
  split
  · rw [lends_wsl]
  · rw [lend1_wsl]
theorem hand_wsl : ∀ (xs : List V) (ms : List Bool), (σ.wsl sl).hand xs ms = σ.hand xs ms
  | [], [] => rfl
  | [], _ :: _ => rfl
  | _ :: _, [] => rfl
  | x :: xs, m :: ms => by simp only [St.hand, hand_wsl xs ms, lend_wsl, toT_wsl]
theorem appN_wsl (s nm : Nat) (x y : V) : appN (σ.wsl sl) s nm x y = appN σ s nm x y := by unfold appN; simp only [els_wsl, obj_wsl]
theorem dat1_wsl (p : Bool) (x : V) : dat1 p (σ.wsl sl) x = dat1 p σ x := by unfold dat1; simp only [obj_wsl]
theorem dats1_wsl (p : Bool) : ∀ xs : List V, dats1 p (σ.wsl sl) xs = dats1 p σ xs
  | [] => rfl
  | x :: xs => by simp only [dats1, dat1_wsl, dats1_wsl p xs]
theorem dat2_wsl (p : Bool) (x : V) : dat2 p (σ.wsl sl) x = dat2 p σ x := by unfold dat2; simp only [dats1_wsl, dat1_wsl]
theorem dats2_wsl (p : Bool) : ∀ xs : List V, dats2 p (σ.wsl sl) xs = dats2 p σ xs
  | [] => rfl
  | x :: xs => by simp only [dats2, dat2_wsl, dats2_wsl p xs]
theorem dat_wsl (p : Bool) (x : V) : dat p (σ.wsl sl) x = dat p σ x := by unfold dat; simp only [dats2_wsl, dat2_wsl]
theorem take1_wsl (p : Bool) (x : V) (a : Lv × Nat × List Nat) : take1 p (σ.wsl sl) x a = take1 p σ x a := by unfold take1 take0; simp only [obj_wsl, dat1_wsl]
theorem takes1_wsl (p : Bool) : ∀ (xs : List V) (a : Lv × Nat × List Nat), takes1 p (σ.wsl sl) xs a = takes1 p σ xs a
  | [], a => rfl
  | x :: xs, a => by simp only [takes1, take1_wsl, takes1_wsl p xs]
theorem take2_wsl (p : Bool) (x : V) (a : Lv × Nat × List Nat) : take2 p (σ.wsl sl) x a = take2 p σ x a := by unfold take2; simp only [takes1_wsl, take1_wsl]
theorem takes2_wsl (p : Bool) : ∀ (xs : List V) (a : Lv × Nat × List Nat), takes2 p (σ.wsl sl) xs a = takes2 p σ xs a
  | [], a => rfl
  | x :: xs, a => by simp only [takes2, take2_wsl, takes2_wsl p xs]
theorem take_wsl (p : Bool) (x : V) (a : Lv × Nat × List Nat) : take p (σ.wsl sl) x a = take p σ x a := by unfold take; simp only [takes2_wsl, take2_wsl]
end
end Go.Proofs.YtcgjebaomhfbdaaGreat.Vm
