/- What Go's Delete of one number of a row does: in place. (93, 24, 3, 3, 4, Tryz: the seat's numbers.) -/
import Derived.Test.YtcgjebaomhfbdaaGreatVmX3
import Derived.Test.YtcgjebaomhfbdaaGreatProg
import Derived.Shelf.RegionOpenPlain
import Derived.WalkKit
import Derived.Lib.Walk
import Derived.Lib.SliceRun
import Derived.Lib.AppendZerosOnto
namespace Go.Proofs.YtcgjebaomhfbdaaGreat.Vm
open Go Go.Shelf Go.RowKit Go.Lib
set_option linter.unusedVariables false
set_option linter.unusedSimpArgs false
def isI64 : T → Bool
  | .int .i64 _ => true
  | _ => false
def delA {α : Type} (l : List α) (i : Nat) (z : α) : List α := l.take i ++ l.drop (i + 1) ++ [z]
/-- one element of a whole row is taken out; a zero stands at the end -/
def deleteX : Ext := fun σ xs rm => match xs, rm with
  | [.row l n lo len s, .d _ (.int .i64 (.ofNat i)), .d _ (.int .i64 j)], some _ => match σ.obj 0 n with
    | some (.rw s1 es false) => if l = 0 ∧ lo = 0 ∧ s = 1 ∧ s1 = 1 ∧ i < len ∧ j = (i : Int) + 1 ∧ len = es.length ∧ len ≤ big ∧ es.all isI64 = true then
        some (.row 0 n 0 (len - 1) 1, σ.setObj 0 n (some (.rw 1 (delA es i (.int .i64 0)) false))) else none
    | _ => none
  | _, _ => none
theorem deleteX_set (σ : St) (d : Nat) (v : V) (xs : List V) (rm : Option Nat) : deleteX (σ.set d v) xs rm = (deleteX σ xs rm).map fun p => (p.1, p.2.set d v) := by
  unfold deleteX
  split
  · rw [St.obj_set]
    split
    · split
      · simp [setObj_set]
      · rfl
    · rfl
  · rfl
theorem deleteX_get {σ : St} {xs : List V} {rm : Option Nat} {v : V} {σ' : St} {t : Nat} (h : deleteX σ xs rm = some (v, σ')) : σ'.get t = σ.get t := by
  unfold deleteX at h
  split at h
  · split at h
    · split at h
      · cases h; exact St.get_setObj _ _ _ _ _
      · cases h
    · cases h
  · cases h
theorem deleteX_pure (σ τ : St) (xs : List V) (v : V) (σ' : St) (h : deleteX σ xs none = some (v, σ')) (_ : SimVs σ τ xs) : σ' = σ ∧ deleteX τ xs none = some (v, τ) := by
  unfold deleteX at h
  split at h <;> simp_all
theorem deleteX_wsl (σ : St) (sl : List V) (xs : List V) (rm : Option Nat) : deleteX (σ.wsl sl) xs rm = (deleteX σ xs rm).map fun p => (p.1, p.2.wsl sl) := by
  unfold deleteX
  split
  · rw [obj_wsl]
    split
    · split
      · rw [setObj_wsl]; rfl
      · rfl
    · rfl
  · rfl
section
variable {P : Program}
/-- what is asked of the program -/
structure DelLaid (P : Program) : Prop where
  mixed : P.follows .mixedOrders = true
  fi : P.funcs[93]? = some Go.Proofs.Tryz.f93
  t3 : P.underlying 3 = some (.int .i64)
  t4 : P.underlying 4 = some .bool
  ts : P.underlying 24 = some (.slice 3)
  ie : (P.info? 3).map (fun i => (i.zero, i.size, i.bytes)) = some (some (.int .i64 0), 1, 8)
theorem step_appR {ops : Array Oper} {o : Oper} {a : Act} {w : World} {K : Act → World → Prop} {Q : Exit → Act → World → Prop} {E : Prop}
    (hg : o.guard = none) (d x : Operand) (dT sT : TypeId) (hop : o.op = Op.call { callee := Callee.builtin Builtin.append, args := #[d, x], argTypes := #[dT, sT] })
    (v u : Value) (hd : a.eval d = v) (hx : a.eval x = u) {v' : Value} {w' : World} (hr : (Builtin.append_ #[dT, sT] o.type #[v, u]).run P w = .ok v' w') (hK : K (a.put o.dst v') w') :
    if Region.wanted o (yielded ops a.tmps) = true then Oper.wp P o a w K Q else E := by
  rw [if_pos (by simp [Region.wanted, hg])]
  unfold Oper.wp
  simp [execOp, hop, resolve, invoke, builtin, hd, hx, hr, Result.andThen]
  exact hK
theorem wpList_clearR (w : World) {ops : Array Oper} {rest : List Oper} {o : Oper} {a : Act} {Q : Exit → Act → World → Prop} (hgd : o.guard = none) (d : Operand) (t : TypeId)
    (ho : o.op = .call { callee := .builtin .clear, args := #[d], argTypes := #[t] }) (v : Value) (hd : a.eval d = v) {v' : Value} {w' : World}
    (hr : (Builtin.clear_ #[t] o.type #[v]).run P w = .ok v' w') (h : wpList P ops Q rest (a.put o.dst v') w') : wpList P ops Q (o :: rest) a w :=
  wpList_plain hgd fun _ hK => by
    unfold Oper.wp execOp
    simp only [ho, resolve, invoke, builtin, Sem.run_bind, Sem.run_pure, Result.andThen_ok, List.map_toArray, List.map_cons, List.map_nil, hd, hr]
    exact hK _ _ h
set_option maxHeartbeats 4000000 in
set_option maxRecDepth 100000 in
theorem del_calls (L : DelLaid P) (b off n c i : Nat) (vs : List Value) (w : World) (cells : Array Value) (el : TypeId) (hi : i < n) (hnc : n ≤ c) (hbig : n ≤ big) (hvl : vs.length = n) (hb : w.heap[b]? = some (.cells cells el (0, 0)))
    (hfit : off + c ≤ cells.size) (hvs : ∀ j v, vs[j]? = some v → w.cell? ⟨b, off + j, none⟩ = some v) (h1 : ∀ v ∈ vs, v.oneCell' = true) :
    Calls P 93 #[.slice (some ⟨b, off, none⟩) n c, .int .i64 i, .int .i64 ((i : Int) + 1)] w fun e w' =>
      e = .returned (.slice (some ⟨b, off, none⟩) (n - 1) c) ∧ ∃ r1 r2, r1 = (cells.toList.take (off + i * 1) ++ vs.drop (i + 1) ++ cells.toList.drop (off + i * 1 + (vs.drop (i + 1)).length)).toArray ∧
        r2 = (r1.toList.take (off + (n - 1)) ++ [Value.int .i64 0] ++ r1.toList.drop (off + (n - 1) + 1)).toArray ∧ w' = (w.drew.setRow b r1).setRow b r2 := by
  have t3 := L.t3; have t4 := L.t4; have ts := L.ts
  have u3 := run_underlying L.t3; have u4 := run_underlying L.t4; have us := run_underlying L.ts
  have mixed := L.mixed
  obtain ⟨i0, hi0, hz0, hzs, hzb⟩ := info_parts L.ie
  have zs : ∀ w, (Go.sizeOf 3).run P w = .ok 1 w := fun w => by simp [sizeOf, typeInfo, hi0, hzs]
  have hbig' : n ≤ 4294967296 := hbig
  obtain ⟨r1, hr1⟩ : ∃ r1, r1 = (cells.toList.take (off + i * 1) ++ vs.drop (i + 1) ++ cells.toList.drop (off + i * 1 + (vs.drop (i + 1)).length)).toArray := ⟨_, rfl⟩
  obtain ⟨r2, hr2⟩ : ∃ r2, r2 = (r1.toList.take (off + (n - 1)) ++ [Value.int .i64 0] ++ r1.toList.drop (off + (n - 1) + 1)).toArray := ⟨_, rfl⟩
  have hdl : (vs.drop (i + 1)).length = n - (i + 1) := by rw [List.length_drop, hvl]
  have hl1 : r1.size = cells.size := by rw [hr1]; simp [hdl]; omega
  have hsrc : ∀ A c', (A = if c = i + 1 then (some ⟨b, off, none⟩ : Option Addr) else some ⟨b, off + (i + 1), none⟩) → ∀ w', w'.heap = w.heap → (Builtin.firstCells 1 (n - (i + 1)) (.slice A (n - (i + 1)) c')).run P w' = .ok (vs.drop (i + 1)).toArray w' := fun A c' hA w' hw => by
    subst hA
    split
    · rename_i hce
      have h0 : n - (i + 1) = 0 := by omega
      have hd0 : vs.drop (i + 1) = [] := List.eq_nil_of_length_eq_zero (by rw [hdl]; exact h0)
      rw [hd0, h0]
      simp [Builtin.firstCells, loadCells, loadCellsFrom]
    · refine run_firstCells_some w' 1 (n - (i + 1)) ⟨b, off + (i + 1), none⟩ _ _ (vs.drop (i + 1)) (by rw [hdl]; omega) (fun j v hj => ?_)
      rw [Addr.add_none, Nat.add_assoc]
      rw [show w'.cell? _ = w.cell? _ from cell_of_heap (by rw [hw])]
      exact hvs (i + 1 + j) v (by rwa [List.getElem?_drop] at hj)
  have happ : ∀ ty c', (Builtin.append_ #[24, 24] ty #[.slice (some ⟨b, off, none⟩) i c, .slice (if c = i + 1 then (some ⟨b, off, none⟩ : Option Addr) else some ⟨b, off + (i + 1), none⟩) (n - (i + 1)) c']).run P w.drew = .ok (.slice (some ⟨b, off, none⟩) (i + (n - (i + 1))) c) (w.drew.setRow b r1) := fun ty c' => by
    have hin : off + i * 1 + (vs.drop (i + 1)).length ≤ cells.size := by omega
    have hst := run_storeCells_at P b (off + i * 1) el (vs.drop (i + 1)) 0 cells w.drew hb (by simpa using hin) (fun v hv => h1 v (List.mem_of_mem_drop hv))
    simp only [Nat.add_zero] at hst
    rw [← hr1] at hst
    exact run_app_fits (ty := ty) L.ts L.ts hi0 (by rw [hzs]; exact hsrc _ c' rfl w.drew rfl) (by omega) (by simp only [Addr.add_none, hzs]; exact hst)
  have hb1 : (w.drew.setRow b r1).heap[b]? = some (.cells r1 el (0, 0)) := setRow_heap w.drew b cells r1 el (0, 0) hb
  have hclr : ∀ ty c', (Builtin.clear_ #[24] ty #[.slice (some ⟨b, off + (n - 1), none⟩) (n - (n - 1)) c']).run P (w.drew.setRow b r1) = .ok (.tuple #[]) ((w.drew.setRow b r1).setRow b r2) := fun ty c' => by
    have e1 : i + (n - (i + 1)) = n - 1 := by omega
    have e2 : n - (n - 1) = 0 + 1 := by omega
    have hst := run_storeCells_at P b (off + (n - 1)) el [Value.int .i64 0] 0 r1 (w.drew.setRow b r1) hb1 (by simp; omega) (by simp [Value.oneCell'])
    simp only [Nat.add_zero, List.length_singleton] at hst
    rw [← hr2] at hst
    have hzc : (Builtin.zeroCells (Value.int .i64 0).cells (0 + 1)).toList = [Value.int .i64 0] := (zeros_eq _ _).trans rfl
    rw [← hzc] at hst
    rw [e2]
    simp [Builtin.clear_, us, zeroValue, typeInfo, hi0, hz0, hst]
    first | rfl | (simp only [Nat.zero_add] at hst; simp [hst]) | skip
  suffices h : Calls P 93 #[.slice (some ⟨b, off, none⟩) n c, .int .i64 i, .int .i64 ((i : Int) + 1)] w fun e w' => e = .returned (.slice (some ⟨b, off, none⟩) (n - 1) c) ∧ w' = (w.drew.setRow b r1).setRow b r2 from
    h.mono fun e w' ⟨h1, h2⟩ => ⟨h1, r1, r2, hr1, hr2, h2⟩
  have hne : ¬ ((i : Int) = (i : Int) + 1) := by omega
  have htn : ((i : Int) + 1).toNat = i + 1 := by omega
  have hic : i ≤ c := by omega
  have hjc : i + 1 ≤ n := by omega
  have hb0 : (0 : Int) ≤ (i : Int) + 1 := by omega
  have hb2 : (i : Int) + 1 ≤ (n : Int) := by omega
  have hb3 : (i : Int) ≤ (i : Int) + 1 := by omega
  have hb4 : (i : Int) ≤ (c : Int) := by omega
  have e1 : i + (n - (i + 1)) = n - 1 := by omega
  clear hr1 hr2 hvs hsrc
  go_enter L.fi, Go.Proofs.Tryz.ntmps93
  go_wp2_with fail
  go_region_law_o (refine step_appR rfl _ _ 24 24 rfl _ _ (by simp [Act.eval, Act.put]) (by simp [Act.eval, Act.put]) (happ _ (c - (i + 1))) ?_)
  go_wp2_with (at_builtin; refine wpList_clearR _ rfl _ 24 rfl _ rfl (hclr _ _) ?_)
  all_goals (go_ret; exact ⟨rfl, rfl⟩)
theorem delA_length {α : Type} {l : List α} {i : Nat} {z : α} (h : i < l.length) : (delA l i z).length = l.length := by
  simp only [delA, List.length_append, List.length_take, List.length_drop, List.length_singleton]; omega
theorem del_cells {cells vs : List Value} {off i n : Nat} {z : Value} (hvl : vs.length = n) (hi : i < n) (hfit : off + n ≤ cells.length) (hvs : ∀ j, j < n → cells[off + j]? = vs[j]?) {r1 r2 : List Value}
    (h1 : r1 = cells.take (off + i * 1) ++ vs.drop (i + 1) ++ cells.drop (off + i * 1 + (vs.drop (i + 1)).length)) (h2 : r2 = r1.take (off + (n - 1)) ++ [z] ++ r1.drop (off + (n - 1) + 1)) :
    r1.length = cells.length ∧ r2.length = cells.length ∧ ∀ j, j < n → r2[off + j]? = (delA vs i z)[j]? := by
  have hdl : (vs.drop (i + 1)).length = n - (i + 1) := by rw [List.length_drop, hvl]
  have l1 : r1.length = cells.length := by
    rw [h1]; simp only [List.length_append, List.length_take, List.length_drop, hvl]; omega
  have l2 : r2.length = cells.length := by
    rw [h2]; simp only [List.length_append, List.length_take, List.length_drop, List.length_singleton, l1]; omega
  refine ⟨l1, l2, fun j hj => ?_⟩
  have t1 : (r1.take (off + (n - 1))).length = off + (n - 1) := by rw [List.length_take, l1]; omega
  have t2 : (cells.take (off + i * 1)).length = off + i := by rw [List.length_take]; omega
  have t3 : (vs.take i).length = i := by rw [List.length_take]; omega
  by_cases hl : j = n - 1
  · subst hl
    have e1 : r2[off + (n - 1)]? = some z := by
      rw [h2, List.append_assoc, List.getElem?_append_right (by omega), t1]
      simp
    have e2 : (delA vs i z)[n - 1]? = some z := by
      unfold delA
      rw [List.getElem?_append_right (by rw [List.length_append, t3, hdl]; omega), List.length_append, t3, hdl]
      rw [show n - 1 - (i + (n - (i + 1))) = 0 by omega]
      rfl
    rw [e1, e2]
  · have hj1 : j < n - 1 := by omega
    have e1 : r2[off + j]? = r1[off + j]? := by
      rw [h2, List.append_assoc, List.getElem?_append_left (by omega), List.getElem?_take_of_lt (by omega)]
    have e2 : (delA vs i z)[j]? = (vs.take i ++ vs.drop (i + 1))[j]? := by
      unfold delA
      rw [List.getElem?_append_left (by rw [List.length_append, t3, hdl]; omega)]
    rw [e1, e2, h1, List.append_assoc]
    by_cases hji : j < i
    · rw [List.getElem?_append_left (by omega), List.getElem?_take_of_lt (by omega), List.getElem?_append_left (by omega), List.getElem?_take_of_lt hji]
      exact hvs j hj
    · rw [List.getElem?_append_right (by omega), t2, List.getElem?_append_left (by rw [hdl]; omega), List.getElem?_append_right (by omega), t3]
      rw [show off + j - (off + i) = j - i by omega]
def encT : T → Value
  | .int k n => .int k n
  | _ => undef
theorem intDen {w : World} {ok : Nat → Prop} : ∀ (es : List T) (vs : List Value), es.all isI64 = true → DenF w ok 1 es vs → vs = es.map encT
  | [], vs, _, h => by simpa [DenF] using h
  | e :: es, _, ha, h => by
    obtain ⟨a, b, rfl, hl, hd, hr⟩ := h
    simp only [List.all_cons, Bool.and_eq_true] at ha
    rw [intDen es b ha.2 hr]
    cases e with
    | int k n => simp only [DenC] at hd; rw [hd]; rfl
    | _ => simp [isI64] at ha
theorem intMk {w : World} {ok : Nat → Prop} : ∀ (es : List T), es.all isI64 = true → DenF w ok 1 es (es.map encT)
  | [], _ => rfl
  | e :: es, ha => by
    simp only [List.all_cons, Bool.and_eq_true] at ha
    refine ⟨[encT e], es.map encT, rfl, rfl, ?_, intMk es ha.2⟩
    cases e with
    | int k n => simp [DenC, encT]
    | _ => simp [isI64] at ha
theorem int_one : ∀ (es : List T), es.all isI64 = true → ∀ v ∈ es.map encT, v.oneCell' = true
  | [], _, v, hv => by cases hv
  | e :: es, ha, v, hv => by
    simp only [List.all_cons, Bool.and_eq_true] at ha
    rcases List.mem_cons.1 hv with rfl | hv
    · cases e with
      | int k n => rfl
      | _ => simp [isI64] at ha
    · exact int_one es ha.2 v hv
theorem delete_ext (L : DelLaid P) (hen : enters P 93 = true) : ExtSem P 93 deleteX := by
  intro σ xs rm v σ' g tmps rts w args hX R hv
  unfold deleteX at hX
  split at hX
  · rename_i l n lo len s p1 i p2 j b0
    split at hX
    · rename_i s1 es hobj
      split at hX
      · rename_i hc
        obtain ⟨rfl, rfl, rfl, rfl, hi, rfl, hlen, hbig, hall⟩ := hc
        cases hX
        obtain ⟨q1, r1, hq, hv1, q2, r2, rfl, hv2, q3, r3, rfl, hv3, hnil⟩ := hv
        have hnil : r3 = [] := hnil
        subst hnil
        obtain ⟨_, A, c, rfl, hr⟩ := hv1
        have hq2 := hv2.int
        have hq3 := hv3.int
        subst hq2; subst hq3
        have hargs : args = #[.slice A len c, .int .i64 i, .int .i64 ((i : Int) + 1)] := by
          apply Array.ext'
          rw [hq]; rfl
        subst hargs
        have e1 : σ.up.length + 1 - 1 - 0 = σ.up.length := by omega
        rw [e1] at hr
        have hO : σ.O σ.up.length n = some (.rw 1 es false) := by have := St.O_obj σ 0 n (Nat.zero_le _); simpa using this.trans hobj
        simp only [RowV, hO] at hr
        obtain ⟨_, _, hlc, hr⟩ := hr
        rcases hr with hr | ⟨b, o, rfl, hown, _, hpos⟩
        · omega
        rcases hpos with ⟨rfl, ho, hcap⟩ | ⟨hg, _⟩
        · rcases R.ob σ.up.length n _ (by omega) hO with ⟨he, _⟩ | ⟨_, h2, cells, el, hh, hroom, hden⟩
          · rw [he] at hlen; simp at hlen; omega
          have ho : o = (g.loc σ.up.length n).2.1 := by omega
          subst ho
          obtain ⟨vs, hf, hcell⟩ := DenF.ofRow es _ hden
          have hvs := intDen es vs hall hf
          have hvl : vs.length = len := by rw [hvs, List.length_map, hlen]
          have hcl : ∀ j, j < len → cells.toList[(g.loc σ.up.length n).2.1 + j]? = vs[j]? := fun j hj => by
            have := hcell j (by omega)
            simpa [World.cell?, hh] using this
          have hnok : ¬ g.ok (g.loc σ.up.length n).1 := (R.own _ _ _ hown).2.1
          refine CallSem.of 93 hen ((del_calls L (g.loc σ.up.length n).1 (g.loc σ.up.length n).2.1 len c i vs w cells el hi hlc hbig hvl hh (by omega) (fun j v hj => by
            have hlt : j < vs.length := (List.getElem?_eq_some_iff.1 hj).1
            rw [hcell j hlt]; exact hj) (by rw [hvs]; exact int_one es hall)).mono ?_)
          rintro e w' ⟨rfl, r1, r2, hr1, hr2, rfl⟩
          refine ⟨_, rfl, ?_⟩
          have hr1l : r1.toList = cells.toList.take ((g.loc σ.up.length n).2.1 + i * 1) ++ vs.drop (i + 1) ++ cells.toList.drop ((g.loc σ.up.length n).2.1 + i * 1 + (vs.drop (i + 1)).length) := by rw [hr1]
          have hr2l : r2.toList = r1.toList.take ((g.loc σ.up.length n).2.1 + (len - 1)) ++ [Value.int .i64 0] ++ r1.toList.drop ((g.loc σ.up.length n).2.1 + (len - 1) + 1) := by rw [hr2]
          obtain ⟨l1, l2, hcells⟩ := del_cells (z := .int .i64 0) hvl hi (by rw [Array.length_toList]; omega) hcl hr1l hr2l
          have hother : ∀ d, d ≠ (g.loc σ.up.length n).1 → ((w.drew.setRow (g.loc σ.up.length n).1 r1).setRow (g.loc σ.up.length n).1 r2).heap[d]? = w.heap[d]? := fun d hd => (setRow_other _ _ _ _ hd).trans (setRow_other _ _ _ _ hd)
          have hh1 := setRow_heap w.drew (g.loc σ.up.length n).1 _ r1 _ _ hh
          have hh2 := setRow_heap (w.drew.setRow (g.loc σ.up.length n).1 r1) (g.loc σ.up.length n).1 _ r2 _ _ hh1
          have hsz : ((w.drew.setRow (g.loc σ.up.length n).1 r1).setRow (g.loc σ.up.length n).1 r2).heap.size = w.heap.size := by simp [World.setRow]
          have hall2 : (delA es i (.int .i64 0)).all isI64 = true := by
            rw [List.all_eq_true] at hall ⊢
            intro x hx
            simp only [delA, List.mem_append, List.mem_singleton] at hx
            rcases hx with (hx | hx) | rfl
            · exact hall x (List.mem_of_mem_take hx)
            · exact hall x (List.mem_of_mem_drop hx)
            · rfl
          have hdl : (delA es i (.int .i64 0)).length = len := by rw [delA_length (by omega), hlen]
          have hmap : (delA es i (.int .i64 0)).map encT = delA vs i (.int .i64 0) := by
            rw [hvs]; simp [delA, encT]
          have hden2 : DenR ((w.drew.setRow (g.loc σ.up.length n).1 r1).setRow (g.loc σ.up.length n).1 r2) g.ok (g.loc σ.up.length n).1 1 (g.loc σ.up.length n).2.1 (delA es i (.int .i64 0)) := by
            refine DenF.row (w := w) (fun d hd => hother d (by rintro rfl; exact hnok hd)) _ _ _ (intMk _ hall2) (fun j hj => ?_)
            rw [List.length_map, hdl] at hj
            rw [hmap, ← hcells j hj]
            simp [World.cell?, hh2]
          have hset := St.O_setObj σ 0 n (some (.rw 1 (delA es i (.int .i64 0)) false)) (Nat.zero_le _) σ.up.length n
          simp only [Nat.sub_zero, and_self, if_true] at hset
          have R2 := Rel.row (l := 0) (es' := delA es i (.int .i64 0)) (gr' := false) (elem := el) R (Nat.zero_le _) hobj (by simpa using hown) hsz (by simpa using hother) (by simpa using hh2) (by
            simp only [Nat.sub_zero]
            have : r2.size = cells.size := by rw [← Array.length_toList, l2, Array.length_toList]
            rw [this]; exact hroom) (by simp only [Nat.sub_zero]; rw [hdl]; omega) (by rw [hdl, hlen]; exact Nat.le_refl _) (fun h => by cases h) (by simpa using hden2)
          refine ⟨g, R2, ⟨by omega, _, c, rfl, ?_⟩, Adv.own hown hsz hother rfl rfl rfl, by rw [St.up_setObj0]⟩
          rw [St.up_setObj0, e1]
          simp only [RowV, hset]
          refine ⟨trivial, by omega, by omega, .inr ⟨_, _, rfl, hown, ?_, .inl ⟨rfl, by omega, by omega⟩⟩⟩
          have := hden2.slice (lo := 0) (len := len - 1)
          simpa using this
        · cases hg
      · cases hX
    · cases hX
  · cases hX
end
end Go.Proofs.YtcgjebaomhfbdaaGreat.Vm
