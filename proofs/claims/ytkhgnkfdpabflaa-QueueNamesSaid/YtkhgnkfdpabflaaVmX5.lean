/- What Go's Insert of one element of two numbers does. (48, 50, 46, 62, Try: the seat's numbers.) -/
import Derived.Test.YtkhgnkfdpabflaaVmP4
import Derived.Test.YtkhgnkfdpabflaaProg
import Derived.Shelf.RegionOpenPlain
import Derived.WalkKit
import Derived.Lib.Walk
import Derived.Lib.SliceRun
import Derived.Lib.JoinLaws
import Derived.Lib.AppendZeros
import Derived.Lib.AppendZerosOnto
import Derived.Lib.Overlaps
import Derived.Laws.Externs
import Derived.Laws.IdiomCopy
namespace Go.Proofs.Ytkhgnkfdpabflaa.Vm
open Go Go.Shelf Go.RowKit Go.Lib
set_option linter.unusedVariables false
set_option linter.unusedSimpArgs false
section
variable {P : Program}
structure InsLaid (P : Program) : Prop where
  mixed : P.follows .mixedOrders = true
  fi : P.funcs[46]? = some Go.Proofs.Try.f46
  fo : P.funcs[62]? = some Go.Proofs.Try.f62
  t3 : P.underlying 3 = some (.int .i64)
  t4 : P.underlying 4 = some .bool
  ts : P.underlying 48 = some (.slice 50)
  ie : (P.info? 50).map (fun i => (i.zero, i.size, i.bytes)) = some (some (.agg #[.int .i64 0, .int .i64 0]), 2, 16)
theorem run_copyR (w : World) (dT sT ty elem : TypeId) (g o dLen dCap : Nat) (a : Addr) (sLen sCap s : Nat) (cur : Array Value) (t : TypeId) (cs : List Value)
    (hu : P.underlying dT = some (.slice elem)) (hs : (P.info? elem).map (·.size) = some s)
    (hg : w.heap[g]? = some (.cells cur t (0, 0))) (hn : cs.length = Nat.min sLen dLen * s)
    (hsrc : ∀ j v, cs[j]? = some v → w.cell? (a.add j) = some v) (hfit : o + cs.length ≤ cur.size) (h1 : ∀ v ∈ cs, v.oneCell' = true) :
    (Builtin.copy_ #[dT, sT] ty #[.slice (some ⟨g, o, none⟩) dLen dCap, .slice (some a) sLen sCap]).run P w =
      .ok (goInt (Nat.min sLen dLen)) (w.setRow g (cur.toList.take o ++ cs ++ cur.toList.drop (o + cs.length)).toArray) := by
  have hl := run_loadCells_list (P := P) w a cs hsrc
  have hst := run_storeCells_at P g o t cs 0 cur w hg (by simpa using hfit) h1
  cases hq : P.info? elem with
  | none => simp [hq] at hs
  | some i =>
    have hi : i.size = s := by simpa [hq] using hs
    simp [Builtin.copy_, run_underlying hu, Builtin.lenOf, Builtin.firstCells, sizeOf, typeInfo, hq, hi, ← hn, hl, hst]
theorem step_copyR {ops : Array Oper} {o : Oper} {a : Act} {w : World} {K : Act → World → Prop} {Q : Exit → Act → World → Prop} {E : Prop}
    (hg : o.guard = none) (d x : Operand) (dT sT : TypeId) (hop : o.op = Op.call { callee := Callee.builtin Builtin.copy, args := #[d, x], argTypes := #[dT, sT] })
    (v u : Value) (hd : a.eval d = v) (hx : a.eval x = u) {v' : Value} {w' : World} (hr : (Builtin.copy_ #[dT, sT] o.type #[v, u]).run P w = .ok v' w') (hK : K (a.put o.dst v') w') :
    if Region.wanted o (yielded ops a.tmps) = true then Oper.wp P o a w K Q else E := by
  rw [if_pos (by simp [Region.wanted, hg])]
  unfold Oper.wp
  simp [execOp, hop, resolve, invoke, builtin, hd, hx, hr, Result.andThen]
  exact hK
theorem wpList_copyR (w : World) {ops : Array Oper} {rest : List Oper} {o : Oper} {a : Act} {Q : Exit → Act → World → Prop} (hgd : o.guard = none) (d s : Operand) (t t' : TypeId)
    (ho : o.op = .call { callee := .builtin .copy, args := #[d, s], argTypes := #[t, t'] }) (v u : Value) (hd : a.eval d = v) (hs : a.eval s = u) {v' : Value} {w' : World}
    (hr : (Builtin.copy_ #[t, t'] o.type #[v, u]).run P w = .ok v' w') (h : wpList P ops Q rest (a.put o.dst v') w') : wpList P ops Q (o :: rest) a w :=
  wpList_plain hgd fun _ hK => by
    unfold Oper.wp execOp
    simp only [ho, resolve, invoke, builtin, Sem.run_bind, Sem.run_pure, Result.andThen_ok, List.map_toArray, List.map_cons, List.map_nil, hd, hs, hr]
    exact hK _ _ h
set_option maxHeartbeats 4000000 in
set_option maxRecDepth 100000 in
theorem ins_shift (L : InsLaid P) (b off n c i vb vo vc : Nat) (cs vs : List Value) (w : World) (cells vcs : Array Value) (el vel : TypeId) (hi : i < n) (hroom : n + 1 ≤ c) (hbig : n < big) (hvb : vb ≠ b)
    (hcl : cs.length = n * 2) (hvl : vs.length = 2) (hb : w.heap[b]? = some (.cells cells el (0, 0))) (hfit : off + c * 2 ≤ cells.size) (hv : w.heap[vb]? = some (.cells vcs vel (0, 0))) (hvfit : vo + 2 ≤ vcs.size)
    (hcs : ∀ j v, cs[j]? = some v → w.cell? ⟨b, off + j, none⟩ = some v) (hvs : ∀ j v, vs[j]? = some v → w.cell? ⟨vb, vo + j, none⟩ = some v) (h1c : ∀ v ∈ cs, v.oneCell' = true) (h1v : ∀ v ∈ vs, v.oneCell' = true) :
    Calls P 46 #[.slice (some ⟨b, off, none⟩) n c, .int .i64 i, .slice (some ⟨vb, vo, none⟩) 1 vc] w fun e w' =>
      e = .returned (.slice (some ⟨b, off, none⟩) (n + 1) c) ∧ ∃ r1 r2, r1 = (cells.toList.take (off + (i + 1) * 2) ++ cs.drop (i * 2) ++ cells.toList.drop (off + (i + 1) * 2 + (cs.drop (i * 2)).length)).toArray ∧
        r2 = (r1.toList.take (off + i * 2) ++ vs ++ r1.toList.drop (off + i * 2 + vs.length)).toArray ∧ w' = (w.drew.setRow b r1).setRow b r2 := by
  have t3 := L.t3; have t4 := L.t4; have ts := L.ts
  have u3 := run_underlying L.t3; have u4 := run_underlying L.t4; have us := run_underlying L.ts
  have mixed := L.mixed
  obtain ⟨i0, hi0, hz0, hzs, hzb⟩ := info_parts L.ie
  have zs : ∀ w, (Go.sizeOf 50).run P w = .ok 2 w := fun w => by simp [sizeOf, typeInfo, hi0, hzs]
  have hsz : (P.info? 50).map (·.size) = some 2 := by rw [hi0]; simp [hzs]
  have hz2 : ¬ ((i : Int) = (n : Int)) := by omega
  have hbig' : n < 4294967296 := hbig
  have hsa : w.shape? vb = some (vel, vcs.size) := by simp [World.shape?, hv]
  have hsb : w.shape? b = some (el, cells.size) := by simp [World.shape?, hb]
  have hfa : w.frozen? ⟨vb, vo, none⟩ = false := by simp [World.frozen?, hv]
  have hfe : w.frozen? ⟨vb, vcs.size, none⟩ = false := by simp [World.frozen?, hv]
  have hov : ∀ lb cb o, (callFunc 62 #[.slice (some ⟨vb, vo, none⟩) 1 vc, .slice (some ⟨b, o, none⟩) lb cb]).run P w = .ok (.value (.bool false)) w := fun lb cb o => by
    rw [run_callFunc_extern L.fo (by kernel_rfl) (by kernel_rfl) (by kernel_rfl) (e := Extern.SlicesOverlaps.overlaps #[48, 48] #[4]) (by kernel_rfl),
      Lib.run_overlaps_apart w 48 4 50 L.ts 2 zs ⟨vb, vo, none⟩ ⟨b, o, none⟩ 1 vc lb cb hvb vel el vcs.size cells.size hsa hsb (by omega) hfa hfe]
    rfl
  have hdl : (cs.drop (i * 2)).length = (n - i) * 2 := by rw [List.length_drop, hcl]; omega
  have hw1 : IntKind.i64.wrap ((i : Int) + 1) = (i : Int) + 1 := by rw [IntKind.wrap_i64]; omega
  have hw2 : IntKind.i64.wrap ((n : Int) + 1) = (n : Int) + 1 := by rw [IntKind.wrap_i64]; omega
  have htn : ((i : Int) + 1).toNat = i + 1 := by omega
  have htn2 : ((n : Int) + 1).toNat = n + 1 := by omega
  have hb0 : (0 : Int) ≤ (i : Int) + 1 := by omega
  have hin : i ≤ n := by omega
  have hb2 : ¬ (c = i + 1) := by omega
  have hb4 : ¬ (c = i) := by omega
  have hb3 : (i : Int) ≤ (n : Int) + 1 := by omega
  obtain ⟨r1, hr1⟩ : ∃ r1, r1 = (cells.toList.take (off + (i + 1) * 2) ++ cs.drop (i * 2) ++ cells.toList.drop (off + (i + 1) * 2 + (cs.drop (i * 2)).length)).toArray := ⟨_, rfl⟩
  obtain ⟨r2, hr2⟩ : ∃ r2, r2 = (r1.toList.take (off + i * 2) ++ vs ++ r1.toList.drop (off + i * 2 + vs.length)).toArray := ⟨_, rfl⟩
  have hl1 : r1.size = cells.size := by rw [hr1]; simp [hdl]; omega
  have hcp1 : ∀ ty dc sc, (Builtin.copy_ #[48, 48] ty #[.slice (some ⟨b, off + (i + 1) * 2, none⟩) (n - i) dc, .slice (some ⟨b, off + i * 2, none⟩) (n + 1 - i) sc]).run P w.drew = .ok (goInt (Nat.min (n + 1 - i) (n - i))) (w.drew.setRow b r1) := fun ty dc sc => by
    rw [hr1]
    exact run_copyR w.drew 48 48 ty 50 b (off + (i + 1) * 2) (n - i) dc ⟨b, off + i * 2, none⟩ (n + 1 - i) sc 2 cells el (cs.drop (i * 2)) L.ts hsz hb (by rw [hdl]; simp only [Nat.min_def]; split <;> omega)
      (fun j v hj => by rw [Addr.add_none, Nat.add_assoc]; exact hcs (i * 2 + j) v (by rwa [List.getElem?_drop] at hj)) (by rw [hdl]; omega) (fun v hv => h1c v (List.mem_of_mem_drop hv))
  have hb1 : (w.drew.setRow b r1).heap[b]? = some (.cells r1 el (0, 0)) := setRow_heap w.drew b cells r1 el (0, 0) hb
  have hcp2 : ∀ ty dc, (Builtin.copy_ #[48, 48] ty #[.slice (some ⟨b, off + i * 2, none⟩) (n + 1 - i) dc, .slice (some ⟨vb, vo, none⟩) 1 vc]).run P (w.drew.setRow b r1) = .ok (goInt (Nat.min 1 (n + 1 - i))) ((w.drew.setRow b r1).setRow b r2) := fun ty dc => by
    rw [hr2]
    exact run_copyR (w.drew.setRow b r1) 48 48 ty 50 b (off + i * 2) (n + 1 - i) dc ⟨vb, vo, none⟩ 1 vc 2 r1 el vs L.ts hsz hb1 (by rw [hvl]; simp only [Nat.min_def]; split <;> omega)
      (fun j v hj => by rw [Addr.add_none, cell_setRow_other _ _ _ _ hvb]; exact hvs j v hj) (by rw [hvl, hl1]; omega) h1v
  suffices h : Calls P 46 #[.slice (some ⟨b, off, none⟩) n c, .int .i64 i, .slice (some ⟨vb, vo, none⟩) 1 vc] w fun e w' => e = .returned (.slice (some ⟨b, off, none⟩) (n + 1) c) ∧ w' = (w.drew.setRow b r1).setRow b r2 from
    h.mono fun e w' ⟨h1, h2⟩ => ⟨h1, r1, r2, hr1, hr2, h2⟩
  clear hr1 hr2
  go_enter L.fi, Go.Proofs.Try.ntmps46
  go_wp2_with (simp only [hov])
  go_region_law_o (refine step_copyR rfl _ _ 48 48 rfl _ _ (by simp [Act.eval, Act.put]) (by simp [Act.eval, Act.put]) (hcp1 _ _ _) ?_)
  go_wp2_with (at_builtin; refine wpList_copyR _ rfl _ _ 48 48 rfl _ _ rfl rfl (hcp2 _ _) ?_)
  go_ret
  exact ⟨rfl, rfl⟩
set_option maxHeartbeats 4000000 in
set_option maxRecDepth 100000 in
theorem ins_end (L : InsLaid P) (A : Option Addr) (n c vb vo vc : Nat) (w w1 : World) (r : Value)
    (hrun : ∀ ty, (Builtin.append_ #[48, 48] ty #[.slice A n c, .slice (some ⟨vb, vo, none⟩) 1 vc]).run P w = .ok r w1) :
    Calls P 46 #[.slice A n c, .int .i64 n, .slice (some ⟨vb, vo, none⟩) 1 vc] w fun e w' => e = .returned r ∧ w' = w1 := by
  have t3 := L.t3; have t4 := L.t4; have ts := L.ts
  have u3 := run_underlying L.t3; have u4 := run_underlying L.t4; have us := run_underlying L.ts
  have mixed := L.mixed
  obtain ⟨i0, hi0, hz0, hzs, hzb⟩ := info_parts L.ie
  have zs : ∀ w, (Go.sizeOf 50).run P w = .ok 2 w := fun w => by simp [sizeOf, typeInfo, hi0, hzs]
  have hb3 : (n : Int) ≤ (n : Int) := by omega
  cases A with
  | none =>
    go_enter L.fi, Go.Proofs.Try.ntmps46
    go_wp2_with (at_builtin; refine Lib.wpList_append_run _ rfl _ _ _ _ rfl _ _ rfl rfl _ _ (hrun _) ?_)
    all_goals (go_ret; exact ⟨rfl, rfl⟩)
  | some a =>
    obtain ⟨ab, ao, asp⟩ := a
    go_enter L.fi, Go.Proofs.Try.ntmps46
    go_wp2_with (at_builtin; refine Lib.wpList_append_run _ rfl _ _ _ _ rfl _ _ rfl rfl _ _ (hrun _) ?_)
    all_goals (go_ret; exact ⟨rfl, rfl⟩)
set_option maxHeartbeats 4000000 in
set_option maxRecDepth 100000 in
theorem ins_grow (L : InsLaid P) (b off n c i vb vo vc : Nat) (cs vs : List Value) (w : World) (vcs : Array Value) (vel : TypeId) (hi : i < n) (hroom : c < n + 1) (hnc : n ≤ c) (hbig : n < big)
    (hcl : cs.length = n * 2) (hvl : vs.length = 2) (hbw : b < w.heap.size) (hvw : vb < w.heap.size)
    (hcs : ∀ j v, cs[j]? = some v → w.cell? ⟨b, off + j, none⟩ = some v) (hvs : ∀ j v, vs[j]? = some v → w.cell? ⟨vb, vo + j, none⟩ = some v) (h1c : ∀ v ∈ cs, v.oneCell' = true) (h1v : ∀ v ∈ vs, v.oneCell' = true) :
    Calls P 46 #[.slice (some ⟨b, off, none⟩) n c, .int .i64 i, .slice (some ⟨vb, vo, none⟩) 1 vc] w fun e w' =>
      ∃ G r0 r1 r2, n + 1 ≤ G ∧ r0.size = G * 2 ∧ r0.toList.take (i * 2) = cs.take (i * 2) ∧ r1 = (r0.toList.take (i * 2) ++ vs ++ r0.toList.drop (i * 2 + vs.length)).toArray ∧
        r2 = (r1.toList.take ((i + 1) * 2) ++ cs.drop (i * 2) ++ r1.toList.drop ((i + 1) * 2 + (cs.drop (i * 2)).length)).toArray ∧
      e = .returned (.slice (some ⟨w.heap.size, 0, none⟩) (n + 1) G) ∧ w' = (((w.drew.alloc (.cells r0 50)).setRow w.heap.size r1).drew).setRow w.heap.size r2 := by
  have t3 := L.t3; have t4 := L.t4; have ts := L.ts
  have u3 := run_underlying L.t3; have u4 := run_underlying L.t4; have us := run_underlying L.ts
  have mixed := L.mixed
  obtain ⟨i0, hi0, hz0, hzs, hzb⟩ := info_parts L.ie
  have zs : ∀ w, (Go.sizeOf 50).run P w = .ok 2 w := fun w => by simp [sizeOf, typeInfo, hi0, hzs]
  have hsz : (P.info? 50).map (·.size) = some 2 := by rw [hi0]; simp [hzs]
  have hbig' : n < 4294967296 := hbig
  have hz2 : ¬ ((i : Int) = (n : Int)) := by omega
  have hz3 : (c : Int) < (n : Int) + 1 := by omega
  have hkk : (n : Int) + 1 - (i : Int) = ((n + 1 - i : Nat) : Int) := by omega
  have hik : i + (n + 1 - i) = n + 1 := by omega
  have hold : (Builtin.firstCells i0.size i (.slice (some ⟨b, off, none⟩) i c)).run P w.drew = .ok (cs.take (i * 2)).toArray w.drew := by
    rw [hzs]
    exact run_firstCells_some w.drew 2 i ⟨b, off, none⟩ i c (cs.take (i * 2)) (by rw [List.length_take]; omega) (fun j v hj => by
      rw [Addr.add_none]
      rw [List.getElem?_take] at hj
      split at hj
      · exact hcs j v hj
      · cases hj)
  obtain ⟨G, hG⟩ : ∃ G, G = grownCap w (n + 1) c 50 := ⟨_, rfl⟩
  obtain ⟨r0, hr0⟩ : ∃ r0 : Array Value, r0 = (cs.take (i * 2)).toArray ++ Builtin.zeroCells (Value.agg #[.int .i64 0, .int .i64 0]).cells (n + 1 - i) ++ Builtin.zeroCells (Value.agg #[.int .i64 0, .int .i64 0]).cells (G - (n + 1)) := ⟨_, rfl⟩
  have hGn : n + 1 ≤ G := by rw [hG]; exact grownCap_ge w _ _ _
  have hrz : ∀ ty, (Builtin.append_ #[48, 3] ty #[.slice (some ⟨b, off, none⟩) i c, .int .i64 ((n : Int) + 1 - (i : Int))]).run P w = .ok (.slice (some ⟨w.heap.size, 0, none⟩) (n + 1) G) (w.drew.alloc (.cells r0 50)) := fun ty => by
    have h := Lib.run_append_grow_zeros w 48 3 ty 50 i0 _ .i64 .i64 L.ts L.t3 hi0 hz0 (some ⟨b, off, none⟩) i c (cs.take (i * 2)) hold (n + 1 - i) (by omega) (by omega) (by omega) (by omega) (by rw [hzb]; omega) (by rw [hzb, hik]; exact growslice_fits hroom (by omega))
    rw [hik] at h
    rw [hkk, hr0, hG]
    exact h
  have hr0s : r0.size = G * 2 := by
    rw [hr0]
    simp [Builtin.zeroCells, Value.cells]
    omega
  have hr0t : r0.toList.take (i * 2) = cs.take (i * 2) := by
    rw [hr0]
    simp only [Array.toList_append, List.append_assoc]
    rw [List.take_append_of_le_length (by rw [List.length_take]; omega), List.take_take, Nat.min_self]
  obtain ⟨r1, hr1⟩ : ∃ r1, r1 = (r0.toList.take (i * 2) ++ vs ++ r0.toList.drop (i * 2 + vs.length)).toArray := ⟨_, rfl⟩
  obtain ⟨r2, hr2⟩ : ∃ r2, r2 = (r1.toList.take ((i + 1) * 2) ++ cs.drop (i * 2) ++ r1.toList.drop ((i + 1) * 2 + (cs.drop (i * 2)).length)).toArray := ⟨_, rfl⟩
  have hdl : (cs.drop (i * 2)).length = (n - i) * 2 := by rw [List.length_drop, hcl]; omega
  have hl1 : r1.size = r0.size := by rw [hr1]; simp [hvl]; omega
  obtain ⟨W0, hW0⟩ : ∃ W0, W0 = w.drew.alloc (.cells r0 50) := ⟨_, rfl⟩
  have hh0 : W0.heap[w.heap.size]? = some (.cells r0 50 (0, 0)) := by rw [hW0]; exact push_new (w := w.drew) (w' := w.drew.alloc _) rfl
  have hc0 : ∀ d j, d < w.heap.size → W0.cell? ⟨d, j, none⟩ = w.cell? ⟨d, j, none⟩ := fun d j hd => by
    rw [hW0]
    exact cell_of_heap (w := w) (push_old (w := w.drew) (w' := w.drew.alloc _) rfl hd)
  have hcp1 : ∀ ty dc, (Builtin.copy_ #[48, 48] ty #[.slice (some ⟨w.heap.size, i * 2, none⟩) (n + 1 - i) dc, .slice (some ⟨vb, vo, none⟩) 1 vc]).run P W0 = .ok (goInt (Nat.min 1 (n + 1 - i))) (W0.setRow w.heap.size r1) := fun ty dc => by
    rw [hr1]
    exact run_copyR W0 48 48 ty 50 w.heap.size (i * 2) (n + 1 - i) dc ⟨vb, vo, none⟩ 1 vc 2 r0 50 vs L.ts hsz hh0 (by rw [hvl]; simp only [Nat.min_def]; split <;> omega)
      (fun j v hj => by rw [Addr.add_none, hc0 _ _ hvw]; exact hvs j v hj) (by rw [hvl, hr0s]; omega) h1v
  have hh1 : (W0.setRow w.heap.size r1).drew.heap[w.heap.size]? = some (.cells r1 50 (0, 0)) := setRow_heap W0 w.heap.size r0 r1 50 (0, 0) hh0
  have hcp2 : ∀ ty dc sc, (Builtin.copy_ #[48, 48] ty #[.slice (some ⟨w.heap.size, (i + 1) * 2, none⟩) (n - i) dc, .slice (some ⟨b, off + i * 2, none⟩) (n - i) sc]).run P (W0.setRow w.heap.size r1).drew = .ok (goInt (Nat.min (n - i) (n - i))) ((W0.setRow w.heap.size r1).drew.setRow w.heap.size r2) := fun ty dc sc => by
    rw [hr2]
    exact run_copyR _ 48 48 ty 50 w.heap.size ((i + 1) * 2) (n - i) dc ⟨b, off + i * 2, none⟩ (n - i) sc 2 r1 50 (cs.drop (i * 2)) L.ts hsz hh1 (by rw [hdl]; simp only [Nat.min_def]; split <;> omega)
      (fun j v hj => by
        rw [Addr.add_none, Nat.add_assoc]
        show (W0.setRow w.heap.size r1).cell? _ = _
        rw [cell_setRow_other _ _ _ _ (show b ≠ w.heap.size by omega), hc0 _ _ hbw]
        exact hcs (i * 2 + j) v (by rwa [List.getElem?_drop] at hj)) (by rw [hdl, hl1, hr0s]; omega) (fun v hv => h1c v (List.mem_of_mem_drop hv))
  have hw1 : IntKind.i64.wrap ((i : Int) + 1) = (i : Int) + 1 := by rw [IntKind.wrap_i64]; omega
  have hw2 : IntKind.i64.wrap ((n : Int) + 1) = (n : Int) + 1 := by rw [IntKind.wrap_i64]; omega
  have hw3 : IntKind.i64.wrap ((n : Int) + 1 - (i : Int)) = (n : Int) + 1 - (i : Int) := by rw [IntKind.wrap_i64]; omega
  have htn : ((i : Int) + 1).toNat = i + 1 := by omega
  have hb0 : (0 : Int) ≤ (i : Int) + 1 := by omega
  have hin : i ≤ n := by omega
  have hGi : ¬ (G = i) := by omega
  have hGim : ¬ (G = i + 1) := by omega
  have hci : ¬ (c = i) := by omega
  have hb3 : (i : Int) ≤ (n : Int) := by omega
  rw [← hW0] at hrz
  suffices h : Calls P 46 #[.slice (some ⟨b, off, none⟩) n c, .int .i64 i, .slice (some ⟨vb, vo, none⟩) 1 vc] w fun e w' => e = .returned (.slice (some ⟨w.heap.size, 0, none⟩) (n + 1) G) ∧ w' = (W0.setRow w.heap.size r1).drew.setRow w.heap.size r2 from
    h.mono fun e w' ⟨h1, h2⟩ => ⟨G, r0, r1, r2, hGn, hr0s, hr0t, hr1, hr2, h1, by rw [h2, hW0]⟩
  clear hr1 hr2 hr0 hG hW0 hkk hik hold hr0t
  go_enter L.fi, Go.Proofs.Try.ntmps46
  go_wp2_with (first
    | (at_builtin; refine Lib.wpList_append_run _ rfl _ _ _ _ rfl _ _ rfl rfl _ _ (hrz _) ?_)
    | (at_builtin; refine wpList_copyR _ rfl _ _ 48 48 rfl _ _ rfl rfl (hcp1 _ _) ?_))
  go_region_law_o (refine step_copyR rfl _ _ 48 48 rfl (.slice (some ⟨w.heap.size, (i + 1) * 2, none⟩) (n - i) (G - (i + 1))) (.slice (some ⟨b, off + i * 2, none⟩) (n - i) (c - i)) (by simp [Act.eval, Act.put]) (by simp [Act.eval, Act.put]) (hcp2 _ _ _) ?_)
  go_wp2
  go_ret
  exact ⟨rfl, rfl⟩
theorem insSem (L : InsLaid P) (he : enters P 46 = true) : InsSem P 46 2 := by
  intro w A n c i vb vo vc cs vs vcs vel hi hnc hbig hvl hcl h1c h1v hv hvfit hvc hA
  have hvs : ∀ j v, vs[j]? = some v → w.cell? ⟨vb, vo + j, none⟩ = some v := fun j v hj => by
    rw [hvc j (by have := (List.getElem?_eq_some_iff.1 hj).1; omega)]; exact hj
  have hvw : vb < w.heap.size := (Array.getElem?_eq_some_iff.1 hv).1
  obtain ⟨i0, hi0, hz0, hzs, hzb⟩ := info_parts L.ie
  by_cases hin : i = n
  · subst hin
    have hdr : cs.drop (i * 2) = [] := List.drop_eq_nil_of_le (by omega)
    have htk : cs.take (i * 2) = cs := List.take_of_length_le (by omega)
    have hB : ∀ w', w'.heap = w.heap → (Builtin.firstCells i0.size 1 (.slice (some ⟨vb, vo, none⟩) 1 vc)).run P w' = .ok vs.toArray w' := fun w' hw => by
      rw [hzs]
      exact run_firstCells_some w' 2 1 ⟨vb, vo, none⟩ 1 vc vs (by omega) (fun j v hj => by rw [Addr.add_none]; rw [show w'.cell? _ = w.cell? _ from cell_of_heap (by rw [hw])]; exact hvs j v hj)
    by_cases hr : i + 1 ≤ c
    · rcases hA with hA | ⟨b, off, cells, el, rfl, hvb, hb, hfit, hcc⟩
      · omega
      · have hst := run_storeCells_at P b (off + i * 2) el vs 0 cells w hb (by omega) h1v
        obtain ⟨row, hrow⟩ : ∃ row, row = (cells.toList.take (off + i * 2 + 0) ++ vs ++ cells.toList.drop (off + i * 2 + 0 + vs.length)).toArray := ⟨_, rfl⟩
        rw [← hrow] at hst
        have hrun : ∀ ty, (Builtin.append_ #[48, 48] ty #[.slice (some ⟨b, off, none⟩) i c, .slice (some ⟨vb, vo, none⟩) 1 vc]).run P w = .ok (.slice (some ⟨b, off, none⟩) (i + 1) c) (w.setRow b row) := fun ty =>
          run_app_fits (ty := ty) L.ts L.ts hi0 (hB w rfl) hr (by
            show (storeCells ((⟨b, off, none⟩ : Addr).add (i * i0.size)) vs).run P w = _
            rw [hzs, Addr.add_none]; exact hst)
        refine CallSem.mono (R := fun r w' => r = .slice (some ⟨b, off, none⟩) (i + 1) c ∧ w' = w.setRow b row) (CallSem.of 46 he ((ins_end L _ i c vb vo vc w _ _ hrun).mono fun e w' ⟨h1, h2⟩ => ⟨_, h1, rfl, h2⟩)) fun r w' ⟨h1, h2⟩ => ?_
        subst h1 h2
        refine ⟨rfl, rfl, rfl, .inl ⟨b, off, cells, el, _, rfl, hr, rfl, hb, by simp, fun d hd => setRow_other _ _ _ _ hd, setRow_heap w b cells _ el (0, 0) hb, by rw [hrow]; simp; omega, fun j hj => ?_⟩⟩
        rw [cell_setRow_same w b (off + j) cells _ el (0, 0) hb, hdr, htk, hrow]
        simp only [List.append_nil, Nat.add_zero, List.getElem?_toArray]
        by_cases hj2 : j < i * 2
        · rw [List.append_assoc, List.getElem?_append_left (by simp; omega), List.getElem?_take_of_lt (by omega), List.getElem?_append_left (by omega), ← hcc j (by omega)]
          simp [World.cell?, hb]
        · rw [List.append_assoc, List.getElem?_append_right (by simp; omega), List.getElem?_append_left (by simp; omega), List.getElem?_append_right (by omega)]
          congr 1
          simp; omega
    · have hold : ∀ w', w'.heap = w.heap → (Builtin.firstCells i0.size i (.slice A i c)).run P w' = .ok cs.toArray w' := fun w' hw => by
        rw [hzs]
        rcases hA with ⟨_, h0⟩ | ⟨b, off, cells, el, rfl, hvb, hb, hfit, hcc⟩
        · subst h0
          have : i = 0 := by simp at hcl; omega
          subst this
          cases A with
          | none => exact run_firstCells_none w' 2 0 0 c
          | some a => exact run_firstCells_some w' 2 0 a 0 c [] (by simp) (fun j v hj => by simp at hj)
        · exact run_firstCells_some w' 2 i ⟨b, off, none⟩ i c cs (by omega) (fun j v hj => by
            rw [Addr.add_none, show w'.cell? _ = w.cell? _ from cell_of_heap (by rw [hw]), hcc j (List.getElem?_eq_some_iff.1 hj).1]; exact hj)
      have hrun : ∀ ty, (Builtin.append_ #[48, 48] ty #[.slice A i c, .slice (some ⟨vb, vo, none⟩) 1 vc]).run P w = _ := fun ty =>
        run_app_grow (ty := ty) L.ts L.ts hi0 hz0 (by omega) hold hB (by omega) hbig
      refine CallSem.mono (R := fun r w' => r = .slice (some ⟨w.heap.size, 0, none⟩) (i + 1) (grownCap w (i + 1) c 50) ∧ w' = _) (CallSem.of 46 he ((ins_end L _ i c vb vo vc w _ _ hrun).mono fun e w' ⟨h1, h2⟩ => ⟨_, h1, rfl, h2⟩)) fun r w' ⟨h1, h2⟩ => ?_
      subst h1 h2
      have hge := grownCap_ge w (i + 1) c 50
      refine ⟨rfl, rfl, rfl, .inr ⟨_, 50, _, rfl, hge, rfl, ?_, fun j hj => ?_⟩⟩
      · simp [Builtin.zeroCells, Value.cells, hcl, hvl]; omega
      · rw [hdr, htk]
        simp only [List.append_nil, List.getElem?_toArray]
        rw [List.getElem?_append_left (by simp [hcl, hvl]; omega)]
  · have hlt : i < n := by omega
    rcases hA with ⟨_, h0⟩ | ⟨b, off, cells, el, rfl, hvb, hb, hfit, hcc⟩
    · subst h0; simp at hcl; omega
    · have hcs : ∀ j v, cs[j]? = some v → w.cell? ⟨b, off + j, none⟩ = some v := fun j v hj => by
        rw [hcc j (List.getElem?_eq_some_iff.1 hj).1]; exact hj
      by_cases hr : n + 1 ≤ c
      · refine CallSem.mono (R := fun r w' => r = .slice (some ⟨b, off, none⟩) (n + 1) c ∧ ∃ r1 r2, r1 = (cells.toList.take (off + (i + 1) * 2) ++ cs.drop (i * 2) ++ cells.toList.drop (off + (i + 1) * 2 + (cs.drop (i * 2)).length)).toArray ∧
          r2 = (r1.toList.take (off + i * 2) ++ vs ++ r1.toList.drop (off + i * 2 + vs.length)).toArray ∧ w' = (w.drew.setRow b r1).setRow b r2) (CallSem.of 46 he ((ins_shift L b off n c i vb vo vc cs vs w cells vcs el vel hlt hr hbig hvb hcl hvl hb hfit hv hvfit hcs hvs h1c h1v).mono fun e w' ⟨h1, h2⟩ => ⟨_, h1, rfl, h2⟩)) fun r w' ⟨h1, r1, r2, hr1, hr2, h2⟩ => ?_
        subst h1 h2
        have hdl : (cs.drop (i * 2)).length = (n - i) * 2 := by rw [List.length_drop, hcl]; omega
        have hl1 : r1.size = cells.size := by rw [hr1]; simp [hdl]; omega
        have hl2 : r2.size = cells.size := by rw [hr2]; simp [hvl, hl1]; omega
        have hb1 : (w.drew.setRow b r1).heap[b]? = some (.cells r1 el (0, 0)) := setRow_heap w.drew b cells r1 el (0, 0) hb
        refine ⟨rfl, rfl, rfl, .inl ⟨b, off, cells, el, r2, rfl, hr, rfl, hb, (size_setRow _ _ _).trans (size_setRow _ _ _), fun d hd => (setRow_other _ _ _ _ hd).trans (setRow_other w.drew _ _ _ hd), setRow_heap _ b r1 r2 el (0, 0) hb1, hl2, fun j hj => ?_⟩⟩
        rw [cell_setRow_same _ b (off + j) r1 r2 el (0, 0) hb1, hr2]
        simp only [List.getElem?_toArray]
        have hcell : ∀ j, j < n * 2 → cells[off + j]? = cs[j]? := fun j hj => by
          have := hcc j (by omega)
          simpa [World.cell?, hb] using this
        by_cases hj1 : j < i * 2
        · rw [List.append_assoc, List.getElem?_append_left (by simp; omega), List.getElem?_take_of_lt (by omega), List.append_assoc, List.getElem?_append_left (by simp; omega), List.getElem?_take_of_lt (by omega), hr1]
          simp only
          rw [List.append_assoc, List.getElem?_append_left (by simp; omega), List.getElem?_take_of_lt (by omega), Array.getElem?_toList]
          exact hcell j (by omega)
        · by_cases hj2 : j < (i + 1) * 2
          · rw [List.append_assoc, List.getElem?_append_right (by simp; omega), List.getElem?_append_left (by simp; omega), List.append_assoc, List.getElem?_append_right (by simp; omega), List.getElem?_append_left (by simp; omega)]
            congr 1
            simp; omega
          · rw [List.append_assoc, List.getElem?_append_right (by simp; omega), List.getElem?_append_right (by simp; omega), List.append_assoc, List.getElem?_append_right (by simp; omega), List.getElem?_append_right (by simp; omega), List.getElem?_drop, hr1]
            simp only
            rw [List.append_assoc, List.getElem?_append_right (by simp; omega), List.getElem?_append_left (by simp; omega)]
            congr 1
            simp; omega
      · have hbw : b < w.heap.size := (Array.getElem?_eq_some_iff.1 hb).1
        refine CallSem.mono (R := fun r w' => ∃ G r0 r1 r2, n + 1 ≤ G ∧ r0.size = G * 2 ∧ r0.toList.take (i * 2) = cs.take (i * 2) ∧ r1 = (r0.toList.take (i * 2) ++ vs ++ r0.toList.drop (i * 2 + vs.length)).toArray ∧
          r2 = (r1.toList.take ((i + 1) * 2) ++ cs.drop (i * 2) ++ r1.toList.drop ((i + 1) * 2 + (cs.drop (i * 2)).length)).toArray ∧
          r = .slice (some ⟨w.heap.size, 0, none⟩) (n + 1) G ∧ w' = (((w.drew.alloc (.cells r0 50)).setRow w.heap.size r1).drew).setRow w.heap.size r2)
          (CallSem.of 46 he ((ins_grow L b off n c i vb vo vc cs vs w vcs vel hlt (by omega) hnc hbig hcl hvl hbw hvw hcs hvs h1c h1v).mono fun e w' ⟨G, r0, r1, r2, q1, q2, q3, q4, q5, h1, h2⟩ => ⟨_, h1, G, r0, r1, r2, q1, q2, q3, q4, q5, rfl, h2⟩))
          fun r w' ⟨G, r0, r1, r2, q1, q2, q3, q4, q5, h1, h2⟩ => ?_
        subst h1 h2
        have hdl : (cs.drop (i * 2)).length = (n - i) * 2 := by rw [List.length_drop, hcl]; omega
        have hl1 : r1.size = r0.size := by rw [q4]; simp [hvl]; omega
        have hl2 : r2.size = r0.size := by rw [q5]; simp [hdl, hl1]; omega
        have hh0 : (w.drew.alloc (.cells r0 50)).heap[w.heap.size]? = some (.cells r0 50 (0, 0)) := push_new (w := w.drew) (w' := w.drew.alloc _) rfl
        have hh1 : ((w.drew.alloc (.cells r0 50)).setRow w.heap.size r1).drew.heap[w.heap.size]? = some (.cells r1 50 (0, 0)) := setRow_heap _ w.heap.size r0 r1 50 (0, 0) hh0
        refine ⟨rfl, rfl, rfl, .inr ⟨r2, 50, G, rfl, q1, ?_, by omega, fun j hj => ?_⟩⟩
        · apply Array.ext_getElem?
          intro d
          by_cases hd : d = w.heap.size
          · subst hd
            rw [setRow_heap _ w.heap.size r1 r2 50 (0, 0) hh1, Array.getElem?_push_size]
          · rw [setRow_other _ _ _ _ hd]
            show ((w.drew.alloc (.cells r0 50)).setRow w.heap.size r1).heap[d]? = _
            rw [setRow_other _ _ _ _ hd]
            show (w.heap.push _)[d]? = (w.heap.push _)[d]?
            rw [Array.getElem?_push, Array.getElem?_push, if_neg hd, if_neg hd]
        · rw [q5]
          simp only [List.getElem?_toArray]
          by_cases hj1 : j < i * 2
          · rw [List.append_assoc, List.getElem?_append_left (by simp; omega), List.getElem?_take_of_lt (by omega), q4]
            simp only
            rw [List.append_assoc, List.getElem?_append_left (by simp; omega), q3, List.append_assoc, List.getElem?_append_left (by simp; omega)]
          · by_cases hj2 : j < (i + 1) * 2
            · rw [List.append_assoc, List.getElem?_append_left (by simp; omega), List.getElem?_take_of_lt (by omega), q4]
              simp only
              rw [List.append_assoc, List.getElem?_append_right (by simp; omega), List.getElem?_append_left (by simp; omega), List.append_assoc, List.getElem?_append_right (by simp; omega), List.getElem?_append_left (by simp; omega)]
              congr 1
              simp; omega
            · rw [List.append_assoc, List.getElem?_append_right (by simp; omega), List.getElem?_append_left (by simp; omega), List.append_assoc, List.getElem?_append_right (by simp; omega), List.getElem?_append_right (by simp; omega)]
              congr 1
              simp; omega
end
end Go.Proofs.Ytkhgnkfdpabflaa.Vm
