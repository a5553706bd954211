/- The law UnrollFree returns true, and what came in reads as it did: for every world in which it is called. -/
import Derived.Test.YtbmhmfcjjhjkgaaVmD1UnrollFree
import Derived.Test.YtbmhmfcjjhjkgaaVmU14
import Derived.Test.YtbmhmfcjjhjkgaaRows
import Derived.JoinedOf
set_option maxRecDepth 100000
set_option linter.unusedVariables false
namespace Go.Proofs.Ytbmhmfcjjhjkgaa.Vm
open Go
theorem law : Law Try.prog env 8 k_law23_UnrollFree [51, 26, 76] := by
  intro xs h
  obtain ⟨y0, xs, rfl, h0, h⟩ := argsT_cons h
  obtain ⟨y1, xs, rfl, h1, h⟩ := argsT_cons h
  obtain ⟨y2, xs, rfl, h2, h⟩ := argsT_cons h
  have e0 := argsT_nil h
  subst e0
  obtain ⟨x0, rfl, r0⟩ := (D_51 4) y0 h0
  obtain ⟨x1, rfl, r1⟩ := (dec_slice (k := 7) (t := 26) (e := 4) (s := 1) eB (by kernel_rfl) (by kernel_rfl) (fun x => by unfold mkT; rw [show wOf Try.prog 4 = some 0 from by kernel_rfl]; rfl) (dec_bool (k := 6) (t := 4) (by kernel_rfl))) y1 h1
  obtain ⟨x2, rfl, r2⟩ := (dec_slice (k := 7) (t := 76) (e := 26) (s := 1) (eL 1 eB) (by kernel_rfl) (by kernel_rfl) (fun x => by unfold mkT; rw [show wOf Try.prog 26 = some 0 from by kernel_rfl]; rfl) (dec_slice (k := 6) (t := 26) (e := 4) (s := 1) eB (by kernel_rfl) (by kernel_rfl) (fun x => by unfold mkT; rw [show wOf Try.prog 4 = some 0 from by kernel_rfl]; rfl) (dec_bool (k := 5) (t := 4) (by kernel_rfl)))) y2 h2
  have e : argVs Try.prog [51, 26, 76] [[(.int .i64 x0.Inputs), (.lst 2 (x0.Latches.map eS_Latch)), (.lst 2 (x0.Ands.map eS_And)), (.lst 1 (x0.Bads.map eI)), (.lst 1 (x0.Constraints.map eI))], [(.lst 1 (x1.map eB))], [(.lst 1 (x2.map (eL 1 eB)))]] = [(.ag [(.d true (.int .i64 x0.Inputs)), (.d true (.lst 2 (x0.Latches.map eS_Latch))), (.d true (.lst 2 (x0.Ands.map eS_And))), (.d true (.lst 1 (x0.Bads.map eI))), (.d true (.lst 1 (x0.Constraints.map eI)))]), (.d true (.lst 1 (x1.map eB))), (.d true (.lst 1 (x2.map (eL 1 eB))))] := by
    simp only [argVs]
    unfold argV mkT
    rw [show wOf Try.prog 26 = some 0 from by kernel_rfl, show wOf Try.prog 51 = some 6 from by kernel_rfl, show wOf Try.prog 76 = some 0 from by kernel_rfl]
    rfl
  rw [e]
  exact ansL_true (s_law23_UnrollFree_ok (plain_UnrollFree x0 x1 x2 r0 r1 r2))
end Go.Proofs.Ytbmhmfcjjhjkgaa.Vm
namespace Go.Proofs.Ytbmhmfcjjhjkgaa.unrollFree
open Go Go.RowKit Go.Proofs.Ytbmhmfcjjhjkgaa.Vm
theorem own : ownKnob Try.prog.godebug = none := by kernel_rfl
set_option maxRecDepth 100000
set_option linter.unusedVariables false in
theorem lifted (os : Os) (started : os.Started) (H : Type) (enc : TypeId × Value → H) :
    ReturnsInHanded {} Try.checked os 9 .any (Rows.unrollFreeSpec.pre6 enc Try.prog Try.f9 Rows.unrollFreeRow.domain false) (Rows.unrollFreeSpec.post enc Try.prog Try.f9 false true false false) :=
  law_row (C := Try.checked) (E := env) (k := 8) (rt := Try.f9.resultTypes.getD 0 0) #[(.agg #[.int .i64 0, .slice none 0 0, .slice none 0 0, .slice none 0 0, .slice none 0 0]), (.slice none 0 0), (.slice none 0 0)] env_ok ext_ok fns.1 mixed own started (by kernel_rfl) Try.func9 (by kernel_rfl) (by kernel_rfl) (by kernel_rfl) (by kernel_rfl) (by kernel_rfl)
    (by kernel_rfl) (by kernel_rfl) (by kernel_rfl) (by kernel_rfl) rfl (fun ds h => by
      have h2 : ds.length = 3 := h.trans (by kernel_rfl)
      match ds, h2 with
      | [_, _, _], _ => rfl) (by
      rw [show Try.f9.params = #[51, 26, 76] from by kernel_rfl]
      exact law)
theorem over : Rows.unrollFreeRow.holds Try.pinned (OpenSpec.ofChange Rows.unrollFreeSpec) :=
  OpenClaim.holds_of_wide 9 Try.f9 rfl rfl rfl rfl rfl rfl rfl ⟨rfl, rfl, rfl, rfl, rfl⟩ rfl rfl rfl rfl rfl (by kernel_rfl) Try.func9 (by kernel_rfl)
    (of_decide_eq_true (by kernel_rfl)) (by unfold Func.isWrapper; first | (rw [if_pos (by decide +kernel)]; kernel_rfl) | (rw [if_neg (by decide +kernel)]; exact ⟨rfl, rfl⟩))
    (fun os started H enc _ => lifted os started H enc)
theorem proved : Rows.UnrollFreeSaid := over
#print axioms proved
end Go.Proofs.Ytbmhmfcjjhjkgaa.unrollFree
namespace Go.Proofs.Ytbmhmfcjjhjkgaa
theorem unrollFree_holds : Rows.UnrollFreeSaid := unrollFree.proved
end Go.Proofs.Ytbmhmfcjjhjkgaa
