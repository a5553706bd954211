/- The law UnrollRuns returns true, and what came in reads as it did: for every world in which it is called. -/
import Derived.Test.YtbmhmfcjjhjkgaaVmD1UnrollRuns
import Derived.Test.YtbmhmfcjjhjkgaaVmU16
import Derived.Test.YtbmhmfcjjhjkgaaRows
import Derived.JoinedOf
set_option maxRecDepth 100000
set_option linter.unusedVariables false
namespace Go.Proofs.Ytbmhmfcjjhjkgaa.Vm
open Go
theorem law : Law Try.prog env 8 k_law23_UnrollRuns [51, 78] := by
  intro xs h
  obtain ⟨y0, xs, rfl, h0, h⟩ := argsT_cons h
  obtain ⟨y1, xs, rfl, h1, h⟩ := argsT_cons h
  have e0 := argsT_nil h
  subst e0
  obtain ⟨x0, rfl, r0⟩ := (D_51 4) y0 h0
  obtain ⟨x1, rfl, r1⟩ := (D_78 4) y1 h1
  have e : argVs Try.prog [51, 78] [[(.int .i64 x0.Inputs), (.lst 2 (x0.Latches.map eS_Latch)), (.lst 2 (x0.Ands.map eS_And)), (.lst 1 (x0.Bads.map eI)), (.lst 1 (x0.Constraints.map eI))], [(.lst 1 (x1.First.map eB)), (.lst 1 (x1.Inputs.map (eL 1 eB)))]] = [(.ag [(.d true (.int .i64 x0.Inputs)), (.d true (.lst 2 (x0.Latches.map eS_Latch))), (.d true (.lst 2 (x0.Ands.map eS_And))), (.d true (.lst 1 (x0.Bads.map eI))), (.d true (.lst 1 (x0.Constraints.map eI)))]), (.ag [(.d true (.lst 1 (x1.First.map eB))), (.d true (.lst 1 (x1.Inputs.map (eL 1 eB))))])] := by
    simp only [argVs]
    unfold argV mkT
    rw [show wOf Try.prog 51 = some 6 from by kernel_rfl, show wOf Try.prog 78 = some 3 from by kernel_rfl]
    rfl
  rw [e]
  exact ansL_true (s_law23_UnrollRuns_ok (plain_UnrollRuns x0 x1 r0 r1))
end Go.Proofs.Ytbmhmfcjjhjkgaa.Vm
namespace Go.Proofs.Ytbmhmfcjjhjkgaa.unrollRuns
open Go Go.RowKit Go.Proofs.Ytbmhmfcjjhjkgaa.Vm
theorem own : ownKnob Try.prog.godebug = none := by kernel_rfl
set_option maxRecDepth 100000
set_option linter.unusedVariables false in
theorem lifted (os : Os) (started : os.Started) (H : Type) (enc : TypeId × Value → H) :
    ReturnsInHanded {} Try.checked os 10 .any (Rows.unrollRunsSpec.pre6 enc Try.prog Try.f10 Rows.unrollRunsRow.domain false) (Rows.unrollRunsSpec.post enc Try.prog Try.f10 false true false false) :=
  law_row (C := Try.checked) (E := env) (k := 8) (rt := Try.f10.resultTypes.getD 0 0) #[(.agg #[.int .i64 0, .slice none 0 0, .slice none 0 0, .slice none 0 0, .slice none 0 0]), (.agg #[.slice none 0 0, .slice none 0 0])] env_ok ext_ok fns.1 mixed own started (by kernel_rfl) Try.func10 (by kernel_rfl) (by kernel_rfl) (by kernel_rfl) (by kernel_rfl) (by kernel_rfl)
    (by kernel_rfl) (by kernel_rfl) (by kernel_rfl) (by kernel_rfl) rfl (fun ds h => by
      have h2 : ds.length = 2 := h.trans (by kernel_rfl)
      match ds, h2 with
      | [_, _], _ => rfl) (by
      rw [show Try.f10.params = #[51, 78] from by kernel_rfl]
      exact law)
theorem over : Rows.unrollRunsRow.holds Try.pinned (OpenSpec.ofChange Rows.unrollRunsSpec) :=
  OpenClaim.holds_of_wide 10 Try.f10 rfl rfl rfl rfl rfl rfl rfl ⟨rfl, rfl, rfl, rfl, rfl⟩ rfl rfl rfl rfl rfl (by kernel_rfl) Try.func10 (by kernel_rfl)
    (of_decide_eq_true (by kernel_rfl)) (by unfold Func.isWrapper; first | (rw [if_pos (by decide +kernel)]; kernel_rfl) | (rw [if_neg (by decide +kernel)]; exact ⟨rfl, rfl⟩))
    (fun os started H enc _ => lifted os started H enc)
theorem proved : Rows.UnrollRunsSaid := over
#print axioms proved
end Go.Proofs.Ytbmhmfcjjhjkgaa.unrollRuns
namespace Go.Proofs.Ytbmhmfcjjhjkgaa
theorem unrollRuns_holds : Rows.UnrollRunsSaid := unrollRuns.proved
end Go.Proofs.Ytbmhmfcjjhjkgaa
