/- The law BmcClauses returns true, and what came in reads as it did: for every world in which it is called. -/
import Derived.Test.YtbmhmfcjjhjkgaaVmD1BmcClauses
import Derived.Test.YtbmhmfcjjhjkgaaVmB3
import Derived.Test.YtbmhmfcjjhjkgaaRows
import Derived.JoinedOf
set_option maxRecDepth 100000
set_option linter.unusedVariables false
namespace Go.Proofs.Ytbmhmfcjjhjkgaa.Vm
open Go
theorem law : Law Try.prog env 8 k_law36_BmcClauses [51, 3] := by
  intro xs h
  obtain ⟨y0, xs, rfl, h0, h⟩ := argsT_cons h
  obtain ⟨y1, xs, rfl, h1, h⟩ := argsT_cons h
  have e0 := argsT_nil h
  subst e0
  obtain ⟨x0, rfl, r0⟩ := (D_51 4) y0 h0
  obtain ⟨x1, rfl, r1⟩ := (dec_i64 (k := 7) (t := 3) (by kernel_rfl)) y1 h1
  have e : argVs Try.prog [51, 3] [[(.int .i64 x0.Inputs), (.lst 2 (x0.Latches.map eS_Latch)), (.lst 2 (x0.Ands.map eS_And)), (.lst 1 (x0.Bads.map eI)), (.lst 1 (x0.Constraints.map eI))], [(.int .i64 x1)]] = [(.ag [(.d true (.int .i64 x0.Inputs)), (.d true (.lst 2 (x0.Latches.map eS_Latch))), (.d true (.lst 2 (x0.Ands.map eS_And))), (.d true (.lst 1 (x0.Bads.map eI))), (.d true (.lst 1 (x0.Constraints.map eI)))]), (.d true (.int .i64 x1))] := by
    simp only [argVs]
    unfold argV mkT
    rw [show wOf Try.prog 3 = some 0 from by kernel_rfl, show wOf Try.prog 51 = some 6 from by kernel_rfl]
    rfl
  rw [e]
  exact ansL_true (s_law36_BmcClauses_ok (plain_BmcClauses x0 x1 r0 r1))
end Go.Proofs.Ytbmhmfcjjhjkgaa.Vm
namespace Go.Proofs.Ytbmhmfcjjhjkgaa.bmcClauses
open Go Go.RowKit Go.Proofs.Ytbmhmfcjjhjkgaa.Vm
theorem own : ownKnob Try.prog.godebug = none := by kernel_rfl
set_option maxRecDepth 100000
set_option linter.unusedVariables false in
theorem lifted (os : Os) (started : os.Started) (H : Type) (enc : TypeId × Value → H) :
    ReturnsInHanded {} Try.checked os 7 .any (Rows.bmcClausesSpec.pre6 enc Try.prog Try.f7 Rows.bmcClausesRow.domain false) (Rows.bmcClausesSpec.post enc Try.prog Try.f7 false true false false) :=
  law_row (C := Try.checked) (E := env) (k := 8) (rt := Try.f7.resultTypes.getD 0 0) #[(.agg #[.int .i64 0, .slice none 0 0, .slice none 0 0, .slice none 0 0, .slice none 0 0]), (.int .i64 0)] env_ok ext_ok fns.1 mixed own started (by kernel_rfl) Try.func7 (by kernel_rfl) (by kernel_rfl) (by kernel_rfl) (by kernel_rfl) (by kernel_rfl)
    (by kernel_rfl) (by kernel_rfl) (by kernel_rfl) (by kernel_rfl) rfl (fun ds h => by
      have h2 : ds.length = 2 := h.trans (by kernel_rfl)
      match ds, h2 with
      | [_, _], _ => rfl) (by
      rw [show Try.f7.params = #[51, 3] from by kernel_rfl]
      exact law)
theorem over : Rows.bmcClausesRow.holds Try.pinned (OpenSpec.ofChange Rows.bmcClausesSpec) :=
  OpenClaim.holds_of_wide 7 Try.f7 rfl rfl rfl rfl rfl rfl rfl ⟨rfl, rfl, rfl, rfl, rfl⟩ rfl rfl rfl rfl rfl (by kernel_rfl) Try.func7 (by kernel_rfl)
    (of_decide_eq_true (by kernel_rfl)) (by unfold Func.isWrapper; first | (rw [if_pos (by decide +kernel)]; kernel_rfl) | (rw [if_neg (by decide +kernel)]; exact ⟨rfl, rfl⟩))
    (fun os started H enc _ => lifted os started H enc)
theorem proved : Rows.BmcClausesSaid := over
#print axioms proved
end Go.Proofs.Ytbmhmfcjjhjkgaa.bmcClauses
namespace Go.Proofs.Ytbmhmfcjjhjkgaa
theorem bmcClauses_holds : Rows.BmcClausesSaid := bmcClauses.proved
end Go.Proofs.Ytbmhmfcjjhjkgaa
