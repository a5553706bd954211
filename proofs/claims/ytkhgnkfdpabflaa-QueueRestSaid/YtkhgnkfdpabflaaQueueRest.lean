/- The law QueueRest returns true, and what came in reads as it did: for every world in which it is called. -/
import Derived.Test.YtkhgnkfdpabflaaVmD1QueueRest
import Derived.Test.YtkhgnkfdpabflaaVmN11
import Derived.Test.YtkhgnkfdpabflaaRows
import Derived.JoinedOf
set_option maxRecDepth 100000
set_option linter.unusedVariables false
namespace Go.Proofs.Ytkhgnkfdpabflaa.Vm
open Go
theorem law : Law Try.prog env 8 k_law38_QueueRest [26, 27, 3] := by
  intro xs h
  obtain ⟨y0, xs, rfl, h0, h⟩ := argsT_cons h
  obtain ⟨y1, xs, rfl, h1, h⟩ := argsT_cons h
  obtain ⟨y2, xs, rfl, h2, h⟩ := argsT_cons h
  have e0 := argsT_nil h
  subst e0
  obtain ⟨x0, rfl, r0⟩ := (D_26 4) y0 h0
  obtain ⟨x1, rfl, r1⟩ := (dec_slice (k := 7) (t := 27) (e := 71) (s := 3) eS_Obligation (by kernel_rfl) (by kernel_rfl) (fun x => by unfold mkT; rw [show wOf Try.prog 71 = some 4 from by kernel_rfl]; rfl) (D_71 4)) y1 h1
  obtain ⟨x2, rfl, r2⟩ := (dec_i64 (k := 7) (t := 3) (by kernel_rfl)) y2 h2
  have e : argVs Try.prog [26, 27, 3] [[(.int .i64 x0.Inputs), (.lst 2 (x0.Latches.map eS_Latch)), (.lst 2 (x0.Ands.map eS_And)), (.lst 1 (x0.Bads.map eI)), (.lst 1 (x0.Constraints.map eI))], [(.lst 3 (x1.map eS_Obligation))], [(.int .i64 x2)]] = [(.ag [(.d true (.int .i64 x0.Inputs)), (.d true (.lst 2 (x0.Latches.map eS_Latch))), (.d true (.lst 2 (x0.Ands.map eS_And))), (.d true (.lst 1 (x0.Bads.map eI))), (.d true (.lst 1 (x0.Constraints.map eI)))]), (.d true (.lst 3 (x1.map eS_Obligation))), (.d true (.int .i64 x2))] := by
    simp only [argVs]
    unfold argV mkT
    rw [show wOf Try.prog 26 = some 6 from by kernel_rfl, show wOf Try.prog 27 = some 0 from by kernel_rfl, show wOf Try.prog 3 = some 0 from by kernel_rfl]
    rfl
  rw [e]
  exact ansL_true (s_law38_QueueRest_ok (plain_QueueRest x0 x1 x2 r0 r1 r2))
end Go.Proofs.Ytkhgnkfdpabflaa.Vm
namespace Go.Proofs.Ytkhgnkfdpabflaa.queueRest
open Go Go.RowKit Go.Proofs.Ytkhgnkfdpabflaa.Vm
theorem own : ownKnob Try.prog.godebug = none := by kernel_rfl
set_option maxRecDepth 100000
set_option linter.unusedVariables false in
theorem lifted (os : Os) (started : os.Started) (H : Type) (enc : TypeId × Value → H) :
    ReturnsInHanded {} Try.checked os 7 .any (Rows.queueRestSpec.pre6 enc Try.prog Try.f7 Rows.queueRestRow.domain false) (Rows.queueRestSpec.post enc Try.prog Try.f7 false true false false) :=
  law_row (C := Try.checked) (E := env) (k := 8) (rt := Try.f7.resultTypes.getD 0 0) #[(.agg #[.int .i64 0, .slice none 0 0, .slice none 0 0, .slice none 0 0, .slice none 0 0]), (.slice none 0 0), (.int .i64 0)] env_ok ext_ok fns.1 mixed own started (by kernel_rfl) Try.func7 (by kernel_rfl) (by kernel_rfl) (by kernel_rfl) (by kernel_rfl) (by kernel_rfl)
    (by kernel_rfl) (by kernel_rfl) (by kernel_rfl) (by kernel_rfl) rfl (fun ds h => by
      have h2 : ds.length = 3 := h.trans (by kernel_rfl)
      match ds, h2 with
      | [_, _, _], _ => rfl) (by
      rw [show Try.f7.params = #[26, 27, 3] from by kernel_rfl]
      exact law)
theorem over : Rows.queueRestRow.holds Try.pinned (OpenSpec.ofChange Rows.queueRestSpec) :=
  OpenClaim.holds_of_wide 7 Try.f7 rfl rfl rfl rfl rfl rfl rfl ⟨rfl, rfl, rfl, rfl, rfl⟩ rfl rfl rfl rfl rfl (by kernel_rfl) Try.func7 (by kernel_rfl)
    (of_decide_eq_true (by kernel_rfl)) (by unfold Func.isWrapper; first | (rw [if_pos (by decide +kernel)]; kernel_rfl) | (rw [if_neg (by decide +kernel)]; exact ⟨rfl, rfl⟩))
    (fun os started H enc _ => lifted os started H enc)
theorem proved : Rows.QueueRestSaid := over
#print axioms proved
end Go.Proofs.Ytkhgnkfdpabflaa.queueRest
namespace Go.Proofs.Ytkhgnkfdpabflaa
theorem queueRest_holds : Rows.QueueRestSaid := queueRest.proved
end Go.Proofs.Ytkhgnkfdpabflaa
