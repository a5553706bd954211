/- The law QueueBack returns true, and what came in reads as it did: for every world in which it is called. -/
import Derived.Test.YtkhgnkfdpabflaaVmD1QueueBack
import Derived.Test.YtkhgnkfdpabflaaVmN9
import Derived.Test.YtkhgnkfdpabflaaRows
import Derived.JoinedOf
set_option maxRecDepth 100000
set_option linter.unusedVariables false
namespace Go.Proofs.Ytkhgnkfdpabflaa.Vm
open Go
theorem law : Law Try.prog env 8 k_law38_QueueBack [48, 50] := by
  intro xs h
  obtain ⟨y0, xs, rfl, h0, h⟩ := argsT_cons h
  obtain ⟨y1, xs, rfl, h1, h⟩ := argsT_cons h
  have e0 := argsT_nil h
  subst e0
  obtain ⟨x0, rfl, r0⟩ := (dec_slice (k := 7) (t := 48) (e := 50) (s := 2) eS_Wait (by kernel_rfl) (by kernel_rfl) (fun x => by unfold mkT; rw [show wOf Try.prog 50 = some 3 from by kernel_rfl]; rfl) (D_50 5)) y0 h0
  obtain ⟨x1, rfl, r1⟩ := (D_50 6) y1 h1
  have e : argVs Try.prog [48, 50] [[(.lst 2 (x0.map eS_Wait))], [(.int .i64 x1.Frame), (.int .i64 x1.Number)]] = [(.d true (.lst 2 (x0.map eS_Wait))), (.ag [(.d true (.int .i64 x1.Frame)), (.d true (.int .i64 x1.Number))])] := by
    simp only [argVs]
    unfold argV mkT
    rw [show wOf Try.prog 48 = some 0 from by kernel_rfl, show wOf Try.prog 50 = some 3 from by kernel_rfl]
    rfl
  rw [e]
  exact ansL_true (s_law38_QueueBack_ok (plain_QueueBack x0 x1 r0 r1))
end Go.Proofs.Ytkhgnkfdpabflaa.Vm
namespace Go.Proofs.Ytkhgnkfdpabflaa.queueBack
open Go Go.RowKit Go.Proofs.Ytkhgnkfdpabflaa.Vm
theorem own : ownKnob Try.prog.godebug = none := by kernel_rfl
set_option maxRecDepth 100000
set_option linter.unusedVariables false in
theorem lifted (os : Os) (started : os.Started) (H : Type) (enc : TypeId × Value → H) :
    ReturnsInHanded {} Try.checked os 6 .any (Rows.queueBackSpec.pre6 enc Try.prog Try.f6 Rows.queueBackRow.domain false) (Rows.queueBackSpec.post enc Try.prog Try.f6 false true false false) :=
  law_row (C := Try.checked) (E := env) (k := 8) (rt := Try.f6.resultTypes.getD 0 0) #[(.slice none 0 0), (.agg #[.int .i64 0, .int .i64 0])] env_ok ext_ok fns.1 mixed own started (by kernel_rfl) Try.func6 (by kernel_rfl) (by kernel_rfl) (by kernel_rfl) (by kernel_rfl) (by kernel_rfl)
    (by kernel_rfl) (by kernel_rfl) (by kernel_rfl) (by kernel_rfl) rfl (fun ds h => by
      have h2 : ds.length = 2 := h.trans (by kernel_rfl)
      match ds, h2 with
      | [_, _], _ => rfl) (by
      rw [show Try.f6.params = #[48, 50] from by kernel_rfl]
      exact law)
theorem over : Rows.queueBackRow.holds Try.pinned (OpenSpec.ofChange Rows.queueBackSpec) :=
  OpenClaim.holds_of_wide 6 Try.f6 rfl rfl rfl rfl rfl rfl rfl ⟨rfl, rfl, rfl, rfl, rfl⟩ rfl rfl rfl rfl rfl (by kernel_rfl) Try.func6 (by kernel_rfl)
    (of_decide_eq_true (by kernel_rfl)) (by unfold Func.isWrapper; first | (rw [if_pos (by decide +kernel)]; kernel_rfl) | (rw [if_neg (by decide +kernel)]; exact ⟨rfl, rfl⟩))
    (fun os started H enc _ => lifted os started H enc)
theorem proved : Rows.QueueBackSaid := over
#print axioms proved
end Go.Proofs.Ytkhgnkfdpabflaa.queueBack
namespace Go.Proofs.Ytkhgnkfdpabflaa
theorem queueBack_holds : Rows.QueueBackSaid := queueBack.proved
end Go.Proofs.Ytkhgnkfdpabflaa
