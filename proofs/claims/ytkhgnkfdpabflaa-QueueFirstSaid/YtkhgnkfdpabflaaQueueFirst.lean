/- The law QueueFirst returns true, and what came in reads as it did: for every world in which it is called. -/
import Derived.Test.YtkhgnkfdpabflaaVmD1QueueFirst
import Derived.Test.YtkhgnkfdpabflaaVmN8
import Derived.Test.YtkhgnkfdpabflaaRows
import Derived.JoinedOf
set_option maxRecDepth 100000
set_option linter.unusedVariables false
namespace Go.Proofs.Ytkhgnkfdpabflaa.Vm
open Go
theorem law : Law Try.prog env 8 k_law38_QueueFirst [48, 3] := by
  intro xs h
  obtain ⟨y0, xs, rfl, h0, h⟩ := argsT_cons h
  obtain ⟨y1, xs, rfl, h1, h⟩ := argsT_cons h
  have e0 := argsT_nil h
  subst e0
  obtain ⟨x0, rfl, r0⟩ := (dec_slice (k := 7) (t := 48) (e := 50) (s := 2) eS_Wait (by kernel_rfl) (by kernel_rfl) (fun x => by unfold mkT; rw [show wOf Try.prog 50 = some 3 from by kernel_rfl]; rfl) (D_50 5)) y0 h0
  obtain ⟨x1, rfl, r1⟩ := (dec_i64 (k := 7) (t := 3) (by kernel_rfl)) y1 h1
  have e : argVs Try.prog [48, 3] [[(.lst 2 (x0.map eS_Wait))], [(.int .i64 x1)]] = [(.d true (.lst 2 (x0.map eS_Wait))), (.d true (.int .i64 x1))] := by
    simp only [argVs]
    unfold argV mkT
    rw [show wOf Try.prog 3 = some 0 from by kernel_rfl, show wOf Try.prog 48 = some 0 from by kernel_rfl]
    rfl
  rw [e]
  exact ansL_true (s_law38_QueueFirst_ok (plain_QueueFirst x0 x1 r0 r1))
end Go.Proofs.Ytkhgnkfdpabflaa.Vm
namespace Go.Proofs.Ytkhgnkfdpabflaa.queueFirst
open Go Go.RowKit Go.Proofs.Ytkhgnkfdpabflaa.Vm
theorem own : ownKnob Try.prog.godebug = none := by kernel_rfl
set_option maxRecDepth 100000
set_option linter.unusedVariables false in
theorem lifted (os : Os) (started : os.Started) (H : Type) (enc : TypeId × Value → H) :
    ReturnsInHanded {} Try.checked os 5 .any (Rows.queueFirstSpec.pre6 enc Try.prog Try.f5 Rows.queueFirstRow.domain false) (Rows.queueFirstSpec.post enc Try.prog Try.f5 false true false false) :=
  law_row (C := Try.checked) (E := env) (k := 8) (rt := Try.f5.resultTypes.getD 0 0) #[(.slice none 0 0), (.int .i64 0)] env_ok ext_ok fns.1 mixed own started (by kernel_rfl) Try.func5 (by kernel_rfl) (by kernel_rfl) (by kernel_rfl) (by kernel_rfl) (by kernel_rfl)
    (by kernel_rfl) (by kernel_rfl) (by kernel_rfl) (by kernel_rfl) rfl (fun ds h => by
      have h2 : ds.length = 2 := h.trans (by kernel_rfl)
      match ds, h2 with
      | [_, _], _ => rfl) (by
      rw [show Try.f5.params = #[48, 3] from by kernel_rfl]
      exact law)
theorem over : Rows.queueFirstRow.holds Try.pinned (OpenSpec.ofChange Rows.queueFirstSpec) :=
  OpenClaim.holds_of_wide 5 Try.f5 rfl rfl rfl rfl rfl rfl rfl ⟨rfl, rfl, rfl, rfl, rfl⟩ rfl rfl rfl rfl rfl (by kernel_rfl) Try.func5 (by kernel_rfl)
    (of_decide_eq_true (by kernel_rfl)) (by unfold Func.isWrapper; first | (rw [if_pos (by decide +kernel)]; kernel_rfl) | (rw [if_neg (by decide +kernel)]; exact ⟨rfl, rfl⟩))
    (fun os started H enc _ => lifted os started H enc)
theorem proved : Rows.QueueFirstSaid := over
#print axioms proved
end Go.Proofs.Ytkhgnkfdpabflaa.queueFirst
namespace Go.Proofs.Ytkhgnkfdpabflaa
theorem queueFirst_holds : Rows.QueueFirstSaid := queueFirst.proved
end Go.Proofs.Ytkhgnkfdpabflaa
