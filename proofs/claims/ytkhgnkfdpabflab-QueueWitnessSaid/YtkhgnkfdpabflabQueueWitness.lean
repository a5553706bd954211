/- The law QueueWitness returns true, and what came in reads as it did: for every world in which it is called. -/
import Derived.Test.YtkhgnkfdpabflabVmD1QueueWitness
import Derived.Test.YtkhgnkfdpabflabVmN15
import Derived.Test.YtkhgnkfdpabflabRows
import Derived.JoinedOf
set_option maxRecDepth 100000
set_option linter.unusedVariables false
namespace Go.Proofs.Ytkhgnkfdpabflab.Vm
open Go
theorem law : Law Try.prog env 8 k_law38_QueueWitness [26, 27, 3, 28, 28] := by
  intro xs h
  obtain ⟨y0, xs, rfl, h0, h⟩ := argsT_cons h
  obtain ⟨y1, xs, rfl, h1, h⟩ := argsT_cons h
  obtain ⟨y2, xs, rfl, h2, h⟩ := argsT_cons h
  obtain ⟨y3, xs, rfl, h3, h⟩ := argsT_cons h
  obtain ⟨y4, xs, rfl, h4, h⟩ := argsT_cons h
  have e0 := argsT_nil h
  subst e0
  obtain ⟨x0, rfl, r0⟩ := (D_26 4) y0 h0
  obtain ⟨x1, rfl, r1⟩ := (dec_slice (k := 7) (t := 27) (e := 59) (s := 3) eS_Obligation (by kernel_rfl) (by kernel_rfl) (fun x => by unfold mkT; rw [show wOf Try.prog 59 = some 4 from by kernel_rfl]; rfl) (D_59 4)) y1 h1
  obtain ⟨x2, rfl, r2⟩ := (dec_i64 (k := 7) (t := 3) (by kernel_rfl)) y2 h2
  obtain ⟨x3, rfl, r3⟩ := (dec_slice (k := 7) (t := 28) (e := 4) (s := 1) eB (by kernel_rfl) (by kernel_rfl) (fun x => by unfold mkT; rw [show wOf Try.prog 4 = some 0 from by kernel_rfl]; rfl) (dec_bool (k := 6) (t := 4) (by kernel_rfl))) y3 h3
  obtain ⟨x4, rfl, r4⟩ := (dec_slice (k := 7) (t := 28) (e := 4) (s := 1) eB (by kernel_rfl) (by kernel_rfl) (fun x => by unfold mkT; rw [show wOf Try.prog 4 = some 0 from by kernel_rfl]; rfl) (dec_bool (k := 6) (t := 4) (by kernel_rfl))) y4 h4
  have e : argVs Try.prog [26, 27, 3, 28, 28] [[(.int .i64 x0.Inputs), (.lst 2 (x0.Latches.map eS_Latch)), (.lst 2 (x0.Ands.map eS_And)), (.lst 1 (x0.Bads.map eI)), (.lst 1 (x0.Constraints.map eI))], [(.lst 3 (x1.map eS_Obligation))], [(.int .i64 x2)], [(.lst 1 (x3.map eB))], [(.lst 1 (x4.map eB))]] = [(.ag [(.d true (.int .i64 x0.Inputs)), (.d true (.lst 2 (x0.Latches.map eS_Latch))), (.d true (.lst 2 (x0.Ands.map eS_And))), (.d true (.lst 1 (x0.Bads.map eI))), (.d true (.lst 1 (x0.Constraints.map eI)))]), (.d true (.lst 3 (x1.map eS_Obligation))), (.d true (.int .i64 x2)), (.d true (.lst 1 (x3.map eB))), (.d true (.lst 1 (x4.map eB)))] := by
    simp only [argVs]
    unfold argV mkT
    rw [show wOf Try.prog 26 = some 6 from by kernel_rfl, show wOf Try.prog 27 = some 0 from by kernel_rfl, show wOf Try.prog 28 = some 0 from by kernel_rfl, show wOf Try.prog 3 = some 0 from by kernel_rfl]
    rfl
  rw [e]
  exact ansL_true (s_law38_QueueWitness_ok (plain_QueueWitness x0 x1 x2 x3 x4 r0 r1 r2 r3 r4))
end Go.Proofs.Ytkhgnkfdpabflab.Vm
namespace Go.Proofs.Ytkhgnkfdpabflab.queueWitness
open Go Go.RowKit Go.Proofs.Ytkhgnkfdpabflab.Vm
theorem own : ownKnob Try.prog.godebug = none := by kernel_rfl
set_option maxRecDepth 100000
set_option linter.unusedVariables false in
theorem lifted (os : Os) (started : os.Started) (H : Type) (enc : TypeId × Value → H) :
    ReturnsInHanded {} Try.checked os 3 .any (Rows.queueWitnessSpec.pre6 enc Try.prog Try.f3 Rows.queueWitnessRow.domain false) (Rows.queueWitnessSpec.post enc Try.prog Try.f3 false true false false) :=
  law_row (C := Try.checked) (E := env) (k := 8) (rt := Try.f3.resultTypes.getD 0 0) #[(.agg #[.int .i64 0, .slice none 0 0, .slice none 0 0, .slice none 0 0, .slice none 0 0]), (.slice none 0 0), (.int .i64 0), (.slice none 0 0), (.slice none 0 0)] env_ok ext_ok fns.1 mixed own started (by kernel_rfl) Try.func3 (by kernel_rfl) (by kernel_rfl) (by kernel_rfl) (by kernel_rfl) (by kernel_rfl)
    (by kernel_rfl) (by kernel_rfl) (by kernel_rfl) (by kernel_rfl) rfl (fun ds h => by
      have h2 : ds.length = 5 := h.trans (by kernel_rfl)
      match ds, h2 with
      | [_, _, _, _, _], _ => rfl) (by
      rw [show Try.f3.params = #[26, 27, 3, 28, 28] from by kernel_rfl]
      exact law)
theorem over : Rows.queueWitnessRow.holds Try.pinned (OpenSpec.ofChange Rows.queueWitnessSpec) :=
  OpenClaim.holds_of_wide 3 Try.f3 rfl rfl rfl rfl rfl rfl rfl ⟨rfl, rfl, rfl, rfl, rfl⟩ rfl rfl rfl rfl rfl (by kernel_rfl) Try.func3 (by kernel_rfl)
    (of_decide_eq_true (by kernel_rfl)) (by unfold Func.isWrapper; first | (rw [if_pos (by decide +kernel)]; kernel_rfl) | (rw [if_neg (by decide +kernel)]; exact ⟨rfl, rfl⟩))
    (fun os started H enc _ => lifted os started H enc)
theorem proved : Rows.QueueWitnessSaid := over
#print axioms proved
end Go.Proofs.Ytkhgnkfdpabflab.queueWitness
namespace Go.Proofs.Ytkhgnkfdpabflab
theorem queueWitness_holds : Rows.QueueWitnessSaid := queueWitness.proved
end Go.Proofs.Ytkhgnkfdpabflab
