/- What a law's arguments are, typed. Printed. -/
import Derived.Test.YtkhgnkfdpabflabVmL1
import Derived.Test.YtkhgnkfdpabflabVmH0
import Derived.KernelRfl
namespace Go.Proofs.Ytkhgnkfdpabflab.Vm
open Go
set_option maxRecDepth 100000
set_option linter.unusedVariables false
def R_S_Latch (x : S_Latch) : Prop := RI x.Next ∧ RI x.Reset
theorem D_64 (k : Nat) : Dec Try.prog (k + 2) 64 (fun x : S_Latch => [(.int .i64 x.Next), (.int .i64 x.Reset)]) R_S_Latch := by
  intro ts ht
  obtain ⟨ps, rfl, h⟩ := ty_struct (k := k + 1) (tys := [3, 3]) (by kernel_rfl) ht
  obtain ⟨p0, ps, rfl, h0, h⟩ := all2_cons h
  obtain ⟨p1, ps, rfl, h1, h⟩ := all2_cons h
  have e := all2_nil h
  subst e
  obtain ⟨x0, rfl, r0⟩ := (dec_i64 (k := (k + 0)) (t := 3) (by kernel_rfl)) p0 h0
  obtain ⟨x1, rfl, r1⟩ := (dec_i64 (k := (k + 0)) (t := 3) (by kernel_rfl)) p1 h1
  exact ⟨⟨x0, x1⟩, rfl, r0, r1⟩
def R_S_And (x : S_And) : Prop := RI x.A ∧ RI x.B
theorem D_66 (k : Nat) : Dec Try.prog (k + 2) 66 (fun x : S_And => [(.int .i64 x.A), (.int .i64 x.B)]) R_S_And := by
  intro ts ht
  obtain ⟨ps, rfl, h⟩ := ty_struct (k := k + 1) (tys := [3, 3]) (by kernel_rfl) ht
  obtain ⟨p0, ps, rfl, h0, h⟩ := all2_cons h
  obtain ⟨p1, ps, rfl, h1, h⟩ := all2_cons h
  have e := all2_nil h
  subst e
  obtain ⟨x0, rfl, r0⟩ := (dec_i64 (k := (k + 0)) (t := 3) (by kernel_rfl)) p0 h0
  obtain ⟨x1, rfl, r1⟩ := (dec_i64 (k := (k + 0)) (t := 3) (by kernel_rfl)) p1 h1
  exact ⟨⟨x0, x1⟩, rfl, r0, r1⟩
def R_S_Circuit (x : S_Circuit) : Prop := RI x.Inputs ∧ (x.Latches.length ≤ maxLen ∧ ∀ y ∈ x.Latches, R_S_Latch y) ∧ (x.Ands.length ≤ maxLen ∧ ∀ y ∈ x.Ands, R_S_And y) ∧ (x.Bads.length ≤ maxLen ∧ ∀ y ∈ x.Bads, RI y) ∧ (x.Constraints.length ≤ maxLen ∧ ∀ y ∈ x.Constraints, RI y)
theorem D_26 (k : Nat) : Dec Try.prog (k + 4) 26 (fun x : S_Circuit => [(.int .i64 x.Inputs), (.lst 2 (x.Latches.map eS_Latch)), (.lst 2 (x.Ands.map eS_And)), (.lst 1 (x.Bads.map eI)), (.lst 1 (x.Constraints.map eI))]) R_S_Circuit := by
  intro ts ht
  obtain ⟨ps, rfl, h⟩ := ty_struct (k := k + 3) (tys := [3, 22, 23, 24, 24]) (by kernel_rfl) ht
  obtain ⟨p0, ps, rfl, h0, h⟩ := all2_cons h
  obtain ⟨p1, ps, rfl, h1, h⟩ := all2_cons h
  obtain ⟨p2, ps, rfl, h2, h⟩ := all2_cons h
  obtain ⟨p3, ps, rfl, h3, h⟩ := all2_cons h
  obtain ⟨p4, ps, rfl, h4, h⟩ := all2_cons h
  have e := all2_nil h
  subst e
  obtain ⟨x0, rfl, r0⟩ := (dec_i64 (k := (k + 2)) (t := 3) (by kernel_rfl)) p0 h0
  obtain ⟨x1, rfl, r1⟩ := (dec_slice (k := (k + 2)) (t := 22) (e := 64) (s := 2) eS_Latch (by kernel_rfl) (by kernel_rfl) (fun x => by unfold mkT; rw [show wOf Try.prog 64 = some 3 from by kernel_rfl]; rfl) (D_64 (k + 0))) p1 h1
  obtain ⟨x2, rfl, r2⟩ := (dec_slice (k := (k + 2)) (t := 23) (e := 66) (s := 2) eS_And (by kernel_rfl) (by kernel_rfl) (fun x => by unfold mkT; rw [show wOf Try.prog 66 = some 3 from by kernel_rfl]; rfl) (D_66 (k + 0))) p2 h2
  obtain ⟨x3, rfl, r3⟩ := (dec_slice (k := (k + 2)) (t := 24) (e := 3) (s := 1) eI (by kernel_rfl) (by kernel_rfl) (fun x => by unfold mkT; rw [show wOf Try.prog 3 = some 0 from by kernel_rfl]; rfl) (dec_i64 (k := (k + 1)) (t := 3) (by kernel_rfl))) p3 h3
  obtain ⟨x4, rfl, r4⟩ := (dec_slice (k := (k + 2)) (t := 24) (e := 3) (s := 1) eI (by kernel_rfl) (by kernel_rfl) (fun x => by unfold mkT; rw [show wOf Try.prog 3 = some 0 from by kernel_rfl]; rfl) (dec_i64 (k := (k + 1)) (t := 3) (by kernel_rfl))) p4 h4
  exact ⟨⟨x0, x1, x2, x3, x4⟩, rfl, r0, r1, r2, r3, r4⟩
def R_S_Obligation (x : S_Obligation) : Prop := (x.Cube.length ≤ maxLen ∧ ∀ y ∈ x.Cube, RI y) ∧ (x.Inputs.length ≤ maxLen ∧ ∀ y ∈ x.Inputs, True) ∧ RI x.Next
theorem D_59 (k : Nat) : Dec Try.prog (k + 3) 59 (fun x : S_Obligation => [(.lst 1 (x.Cube.map eI)), (.lst 1 (x.Inputs.map eB)), (.int .i64 x.Next)]) R_S_Obligation := by
  intro ts ht
  obtain ⟨ps, rfl, h⟩ := ty_struct (k := k + 2) (tys := [24, 28, 3]) (by kernel_rfl) ht
  obtain ⟨p0, ps, rfl, h0, h⟩ := all2_cons h
  obtain ⟨p1, ps, rfl, h1, h⟩ := all2_cons h
  obtain ⟨p2, ps, rfl, h2, h⟩ := all2_cons h
  have e := all2_nil h
  subst e
  obtain ⟨x0, rfl, r0⟩ := (dec_slice (k := (k + 1)) (t := 24) (e := 3) (s := 1) eI (by kernel_rfl) (by kernel_rfl) (fun x => by unfold mkT; rw [show wOf Try.prog 3 = some 0 from by kernel_rfl]; rfl) (dec_i64 (k := (k + 0)) (t := 3) (by kernel_rfl))) p0 h0
  obtain ⟨x1, rfl, r1⟩ := (dec_slice (k := (k + 1)) (t := 28) (e := 4) (s := 1) eB (by kernel_rfl) (by kernel_rfl) (fun x => by unfold mkT; rw [show wOf Try.prog 4 = some 0 from by kernel_rfl]; rfl) (dec_bool (k := (k + 0)) (t := 4) (by kernel_rfl))) p1 h1
  obtain ⟨x2, rfl, r2⟩ := (dec_i64 (k := (k + 1)) (t := 3) (by kernel_rfl)) p2 h2
  exact ⟨⟨x0, x1, x2⟩, rfl, r0, r1, r2⟩
end Go.Proofs.Ytkhgnkfdpabflab.Vm
