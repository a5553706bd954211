/- UnrollRuns: a run from a first state is a model, and comes back. -/
import Derived.Test.YtbmhmfcjjhjkgaaVmU15
import Derived.Test.YtbmhmfcjjhjkgaaVmD1UnrollRuns
namespace Go.Proofs.Ytbmhmfcjjhjkgaa.Vm
open Go
set_option linter.unusedVariables false
set_option linter.unusedSimpArgs false
theorem RC_of' {c : S_Circuit} (h : R_S_Circuit c) : RC c := by
  obtain ⟨h1, ⟨_, h2⟩, ⟨_, h3⟩, ⟨_, h4⟩, _, h5⟩ := h
  exact ⟨h1, fun l hl => h2 l hl, fun a ha => h3 a ha, fun x hx => h4 x hx, fun x hx => h5 x hx⟩
theorem statesF_length {c : S_Circuit} : ∀ (iss : List (List Bool)) (st : List Bool), (statesF c st iss).length = iss.length
  | [], st => rfl
  | is :: iss, st => by simp [statesF, statesF_length iss]
theorem runs {c : S_Circuit} (hr : RC c) (t : S_Trace) : s_law23_UnrollRuns c t = some true := by
  obtain ⟨b, hg, hb⟩ := great_cases hr
  unfold s_law23_UnrollRuns
  rw [alive_eq, hg]
  simp only [Option.bind_some]
  cases b with
  | true => simp only [if_true, Option.bind_some]
  | false =>
    obtain ⟨few, fit⟩ := hb rfl
    simp only [Bool.false_eq_true, if_false, ref_Check_eq hr few, Option.bind_some]
    by_cases hc : chk c = 0
    · have hf := fit hc
      have e0 : (chk c != 0) = false := by simpa using hc
      simp only [e0, Bool.false_eq_true, if_false]
      by_cases h3 : (t.Inputs.length : Int) > 8
      · simp only [h3, decide_true, if_true, Option.bind_some]
      obtain ⟨e, he, hrun⟩ := ref06_Check_eq hr few hc hf t
      simp only [h3, decide_false, Bool.false_eq_true, if_false, he, Option.bind_some]
      by_cases hz : e = 0
      · have run := hrun hz
        have ez : (e != 0) = false := by simp [hz]
        have his := run.ins
        have h1 := run.st
        have n1 := run.n1
        have hsl : (statesF c t.First t.Inputs).length = t.Inputs.length := statesF_length _ _
        simp only [ez, Bool.false_eq_true, if_false, Bool.not_true, Option.bind_some, States_eq hr few hc hf run, Of_val hr few hf hc (n := t.Inputs.length) (by omega) (by omega)]
        have hok := cnf_good hf false (N := t.Inputs.length) (by omega)
        have hq := iterF_Q hf t.Inputs.length 0 _ (by omega) (Q0 hf false)
        rw [Nat.zero_add] at hq
        have hlits : (cnfF c false t.Inputs.length).Lits.length = t.Inputs.length := hq.lits
        have e4 : (((cnfF c false t.Inputs.length).Lits.length : Int) != (t.Inputs.length : Int)) = false := by simp [hlits]
        have e5 : (((statesF c t.First t.Inputs).length : Int) != (t.Inputs.length : Int)) = false := by simp [hsl]
        simp only [bne_self_eq_false, Bool.false_eq_true, if_false, ref22_ok hok, Option.bind_some, e4, e5]
        obtain ⟨m, rows, r1, r2, r3, r4⟩ := iter_rows hf t.Inputs 0 t.First (0, [], [], resets c false) [] (by omega) (Q0 hf false) rfl (run.start.lsok hf h1) h1 his (fun r hr => by cases hr)
        rw [List.nil_append] at r1
        have hrows : (cnfF c false t.Inputs.length).Lits = rows := r1
        have hvars : (m.length : Int) = (cnfF c false t.Inputs.length).Vars := r3.symm
        have hsat : sat m (cnfF c false t.Inputs.length).Clauses := r4
        rw [← hrows] at r2
        rw [named_eq hr few hc hf hok r2 h1 his hvars hlits.symm]
        simp only [Option.bind_some, if_true, model_ok hok hvars hsat, trace_eq hr few hc hf hok r2 h1 his hvars (by omega)]
        have hlen := hf.len
        simp only [BEq.rfl, if_true, Option.bind_some]
        rw [Same06_self t (by omega) (by omega) (fun j hj => by have := his j hj; omega)]
        rfl
      · have ez : (e != 0) = true := by simpa using hz
        simp only [ez, if_true, Option.bind_some]
    · have e0 : (chk c != 0) = true := by simpa using hc
      simp only [e0, if_true, Option.bind_some]
theorem plain_UnrollRuns (c : S_Circuit) (t : S_Trace) (h : R_S_Circuit c) (_ : R_S_Trace t) : s_law23_UnrollRuns c t = some true := runs (RC_of' h) t
end Go.Proofs.Ytbmhmfcjjhjkgaa.Vm
