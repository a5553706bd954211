/- The table of functions, checked against the program. Printed. -/
import Derived.Test.YtkhgnkfdpabflaaVmCode
import Derived.Test.YtkhgnkfdpabflaaVmP4
import Derived.Test.YtkhgnkfdpabflaaVmX5
import Derived.Test.YtkhgnkfdpabflaaChecked
import Derived.KernelRfl
namespace Go.Proofs.Ytkhgnkfdpabflaa.Vm
open Go
def extList : List (Nat × Ext) := [(k_slices_Clone_of_bool, cloneX 1), (k_slices_Insert_of_api_Wait, insertX 2), (k_slices_Clone_of_api_Wait, cloneX 2)]
def env : Env := ⟨fnOf, lk extList⟩
theorem env_fn (n : Nat) : env.fn n = fnOf n := rfl
theorem ex_slices_Clone_of_bool : env.ext k_slices_Clone_of_bool = some (cloneX 1) := by kernel_rfl
theorem ex_slices_Insert_of_api_Wait : env.ext k_slices_Insert_of_api_Wait = some (insertX 2) := by kernel_rfl
theorem ex_slices_Clone_of_api_Wait : env.ext k_slices_Clone_of_api_Wait = some (cloneX 2) := by kernel_rfl
theorem mixed : Try.prog.follows .mixedOrders = true := by kernel_rfl
theorem all_ok : (fnList.all fun p => okFn Try.prog env p.1 p.2) = true := by kernel_rfl
theorem fns : FnsOk Try.prog env ∧ ∀ f F, env.fn f = some F → enters Try.prog f = true := okFn.fns fun f F h => List.all_eq_true.1 all_ok (f, F) (lk_mem h)
theorem exts : ∀ p ∈ extList, ExtSem Try.prog p.1 p.2 := by
  intro p hp
  simp only [extList, List.mem_cons, List.not_mem_nil, or_false] at hp
  rcases hp with rfl | rfl | rfl
  · exact clone_ext (z := .k (.bool false)) (by kernel_rfl) mixed
  · exact insert_ext (insSem ⟨mixed, by kernel_rfl, by kernel_rfl, by kernel_rfl, by kernel_rfl, by kernel_rfl, by kernel_rfl⟩ (by kernel_rfl))
  · exact clone_ext (z := .k (.agg [(.int .i64 0), (.int .i64 0)])) (by kernel_rfl) mixed
theorem env_ok : EnvOk Try.prog env := ⟨fns.2, fun f X h => exts (f, X) (lk_mem h)⟩
theorem ext_ok : ExtOk env := by
  have h : ∀ p ∈ extList, (∀ σ d v xs rm, p.2 (σ.set d v) xs rm = (p.2 σ xs rm).map fun q => (q.1, q.2.set d v)) ∧ (∀ σ xs rm v τ t, p.2 σ xs rm = some (v, τ) → τ.get t = σ.get t) := by
    intro p hp
    simp only [extList, List.mem_cons, List.not_mem_nil, or_false] at hp
    rcases hp with rfl | rfl | rfl
    · exact ⟨fun σ d v xs rm => cloneX_set σ d v xs rm, fun σ xs rm v τ t h => cloneX_get h⟩
    · exact ⟨fun σ d v xs rm => insertX_set σ d v xs rm, fun σ xs rm v τ t h => insertX_get h⟩
    · exact ⟨fun σ d v xs rm => cloneX_set σ d v xs rm, fun σ xs rm v τ t h => cloneX_get h⟩
  exact ⟨fun f X hf => (h (f, X) (lk_mem hf)).1, fun f X hf => (h (f, X) (lk_mem hf)).2⟩
end Go.Proofs.Ytkhgnkfdpabflaa.Vm
