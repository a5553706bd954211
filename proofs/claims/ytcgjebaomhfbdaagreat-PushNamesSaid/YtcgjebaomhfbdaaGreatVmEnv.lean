/- The table of functions, checked against the program. Printed. -/
import Derived.Test.YtcgjebaomhfbdaaGreatVmCode
import Derived.Test.YtcgjebaomhfbdaaGreatVmX3
import Derived.Test.YtcgjebaomhfbdaaGreatVmP5
import Derived.Test.YtcgjebaomhfbdaaGreatVmX7
import Derived.Test.YtcgjebaomhfbdaaGreatChecked
import Derived.KernelRfl
namespace Go.Proofs.YtcgjebaomhfbdaaGreat.Vm
open Go
def extList : List (Nat × Ext) := [(k_slices_Clone_of_int, cloneX 1), (k_slices_Delete_of_int, deleteX), (k_slices_Clone_of_Lint, cloneX 1), (k_slices_Clone_of_api_And, cloneX 2), (k_slices_Clone_of_api_Latch, cloneX 2)]
def env : Env := ⟨fnOf, lk extList⟩
theorem env_fn (n : Nat) : env.fn n = fnOf n := rfl
theorem ex_slices_Clone_of_int : env.ext k_slices_Clone_of_int = some (cloneX 1) := by kernel_rfl
theorem ex_slices_Delete_of_int : env.ext k_slices_Delete_of_int = some (deleteX) := by kernel_rfl
theorem ex_slices_Clone_of_Lint : env.ext k_slices_Clone_of_Lint = some (cloneX 1) := by kernel_rfl
theorem ex_slices_Clone_of_api_And : env.ext k_slices_Clone_of_api_And = some (cloneX 2) := by kernel_rfl
theorem ex_slices_Clone_of_api_Latch : env.ext k_slices_Clone_of_api_Latch = some (cloneX 2) := by kernel_rfl
theorem mixed : Tryz.prog.follows .mixedOrders = true := by kernel_rfl
theorem all_ok : (fnList.all fun p => okFn Tryz.prog env p.1 p.2) = true := by kernel_rfl
theorem fns : FnsOk Tryz.prog env ∧ ∀ f F, env.fn f = some F → enters Tryz.prog f = true := okFn.fns fun f F h => List.all_eq_true.1 all_ok (f, F) (lk_mem h)
theorem exts : ∀ p ∈ extList, ExtSem Tryz.prog p.1 p.2 := by
  intro p hp
  simp only [extList, List.mem_cons, List.not_mem_nil, or_false] at hp
  rcases hp with rfl | rfl | rfl | rfl | rfl
  · exact clone_ext (z := .k (.int .i64 0)) (by kernel_rfl) mixed
  · exact delete_ext ⟨mixed, by kernel_rfl, by kernel_rfl, by kernel_rfl, by kernel_rfl, by kernel_rfl⟩ (by kernel_rfl)
  · exact clone_ext (z := .k (.lst 1 [])) (by kernel_rfl) mixed
  · exact clone_ext (z := .k (.agg [(.int .i64 0), (.int .i64 0)])) (by kernel_rfl) mixed
  · exact clone_ext (z := .k (.agg [(.int .i64 0), (.int .i64 0)])) (by kernel_rfl) mixed
theorem env_ok : EnvOk Tryz.prog env := ⟨fns.2, fun f X h => exts (f, X) (lk_mem h)⟩
theorem ext_ok : ExtOk env := by
  have h : ∀ p ∈ extList, (∀ σ d v xs rm, p.2 (σ.set d v) xs rm = (p.2 σ xs rm).map fun q => (q.1, q.2.set d v)) ∧ (∀ σ xs rm v τ t, p.2 σ xs rm = some (v, τ) → τ.get t = σ.get t) ∧ (∀ σ τ xs v σ', p.2 σ xs none = some (v, σ') → SimVs σ τ xs → σ' = σ ∧ p.2 τ xs none = some (v, τ)) := by
    intro p hp
    simp only [extList, List.mem_cons, List.not_mem_nil, or_false] at hp
    rcases hp with rfl | rfl | rfl | rfl | rfl
    · exact ⟨fun σ d v xs rm => cloneX_set σ d v xs rm, fun σ xs rm v τ t h => cloneX_get h, fun σ τ xs v σ' h hs => cloneX_pure σ τ xs v σ' h hs⟩
    · exact ⟨fun σ d v xs rm => deleteX_set σ d v xs rm, fun σ xs rm v τ t h => deleteX_get h, fun σ τ xs v σ' h hs => deleteX_pure σ τ xs v σ' h hs⟩
    · exact ⟨fun σ d v xs rm => cloneX_set σ d v xs rm, fun σ xs rm v τ t h => cloneX_get h, fun σ τ xs v σ' h hs => cloneX_pure σ τ xs v σ' h hs⟩
    · exact ⟨fun σ d v xs rm => cloneX_set σ d v xs rm, fun σ xs rm v τ t h => cloneX_get h, fun σ τ xs v σ' h hs => cloneX_pure σ τ xs v σ' h hs⟩
    · exact ⟨fun σ d v xs rm => cloneX_set σ d v xs rm, fun σ xs rm v τ t h => cloneX_get h, fun σ τ xs v σ' h hs => cloneX_pure σ τ xs v σ' h hs⟩
  exact ⟨fun f X hf => (h (f, X) (lk_mem hf)).1, fun f X hf => (h (f, X) (lk_mem hf)).2.1, fun f X hf => (h (f, X) (lk_mem hf)).2.2⟩
theorem ext_w : ExtW env := by
  have h : ∀ p ∈ extList, ∀ σ sl xs rm, p.2 (St.wsl σ sl) xs rm = (p.2 σ xs rm).map fun q => (q.1, q.2.wsl sl) := by
    intro p hp
    simp only [extList, List.mem_cons, List.not_mem_nil, or_false] at hp
    rcases hp with rfl | rfl | rfl | rfl | rfl
    · exact fun σ sl xs rm => cloneX_wsl σ sl xs rm
    · exact fun σ sl xs rm => deleteX_wsl σ sl xs rm
    · exact fun σ sl xs rm => cloneX_wsl σ sl xs rm
    · exact fun σ sl xs rm => cloneX_wsl σ sl xs rm
    · exact fun σ sl xs rm => cloneX_wsl σ sl xs rm
  exact fun f X hf => h (f, X) (lk_mem hf)
end Go.Proofs.YtcgjebaomhfbdaaGreat.Vm
