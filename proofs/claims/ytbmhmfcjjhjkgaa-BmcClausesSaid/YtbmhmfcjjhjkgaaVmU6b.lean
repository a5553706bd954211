/- More of loops, and of the rows of frames. -/
import Derived.Test.YtbmhmfcjjhjkgaaVmU6
namespace Go.Proofs.Ytbmhmfcjjhjkgaa.Vm
open Go
set_option linter.unusedVariables false
set_option linter.unusedSimpArgs false
theorem Lp_all {α R : Type} {l : List α} {f : Int → Option (Int ⊕ R)} {r0 : R} (hl : l.length < 9223372036854775807)
    (hs : ∀ (i : Nat) (x : α), l[i]? = some x → f i = some (.inl (IntKind.wrap .i64 ((i : Int) + 1)))) (he : f l.length = some (.inr r0)) : Lp f 0 = some r0 := by
  obtain ⟨r, h1, h2⟩ := Lp_find (l := l) (fun _ _ => false) (r0 := r0) (fun _ => r0) hl (fun i x hx => by rw [hs i x hx]; rfl) he
  rcases h2 with ⟨_, rfl⟩ | ⟨i, x, _, h, _⟩
  · exact h1
  · cases h
section
variable {c : S_Circuit}
theorem iter_lits (hf : Fit c) : ∀ (m f : Nat) (s : FS), f + m ≤ 8 → Q c f s → (∀ r ∈ s.2.1, ∀ x ∈ r, 0 ≤ x ∧ x ≤ 2 * s.1 + 1) → ∀ r ∈ (iterF c m s).2.1, ∀ x ∈ r, 0 ≤ x ∧ x ≤ 2 * (iterF c m s).1 + 1
  | 0, f, s, _, _, h => h
  | m + 1, f, s, h8, hq, h => by
    obtain ⟨g1, g2, _⟩ := frame_range hf (by omega) hq
    obtain ⟨_, ⟨p1, p2, p3⟩, _, ⟨p4, p5, p6⟩, _, ⟨p7, _, _, _⟩⟩ := frame_parts hf (by omega) hq
    refine iter_lits hf m (f + 1) (nextF c s) (by omega) g1 fun r hr x hx => ?_
    have hv : (nextF c s).1 = (frameF c s.2.2.2 s.1 s.2.2.1).1 := rfl
    rcases List.mem_append.1 hr with hr | hr
    · have := h r hr x hx
      omega
    · rw [List.mem_singleton.1 hr] at hx
      exact g2.1 x hx
end
end Go.Proofs.Ytbmhmfcjjhjkgaa.Vm
