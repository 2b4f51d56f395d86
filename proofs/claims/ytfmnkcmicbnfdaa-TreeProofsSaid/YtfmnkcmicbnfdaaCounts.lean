/- PathsCounts: the plain law and the walk. -/
import Derived.Test.YtfmnkcmicbnfdaaGPaths
namespace Go.Proofs.Ytfmnkcmicbnfdaa
open Go Go.RowKit

theorem wl_pos (n : Nat) : 0 < (wl n).length := by
  by_cases h : n ≤ 1
  · rw [wl_one h]; simp
  · rw [wl_more h]; simp
/-- As many levels as it takes. -/
theorem wl_reach (n : Nat) (h1 : 1 ≤ n) : ∃ k, (wl n).length = k + 1 ∧ n ≤ 4 ^ k ∧ ∀ j, j < k → 4 ^ j < n := by
  induction n using Nat.strongRecOn with
  | ind n ih =>
    by_cases h : n ≤ 1
    · exact ⟨0, by rw [wl_one h]; rfl, by simpa using h, by omega⟩
    · obtain ⟨k, hk, h2, h3⟩ := ih ((n + 3) / 4) (by omega) (by omega)
      refine ⟨k + 1, by rw [wl_more h]; simp [hk], by rw [Nat.pow_succ]; omega, fun j hj => ?_⟩
      cases j with
      | zero => simp; omega
      | succ j =>
        have := h3 j (by omega)
        rw [Nat.pow_succ]; omega
theorem wl_sum (n : Nat) (h1 : 1 ≤ n) : n ≤ 3 * (wl n).tail.sum + 1 ∧ 3 * (wl n).tail.sum + 3 ≤ n + 3 * (wl n).length := by
  induction n using Nat.strongRecOn with
  | ind n ih =>
    by_cases h : n ≤ 1
    · rw [wl_one h]; simp; omega
    · obtain ⟨a, b⟩ := ih ((n + 3) / 4) (by omega) (by omega)
      have e : (wl n).tail = wl ((n + 3) / 4) := by rw [wl_more h]; rfl
      have e2 : (wl n).length = (wl ((n + 3) / 4)).length + 1 := by rw [wl_more h]; rfl
      have e3 : (wl ((n + 3) / 4)).sum = (n + 3) / 4 + (wl ((n + 3) / 4)).tail.sum := by
        by_cases h' : (n + 3) / 4 ≤ 1
        · rw [wl_one h']; simp
        · rw [wl_more h']; simp
      rw [e, e2, e3]
      omega

end Go.Proofs.Ytfmnkcmicbnfdaa
