/- A sum's text: its length, its digits. -/
import Derived.Test.YtaepfkpfageiaaaShaX0
namespace Go.Proofs.Ytaepfkpfageiaaa
open Go Go.RowKit

theorem textS_len (l : List UInt8) : (textS l).length = 2 * l.length := by
  induction l with
  | nil => rfl
  | cons a l ih => simp only [textS, List.flatMap_cons, List.length_append, List.length_cons, List.length_nil] at ih ⊢; omega
theorem textS_at (l : List UInt8) : ∀ j, j < l.length → (textS l).getD (2 * j) 0 = hx ((l.getD j 0).toNat / 16) ∧ (textS l).getD (2 * j + 1) 0 = hx ((l.getD j 0).toNat % 16) := by
  induction l with
  | nil => intro j h; simp at h
  | cons a l ih =>
    intro j h
    cases j with
    | zero => simp [textS]
    | succ j =>
      have := ih j (by simpa using h)
      rw [show 2 * (j + 1) = 2 * j + 2 by omega, show 2 * j + 2 + 1 = (2 * j + 1) + 2 by omega]
      simpa [textS] using this
end Go.Proofs.Ytaepfkpfageiaaa
