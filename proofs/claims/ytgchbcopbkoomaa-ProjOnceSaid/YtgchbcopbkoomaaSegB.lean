/- Tools for memory: PqT. -/
import Derived.Test.YtgchbcopbkoomaaRegD
namespace Go.Proofs.Ytgchbcopbkoomaa
open Go Go.RowKit

/-- All blocks but the book's stay. -/
def BaseF (FP : List Nat) (b w : World) : Prop := ∃ n : KW FP tt b, w = n.w
/-- From here on the worlds grow. -/
def segB (FP : List Nat) (b w0 : World) (h : Keep FP b w0) (T : List (Nat × Pr)) : RC.Seg (BaseF FP b) where
  C w := ∃ n : KW [] tt w0, w = n.w
  sub := fun w ⟨n, e⟩ => ⟨⟨w, by subst e; exact h.trans (n.h.mono (by simp)), trivial⟩, rfl⟩
  R _ w w' := Keep [] w w'
  V := VT T
  es := T.map (·.1)
  kills := []
  hC := fun i w w' ⟨n, e⟩ hr => ⟨⟨w', by subst e; exact n.h.trans hr, trivial⟩, rfl⟩
  hV := fun i j vs v w w' _ _ _ hr hv => VT_st T j vs v w w' hr hv
theorem segB_at {FP : List Nat} {b w0 : World} {h : Keep FP b w0} {T : List (Nat × Pr)} : (segB FP b w0 h T).C w0 := ⟨⟨w0, Keep.refl _ w0, trivial⟩, rfl⟩
theorem segB_drew {FP : List Nat} {b : World} {T : List (Nat × Pr)} : (segB FP b b (Keep.refl _ b) T).C b.drew := ⟨⟨b.drew, Keep.drew _ b, trivial⟩, rfl⟩
end Go.Proofs.Ytgchbcopbkoomaa
