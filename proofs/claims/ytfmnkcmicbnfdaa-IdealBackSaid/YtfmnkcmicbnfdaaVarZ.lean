/- New variables of more than one kind of cells. -/
import Derived.Test.YtfmnkcmicbnfdaaGTab
namespace Go.Proofs.Ytfmnkcmicbnfdaa
open Go Go.RowKit
theorem newvarY {t : TypeId} {n : Nat} {F : List Value} (w : World) (Z : List Value) (hZ : Z.length = n) (hz : ∀ v ∈ Z, v.oneCell' = true) (hm : n ≤ maxLen) (hF : F.length = n) (h1 : ∀ v ∈ F, v.oneCell' = true) :
    Own ((w.alloc (.cells Z.toArray t)).setCells w.heap.size 0 F) t 1 (some ⟨w.heap.size, 0, none⟩) n n F ∧ Grow w ((w.alloc (.cells Z.toArray t)).setCells w.heap.size 0 F) ∧ (w.alloc (.cells Z.toArray t)).there w.heap.size 0 F.toArray.size ∧ F.toArray.all (·.oneCell') = true := by
  have o : Own (w.alloc (.cells Z.toArray t)) t 1 (some ⟨w.heap.size, 0, none⟩) n n Z := Own.made (n := n) (sz := 1) (heap_alloc_new w (.cells Z.toArray t)) (by simp [hZ]) hm (by simpa using hz)
  exact ⟨own_whole o hF h1, (Grow.alloc w _).then (Keep.setCells _ F 0 _) (fun x hx => by simp at hx; omega), own_there o _ (by simpa using hF), one_all h1⟩
end Go.Proofs.Ytfmnkcmicbnfdaa
