/- Two tags of the law's key reckoned. -/
import Derived.Test.YtfmnkcmicbnfdaaHtQ
import Derived.Test.YtfmnkcmicbnfdaaGHt1
namespace Go.Proofs.Ytfmnkcmicbnfdaa
open Go Go.RowKit
theorem neX : (shortS (macS lawK (framS (leafP 4 [120]))) == B0.b) = false := by
  unfold macS inK outK keyN; simp only [sumS_lit]; decide +kernel
theorem neXY : (shortS (macS lawK (framS (leafP 4 [121]))) == shortS (macS lawK (framS (leafP 4 [120])))) = false := by
  unfold macS inK outK keyN; simp only [sumS_lit]; decide +kernel
end Go.Proofs.Ytfmnkcmicbnfdaa
