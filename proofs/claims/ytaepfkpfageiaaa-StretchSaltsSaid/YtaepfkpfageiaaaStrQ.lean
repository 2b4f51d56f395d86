/- A key reckoned. -/
import Derived.Test.YtaepfkpfageiaaaStrP
import Derived.Test.YtaepfkpfageiaaaMacQ
namespace Go.Proofs.Ytaepfkpfageiaaa
open Go Go.RowKit
def pwS : List UInt8 := [112, 97, 115, 115, 119, 111, 114, 100]
def saS : List UInt8 := [115, 97, 108, 116]
def tS1 : List UInt8 := [18, 15, 182, 207, 252, 248, 179, 44, 67, 231, 34, 82, 86, 196, 248, 55, 168, 101, 72, 201, 44, 204, 53, 72, 8, 5, 152, 124, 183, 11, 225, 123]
theorem sq1 : tS pwS saS 1 0 = tS1 := by unfold tS uS macS inK outK keyN; simp only [sumS_lit]; decide +kernel
theorem sk1 : keyS pwS saS 0 4 = [18, 15, 182, 207] := by
  have h : keyB pwS saS 0 ((4 + 31) / 32) = [] ++ tS pwS saS 1 0 := rfl
  rw [keyS, h, sq1]
  rfl
end Go.Proofs.Ytaepfkpfageiaaa
