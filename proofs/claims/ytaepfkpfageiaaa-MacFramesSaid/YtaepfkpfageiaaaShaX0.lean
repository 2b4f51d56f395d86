/- Hex digits. -/
import Derived.Test.YtaepfkpfageiaaaShaT
namespace Go.Proofs.Ytaepfkpfageiaaa
open Go Go.RowKit

/-- A hex digit. -/
def hx (k : Nat) : UInt8 := ([48, 49, 50, 51, 52, 53, 54, 55, 56, 57, 97, 98, 99, 100, 101, 102] : List UInt8).getD k 0
def textS (l : List UInt8) : List UInt8 := l.flatMap fun b => [hx (b.toNat / 16), hx (b.toNat % 16)]
end Go.Proofs.Ytaepfkpfageiaaa
