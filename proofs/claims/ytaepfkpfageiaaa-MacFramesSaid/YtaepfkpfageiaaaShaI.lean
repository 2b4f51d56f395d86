/- The document's cube roots: they are the program's. -/
import Derived.Test.YtaepfkpfageiaaaShaH
import Derived.Test.YtaepfkpfageiaaaShaC
namespace Go.Proofs.Ytaepfkpfageiaaa
open Go Go.RowKit

def cubF (p : Nat) : Nat → Nat → Nat
  | 0, x => x
  | j + 1, x => if abvF (cubW (x + 2 ^ j)) p 6 = true then cubF p j x else cubF p j (x + 2 ^ j)
theorem cub_rt : ((pl 312).take 64).all (fun p => cubF p 36 0 % 4294967296 == rt3 p) = true := by decide +kernel
end Go.Proofs.Ytaepfkpfageiaaa
