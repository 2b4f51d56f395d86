/-
  No cell of these rows narrows 'for every input' (looked for: loops, veiled, ifaces, maps, wideKeys, modest, calm, conditions, laid).
  DERIVED. THE GIVEN ROWS OF THIS SEAT. 6 by the template 'for every input the law returns true; each argument reads behind the call as it read before'; 0 by the template 'total and deterministic' (their statements: YtekfggeedljdkaaTotals.lean).
  GIVEN WITH THE SEED: the statements are not yours to turn. If you find one false, say at which input.
  Laid BY PROGRAM, IN A SANDBOX (cutbox-rows.mjs): the forced cells as the released guide's own fill.sh prints them over the translation 1d4c97aa861cee1a… (all of the seat's roots in one cut). By AI agents, Wed Nov 11 2026. No macro, syntax, notation, axiom, sorry.
-/
import Derived.Test.YtekfggeedljdkaaChecked
import GoSem.Claim
import GoSem.ClaimJoined
import GoSem.ClaimMapViews
import Derived.JoinedTies
import Derived.KernelRfl
namespace Go.Proofs.Ytekfggeedljdkaa
/- THE CELL 'sum', in the pinned program and in every row, IS THE sha256 OF THE DUMP (.gsa) THAT YtekfggeedljdkaaProg.lean LOADS. Nothing in Lean hashes anything: it is a label: what it is worth is what the hold of that sum in a sandbox is worth. -/
noncomputable def Try.pinned : Pinned := { name := "ytekfggeedljdkaa", sum := "1d4c97aa861cee1a74494216ce12b42cb8b59653d19acac0a2e35cc753f1c2b2", checked := Try.checked }
namespace Rows
def none {H : Type} : Left H := { results := [], args := [] }

/-- 'priorylaw1.ShaSum': WHATEVER THE INPUT: true; the input reads as it did. -/
def shaSumSpec : ChangeSpec := { name := "shaSum", fn := fun _ => fun
  | [d] => { results := [.lit (.bool true)], args := [d] }
  | _ => none }
def shaSumRow : OpenClaim := { program := "ytekfggeedljdkaa", sum := "1d4c97aa861cee1a74494216ce12b42cb8b59653d19acac0a2e35cc753f1c2b2", func := "priory/priorylaw1.ShaSum", spec := "shaSum", inPlace := ["internal/bytealg.IndexByteString"], apart := false }
def ShaSumSaid : Prop := shaSumRow.holds Try.pinned (OpenSpec.ofChange shaSumSpec)

/-- ITS FALSE NEIGHBOUR: 'it returns false'. Refute it at one input. -/
def shaSumWrong : ChangeSpec := { name := "shaSum", fn := fun _ => fun
  | [d] => { results := [.lit (.bool false)], args := [d] }
  | _ => none }
def ShaSumWrongFalsely : Prop := shaSumRow.holds Try.pinned (OpenSpec.ofChange shaSumWrong)

/-- 'priorylaw1.ShaParts': WHATEVER THE INPUT: true; the input reads as it did. -/
def shaPartsSpec : ChangeSpec := { name := "shaParts", fn := fun _ => fun
  | [d1, d2] => { results := [.lit (.bool true)], args := [d1, d2] }
  | _ => none }
def shaPartsRow : OpenClaim := { program := "ytekfggeedljdkaa", sum := "1d4c97aa861cee1a74494216ce12b42cb8b59653d19acac0a2e35cc753f1c2b2", func := "priory/priorylaw1.ShaParts", spec := "shaParts", inPlace := ["internal/bytealg.IndexByteString"], apart := false }
def ShaPartsSaid : Prop := shaPartsRow.holds Try.pinned (OpenSpec.ofChange shaPartsSpec)

/-- ITS FALSE NEIGHBOUR: 'it returns false'. Refute it at one input. -/
def shaPartsWrong : ChangeSpec := { name := "shaParts", fn := fun _ => fun
  | [d1, d2] => { results := [.lit (.bool false)], args := [d1, d2] }
  | _ => none }
def ShaPartsWrongFalsely : Prop := shaPartsRow.holds Try.pinned (OpenSpec.ofChange shaPartsWrong)

/-- 'priorylaw1.ShaConstants': WHATEVER THE INPUT: true; the input reads as it did. -/
def shaConstantsSpec : ChangeSpec := { name := "shaConstants", fn := fun _ => fun
  | [d] => { results := [.lit (.bool true)], args := [d] }
  | _ => none }
def shaConstantsRow : OpenClaim := { program := "ytekfggeedljdkaa", sum := "1d4c97aa861cee1a74494216ce12b42cb8b59653d19acac0a2e35cc753f1c2b2", func := "priory/priorylaw1.ShaConstants", spec := "shaConstants", inPlace := ["internal/bytealg.IndexByteString"], apart := false }
def ShaConstantsSaid : Prop := shaConstantsRow.holds Try.pinned (OpenSpec.ofChange shaConstantsSpec)

/-- ITS FALSE NEIGHBOUR: 'it returns false'. Refute it at one input. -/
def shaConstantsWrong : ChangeSpec := { name := "shaConstants", fn := fun _ => fun
  | [d] => { results := [.lit (.bool false)], args := [d] }
  | _ => none }
def ShaConstantsWrongFalsely : Prop := shaConstantsRow.holds Try.pinned (OpenSpec.ofChange shaConstantsWrong)

/-- 'priorylaw1.ShaTexts': WHATEVER THE INPUT: true; the input reads as it did. -/
def shaTextsSpec : ChangeSpec := { name := "shaTexts", fn := fun _ => fun
  | [d1, d2] => { results := [.lit (.bool true)], args := [d1, d2] }
  | _ => none }
def shaTextsRow : OpenClaim := { program := "ytekfggeedljdkaa", sum := "1d4c97aa861cee1a74494216ce12b42cb8b59653d19acac0a2e35cc753f1c2b2", func := "priory/priorylaw1.ShaTexts", spec := "shaTexts", inPlace := ["internal/bytealg.IndexByteString"], apart := false }
def ShaTextsSaid : Prop := shaTextsRow.holds Try.pinned (OpenSpec.ofChange shaTextsSpec)

/-- ITS FALSE NEIGHBOUR: 'it returns false'. Refute it at one input. -/
def shaTextsWrong : ChangeSpec := { name := "shaTexts", fn := fun _ => fun
  | [d1, d2] => { results := [.lit (.bool false)], args := [d1, d2] }
  | _ => none }
def ShaTextsWrongFalsely : Prop := shaTextsRow.holds Try.pinned (OpenSpec.ofChange shaTextsWrong)

/-- 'priorylaw1.ShaBorders': WHATEVER THE INPUT: true; the input reads as it did. -/
def shaBordersSpec : ChangeSpec := { name := "shaBorders", fn := fun _ => fun
  | [d1, d2] => { results := [.lit (.bool true)], args := [d1, d2] }
  | _ => none }
def shaBordersRow : OpenClaim := { program := "ytekfggeedljdkaa", sum := "1d4c97aa861cee1a74494216ce12b42cb8b59653d19acac0a2e35cc753f1c2b2", func := "priory/priorylaw1.ShaBorders", spec := "shaBorders", inPlace := ["internal/bytealg.IndexByteString"], apart := false }
def ShaBordersSaid : Prop := shaBordersRow.holds Try.pinned (OpenSpec.ofChange shaBordersSpec)

/-- ITS FALSE NEIGHBOUR: 'it returns false'. Refute it at one input. -/
def shaBordersWrong : ChangeSpec := { name := "shaBorders", fn := fun _ => fun
  | [d1, d2] => { results := [.lit (.bool false)], args := [d1, d2] }
  | _ => none }
def ShaBordersWrongFalsely : Prop := shaBordersRow.holds Try.pinned (OpenSpec.ofChange shaBordersWrong)

/-- 'priorylaw1.ShaKnown': WHATEVER THE INPUT: true; the input reads as it did. -/
def shaKnownSpec : ChangeSpec := { name := "shaKnown", fn := fun _ => fun
  | [d] => { results := [.lit (.bool true)], args := [d] }
  | _ => none }
def shaKnownRow : OpenClaim := { program := "ytekfggeedljdkaa", sum := "1d4c97aa861cee1a74494216ce12b42cb8b59653d19acac0a2e35cc753f1c2b2", func := "priory/priorylaw1.ShaKnown", spec := "shaKnown", inPlace := ["internal/bytealg.IndexByteString"], apart := false }
def ShaKnownSaid : Prop := shaKnownRow.holds Try.pinned (OpenSpec.ofChange shaKnownSpec)

/-- ITS FALSE NEIGHBOUR: 'it returns false'. Refute it at one input. -/
def shaKnownWrong : ChangeSpec := { name := "shaKnown", fn := fun _ => fun
  | [d] => { results := [.lit (.bool false)], args := [d] }
  | _ => none }
def ShaKnownWrongFalsely : Prop := shaKnownRow.holds Try.pinned (OpenSpec.ofChange shaKnownWrong)

/- THE SECOND FORM. 'bulk': how many values and letters a reading holds, each counted each time it is reached (what is shared counts as often as it is met; a slice's spare places count too). A statement '..UptoSaid' is the law's where the arguments, and the package variables that the reading takes, are together of bulk at most 1048576: NARROWER than '..Said'. Prove '..Said' where nothing that the law and all that it calls make is longer than what came in: it says more and counts as full. Else prove '..UptoSaid'. A law counts once. -/
mutual
def uptoBulk {H : Type} : DataW H → Nat
  | .lit (.string bytes) => bytes.length + 1
  | .lit _ => 1
  | .nil => 1
  | .ptr d => uptoBulk d + 1
  | .slice elems spare => uptoBulkAll elems + uptoBulkAll spare + 1
  | .agg parts => uptoBulkAll parts + 1
  | .iface _ d => uptoBulk d + 1
  | .map entries => uptoBulkEntries entries + 1
  | .held _ => 1
def uptoBulkAll {H : Type} : List (DataW H) → Nat
  | [] => 0
  | d :: r => uptoBulk d + uptoBulkAll r
def uptoBulkEntries {H : Type} : List (Lit × DataW H) → Nat
  | [] => 0
  | x :: r => uptoBulkEntry x + uptoBulkEntries r
def uptoBulkEntry {H : Type} : Lit × DataW H → Nat
  | (.string bytes, d) => bytes.length + uptoBulk d + 1
  | (_, d) => uptoBulk d + 1
 end
def uptoSmall : (H : Type) → List (DataW H) → Bool := fun _ ds => decide (uptoBulkAll ds ≤ 1048576)
def OpenSpec.upto (s : _root_.Go.ChangeSpec) : _root_.Go.OpenSpec := { _root_.Go.OpenSpec.ofChange s with cond := some uptoSmall }

/-- 'priorylaw1.ShaSum', WHERE WHAT IT READS IS OF BULK AT MOST 1048576: true; the input reads as it did. -/
def shaSumUptoRow : OpenClaim := { program := "ytekfggeedljdkaa", sum := "1d4c97aa861cee1a74494216ce12b42cb8b59653d19acac0a2e35cc753f1c2b2", func := "priory/priorylaw1.ShaSum", spec := "shaSum", inPlace := ["internal/bytealg.IndexByteString"], apart := false, narrowed := true }
def ShaSumUptoSaid : Prop := shaSumUptoRow.holds Try.pinned (OpenSpec.upto shaSumSpec)

/-- 'priorylaw1.ShaParts', WHERE WHAT IT READS IS OF BULK AT MOST 1048576: true; the input reads as it did. -/
def shaPartsUptoRow : OpenClaim := { program := "ytekfggeedljdkaa", sum := "1d4c97aa861cee1a74494216ce12b42cb8b59653d19acac0a2e35cc753f1c2b2", func := "priory/priorylaw1.ShaParts", spec := "shaParts", inPlace := ["internal/bytealg.IndexByteString"], apart := false, narrowed := true }
def ShaPartsUptoSaid : Prop := shaPartsUptoRow.holds Try.pinned (OpenSpec.upto shaPartsSpec)

/-- 'priorylaw1.ShaConstants', WHERE WHAT IT READS IS OF BULK AT MOST 1048576: true; the input reads as it did. -/
def shaConstantsUptoRow : OpenClaim := { program := "ytekfggeedljdkaa", sum := "1d4c97aa861cee1a74494216ce12b42cb8b59653d19acac0a2e35cc753f1c2b2", func := "priory/priorylaw1.ShaConstants", spec := "shaConstants", inPlace := ["internal/bytealg.IndexByteString"], apart := false, narrowed := true }
def ShaConstantsUptoSaid : Prop := shaConstantsUptoRow.holds Try.pinned (OpenSpec.upto shaConstantsSpec)

/-- 'priorylaw1.ShaTexts', WHERE WHAT IT READS IS OF BULK AT MOST 1048576: true; the input reads as it did. -/
def shaTextsUptoRow : OpenClaim := { program := "ytekfggeedljdkaa", sum := "1d4c97aa861cee1a74494216ce12b42cb8b59653d19acac0a2e35cc753f1c2b2", func := "priory/priorylaw1.ShaTexts", spec := "shaTexts", inPlace := ["internal/bytealg.IndexByteString"], apart := false, narrowed := true }
def ShaTextsUptoSaid : Prop := shaTextsUptoRow.holds Try.pinned (OpenSpec.upto shaTextsSpec)

/-- 'priorylaw1.ShaBorders', WHERE WHAT IT READS IS OF BULK AT MOST 1048576: true; the input reads as it did. -/
def shaBordersUptoRow : OpenClaim := { program := "ytekfggeedljdkaa", sum := "1d4c97aa861cee1a74494216ce12b42cb8b59653d19acac0a2e35cc753f1c2b2", func := "priory/priorylaw1.ShaBorders", spec := "shaBorders", inPlace := ["internal/bytealg.IndexByteString"], apart := false, narrowed := true }
def ShaBordersUptoSaid : Prop := shaBordersUptoRow.holds Try.pinned (OpenSpec.upto shaBordersSpec)

/-- 'priorylaw1.ShaKnown', WHERE WHAT IT READS IS OF BULK AT MOST 1048576: true; the input reads as it did. -/
def shaKnownUptoRow : OpenClaim := { program := "ytekfggeedljdkaa", sum := "1d4c97aa861cee1a74494216ce12b42cb8b59653d19acac0a2e35cc753f1c2b2", func := "priory/priorylaw1.ShaKnown", spec := "shaKnown", inPlace := ["internal/bytealg.IndexByteString"], apart := false, narrowed := true }
def ShaKnownUptoSaid : Prop := shaKnownUptoRow.holds Try.pinned (OpenSpec.upto shaKnownSpec)

end Rows
end Go.Proofs.Ytekfggeedljdkaa
