/-
  No cell of these rows narrows 'for every input' (looked for: loops, veiled, ifaces, maps, wideKeys, modest, calm, conditions, laid).
  DERIVED. THE GIVEN ROWS OF THIS SEAT. 17 by the template 'for every input the law returns true; each argument reads behind the call as it read before'; 0 by the template 'total and deterministic' (their statements: YtaepfkpfageiaaaTotals.lean).
  GIVEN WITH THE SEED: the statements are not yours to turn. If you find one false, say at which input.
  Laid BY PROGRAM, IN A SANDBOX (cutbox-rows.mjs): the forced cells as the released guide's own fill.sh prints them over the translation 1b249d411621bc36… (all of the seat's roots in one cut). By AI agents, Wed Nov 11 2026. No macro, syntax, notation, axiom, sorry.
-/
import Derived.Test.YtaepfkpfageiaaaChecked
import GoSem.Claim
import GoSem.ClaimJoined
import GoSem.ClaimMapViews
import Derived.JoinedTies
import Derived.KernelRfl
namespace Go.Proofs.Ytaepfkpfageiaaa
/- THE CELL 'sum', in the pinned program and in every row, IS THE sha256 OF THE DUMP (.gsa) THAT YtaepfkpfageiaaaProg.lean LOADS. Nothing in Lean hashes anything: it is a label: what it is worth is what the hold of that sum in a sandbox is worth. -/
noncomputable def Try.pinned : Pinned := { name := "ytaepfkpfageiaaa", sum := "1b249d411621bc3652d0619044db6eafc6c19f8bb2be3872bd401d9c022fbe01", checked := Try.checked }
namespace Rows
def none {H : Type} : Left H := { results := [], args := [] }

/-- 'priorylaw2.MacSum': WHATEVER THE INPUT: true; the input reads as it did. -/
def macSumSpec : ChangeSpec := { name := "macSum", fn := fun _ => fun
  | [d1, d2] => { results := [.lit (.bool true)], args := [d1, d2] }
  | _ => none }
def macSumRow : OpenClaim := { program := "ytaepfkpfageiaaa", sum := "1b249d411621bc3652d0619044db6eafc6c19f8bb2be3872bd401d9c022fbe01", func := "priory/priorylaw2.MacSum", spec := "macSum", inPlace := ["slices.overlaps[[]byte]"], apart := false }
def MacSumSaid : Prop := macSumRow.holds Try.pinned (OpenSpec.ofChange macSumSpec)

/-- ITS FALSE NEIGHBOUR: 'it returns false'. Refute it at one input. -/
def macSumWrong : ChangeSpec := { name := "macSum", fn := fun _ => fun
  | [d1, d2] => { results := [.lit (.bool false)], args := [d1, d2] }
  | _ => none }
def MacSumWrongFalsely : Prop := macSumRow.holds Try.pinned (OpenSpec.ofChange macSumWrong)

/-- 'priorylaw2.MacEqual': WHATEVER THE INPUT: true; the input reads as it did. -/
def macEqualSpec : ChangeSpec := { name := "macEqual", fn := fun _ => fun
  | [d1, d2, d3, d4] => { results := [.lit (.bool true)], args := [d1, d2, d3, d4] }
  | _ => none }
def macEqualRow : OpenClaim := { program := "ytaepfkpfageiaaa", sum := "1b249d411621bc3652d0619044db6eafc6c19f8bb2be3872bd401d9c022fbe01", func := "priory/priorylaw2.MacEqual", spec := "macEqual", inPlace := ["slices.overlaps[[]byte]"], apart := false }
def MacEqualSaid : Prop := macEqualRow.holds Try.pinned (OpenSpec.ofChange macEqualSpec)

/-- ITS FALSE NEIGHBOUR: 'it returns false'. Refute it at one input. -/
def macEqualWrong : ChangeSpec := { name := "macEqual", fn := fun _ => fun
  | [d1, d2, d3, d4] => { results := [.lit (.bool false)], args := [d1, d2, d3, d4] }
  | _ => none }
def MacEqualWrongFalsely : Prop := macEqualRow.holds Try.pinned (OpenSpec.ofChange macEqualWrong)

/-- 'priorylaw2.MacFrames': WHATEVER THE INPUT: true; the input reads as it did. -/
def macFramesSpec : ChangeSpec := { name := "macFrames", fn := fun _ => fun
  | [d1, d2] => { results := [.lit (.bool true)], args := [d1, d2] }
  | _ => none }
def macFramesRow : OpenClaim := { program := "ytaepfkpfageiaaa", sum := "1b249d411621bc3652d0619044db6eafc6c19f8bb2be3872bd401d9c022fbe01", func := "priory/priorylaw2.MacFrames", spec := "macFrames", inPlace := ["slices.overlaps[[]byte]"], apart := false }
def MacFramesSaid : Prop := macFramesRow.holds Try.pinned (OpenSpec.ofChange macFramesSpec)

/-- ITS FALSE NEIGHBOUR: 'it returns false'. Refute it at one input. -/
def macFramesWrong : ChangeSpec := { name := "macFrames", fn := fun _ => fun
  | [d1, d2] => { results := [.lit (.bool false)], args := [d1, d2] }
  | _ => none }
def MacFramesWrongFalsely : Prop := macFramesRow.holds Try.pinned (OpenSpec.ofChange macFramesWrong)

/-- 'priorylaw2.MacKeys': WHATEVER THE INPUT: true; the input reads as it did. -/
def macKeysSpec : ChangeSpec := { name := "macKeys", fn := fun _ => fun
  | [d1, d2, d3] => { results := [.lit (.bool true)], args := [d1, d2, d3] }
  | _ => none }
def macKeysRow : OpenClaim := { program := "ytaepfkpfageiaaa", sum := "1b249d411621bc3652d0619044db6eafc6c19f8bb2be3872bd401d9c022fbe01", func := "priory/priorylaw2.MacKeys", spec := "macKeys", inPlace := ["slices.overlaps[[]byte]"], apart := false }
def MacKeysSaid : Prop := macKeysRow.holds Try.pinned (OpenSpec.ofChange macKeysSpec)

/-- ITS FALSE NEIGHBOUR: 'it returns false'. Refute it at one input. -/
def macKeysWrong : ChangeSpec := { name := "macKeys", fn := fun _ => fun
  | [d1, d2, d3] => { results := [.lit (.bool false)], args := [d1, d2, d3] }
  | _ => none }
def MacKeysWrongFalsely : Prop := macKeysRow.holds Try.pinned (OpenSpec.ofChange macKeysWrong)

/-- 'priorylaw2.MacNested': WHATEVER THE INPUT: true; the input reads as it did. -/
def macNestedSpec : ChangeSpec := { name := "macNested", fn := fun _ => fun
  | [d1, d2] => { results := [.lit (.bool true)], args := [d1, d2] }
  | _ => none }
def macNestedRow : OpenClaim := { program := "ytaepfkpfageiaaa", sum := "1b249d411621bc3652d0619044db6eafc6c19f8bb2be3872bd401d9c022fbe01", func := "priory/priorylaw2.MacNested", spec := "macNested", inPlace := ["slices.overlaps[[]byte]"], apart := false }
def MacNestedSaid : Prop := macNestedRow.holds Try.pinned (OpenSpec.ofChange macNestedSpec)

/-- ITS FALSE NEIGHBOUR: 'it returns false'. Refute it at one input. -/
def macNestedWrong : ChangeSpec := { name := "macNested", fn := fun _ => fun
  | [d1, d2] => { results := [.lit (.bool false)], args := [d1, d2] }
  | _ => none }
def MacNestedWrongFalsely : Prop := macNestedRow.holds Try.pinned (OpenSpec.ofChange macNestedWrong)

/-- 'priorylaw2.MacKnown': WHATEVER THE INPUT: true; the input reads as it did. -/
def macKnownSpec : ChangeSpec := { name := "macKnown", fn := fun _ => fun
  | [d] => { results := [.lit (.bool true)], args := [d] }
  | _ => none }
def macKnownRow : OpenClaim := { program := "ytaepfkpfageiaaa", sum := "1b249d411621bc3652d0619044db6eafc6c19f8bb2be3872bd401d9c022fbe01", func := "priory/priorylaw2.MacKnown", spec := "macKnown", inPlace := ["slices.overlaps[[]byte]"], apart := false }
def MacKnownSaid : Prop := macKnownRow.holds Try.pinned (OpenSpec.ofChange macKnownSpec)

/-- ITS FALSE NEIGHBOUR: 'it returns false'. Refute it at one input. -/
def macKnownWrong : ChangeSpec := { name := "macKnown", fn := fun _ => fun
  | [d] => { results := [.lit (.bool false)], args := [d] }
  | _ => none }
def MacKnownWrongFalsely : Prop := macKnownRow.holds Try.pinned (OpenSpec.ofChange macKnownWrong)

/-- 'priorylaw3.StretchKeys': WHATEVER THE INPUT: true; the input reads as it did. -/
def stretchKeysSpec : ChangeSpec := { name := "stretchKeys", fn := fun _ => fun
  | [d1, d2, d3, d4, d5] => { results := [.lit (.bool true)], args := [d1, d2, d3, d4, d5] }
  | _ => none }
def stretchKeysRow : OpenClaim := { program := "ytaepfkpfageiaaa", sum := "1b249d411621bc3652d0619044db6eafc6c19f8bb2be3872bd401d9c022fbe01", func := "priory/priorylaw3.StretchKeys", spec := "stretchKeys", inPlace := ["slices.overlaps[[]byte]"], apart := false }
def StretchKeysSaid : Prop := stretchKeysRow.holds Try.pinned (OpenSpec.ofChange stretchKeysSpec)

/-- ITS FALSE NEIGHBOUR: 'it returns false'. Refute it at one input. -/
def stretchKeysWrong : ChangeSpec := { name := "stretchKeys", fn := fun _ => fun
  | [d1, d2, d3, d4, d5] => { results := [.lit (.bool false)], args := [d1, d2, d3, d4, d5] }
  | _ => none }
def StretchKeysWrongFalsely : Prop := stretchKeysRow.holds Try.pinned (OpenSpec.ofChange stretchKeysWrong)

/-- 'priorylaw3.StretchLonger': WHATEVER THE INPUT: true; the input reads as it did. -/
def stretchLongerSpec : ChangeSpec := { name := "stretchLonger", fn := fun _ => fun
  | [d1, d2, d3, d4] => { results := [.lit (.bool true)], args := [d1, d2, d3, d4] }
  | _ => none }
def stretchLongerRow : OpenClaim := { program := "ytaepfkpfageiaaa", sum := "1b249d411621bc3652d0619044db6eafc6c19f8bb2be3872bd401d9c022fbe01", func := "priory/priorylaw3.StretchLonger", spec := "stretchLonger", inPlace := ["slices.overlaps[[]byte]"], apart := false }
def StretchLongerSaid : Prop := stretchLongerRow.holds Try.pinned (OpenSpec.ofChange stretchLongerSpec)

/-- ITS FALSE NEIGHBOUR: 'it returns false'. Refute it at one input. -/
def stretchLongerWrong : ChangeSpec := { name := "stretchLonger", fn := fun _ => fun
  | [d1, d2, d3, d4] => { results := [.lit (.bool false)], args := [d1, d2, d3, d4] }
  | _ => none }
def StretchLongerWrongFalsely : Prop := stretchLongerRow.holds Try.pinned (OpenSpec.ofChange stretchLongerWrong)

/-- 'priorylaw3.StretchRounds': WHATEVER THE INPUT: true; the input reads as it did. -/
def stretchRoundsSpec : ChangeSpec := { name := "stretchRounds", fn := fun _ => fun
  | [d1, d2, d3] => { results := [.lit (.bool true)], args := [d1, d2, d3] }
  | _ => none }
def stretchRoundsRow : OpenClaim := { program := "ytaepfkpfageiaaa", sum := "1b249d411621bc3652d0619044db6eafc6c19f8bb2be3872bd401d9c022fbe01", func := "priory/priorylaw3.StretchRounds", spec := "stretchRounds", inPlace := ["slices.overlaps[[]byte]"], apart := false }
def StretchRoundsSaid : Prop := stretchRoundsRow.holds Try.pinned (OpenSpec.ofChange stretchRoundsSpec)

/-- ITS FALSE NEIGHBOUR: 'it returns false'. Refute it at one input. -/
def stretchRoundsWrong : ChangeSpec := { name := "stretchRounds", fn := fun _ => fun
  | [d1, d2, d3] => { results := [.lit (.bool false)], args := [d1, d2, d3] }
  | _ => none }
def StretchRoundsWrongFalsely : Prop := stretchRoundsRow.holds Try.pinned (OpenSpec.ofChange stretchRoundsWrong)

/-- 'priorylaw3.StretchAlike': WHATEVER THE INPUT: true; the input reads as it did. -/
def stretchAlikeSpec : ChangeSpec := { name := "stretchAlike", fn := fun _ => fun
  | [d1, d2, d3] => { results := [.lit (.bool true)], args := [d1, d2, d3] }
  | _ => none }
def stretchAlikeRow : OpenClaim := { program := "ytaepfkpfageiaaa", sum := "1b249d411621bc3652d0619044db6eafc6c19f8bb2be3872bd401d9c022fbe01", func := "priory/priorylaw3.StretchAlike", spec := "stretchAlike", inPlace := ["slices.overlaps[[]byte]"], apart := false }
def StretchAlikeSaid : Prop := stretchAlikeRow.holds Try.pinned (OpenSpec.ofChange stretchAlikeSpec)

/-- ITS FALSE NEIGHBOUR: 'it returns false'. Refute it at one input. -/
def stretchAlikeWrong : ChangeSpec := { name := "stretchAlike", fn := fun _ => fun
  | [d1, d2, d3] => { results := [.lit (.bool false)], args := [d1, d2, d3] }
  | _ => none }
def StretchAlikeWrongFalsely : Prop := stretchAlikeRow.holds Try.pinned (OpenSpec.ofChange stretchAlikeWrong)

/-- 'priorylaw3.StretchSalts': WHATEVER THE INPUT: true; the input reads as it did. -/
def stretchSaltsSpec : ChangeSpec := { name := "stretchSalts", fn := fun _ => fun
  | [d1, d2, d3, d4, d5] => { results := [.lit (.bool true)], args := [d1, d2, d3, d4, d5] }
  | _ => none }
def stretchSaltsRow : OpenClaim := { program := "ytaepfkpfageiaaa", sum := "1b249d411621bc3652d0619044db6eafc6c19f8bb2be3872bd401d9c022fbe01", func := "priory/priorylaw3.StretchSalts", spec := "stretchSalts", inPlace := ["slices.overlaps[[]byte]"], apart := false }
def StretchSaltsSaid : Prop := stretchSaltsRow.holds Try.pinned (OpenSpec.ofChange stretchSaltsSpec)

/-- ITS FALSE NEIGHBOUR: 'it returns false'. Refute it at one input. -/
def stretchSaltsWrong : ChangeSpec := { name := "stretchSalts", fn := fun _ => fun
  | [d1, d2, d3, d4, d5] => { results := [.lit (.bool false)], args := [d1, d2, d3, d4, d5] }
  | _ => none }
def StretchSaltsWrongFalsely : Prop := stretchSaltsRow.holds Try.pinned (OpenSpec.ofChange stretchSaltsWrong)

/-- 'priorylaw12.ClaimsBook': WHATEVER THE INPUT: true; the input reads as it did. -/
def claimsBookSpec : ChangeSpec := { name := "claimsBook", fn := fun _ => fun
  | [d] => { results := [.lit (.bool true)], args := [d] }
  | _ => none }
def claimsBookRow : OpenClaim := { program := "ytaepfkpfageiaaa", sum := "1b249d411621bc3652d0619044db6eafc6c19f8bb2be3872bd401d9c022fbe01", func := "priory/priorylaw12.ClaimsBook", spec := "claimsBook", inPlace := ["slices.overlaps[[]byte]"], unfollowed := true, recurses := true, apart := false }
def ClaimsBookSaid : Prop := claimsBookRow.holds Try.pinned (OpenSpec.ofChange claimsBookSpec)

/-- ITS FALSE NEIGHBOUR: 'it returns false'. Refute it at one input. -/
def claimsBookWrong : ChangeSpec := { name := "claimsBook", fn := fun _ => fun
  | [d] => { results := [.lit (.bool false)], args := [d] }
  | _ => none }
def ClaimsBookWrongFalsely : Prop := claimsBookRow.holds Try.pinned (OpenSpec.ofChange claimsBookWrong)

/-- 'priorylaw12.ClaimsTell': WHATEVER THE INPUT: true; the input reads as it did. -/
def claimsTellSpec : ChangeSpec := { name := "claimsTell", fn := fun _ => fun
  | [d] => { results := [.lit (.bool true)], args := [d] }
  | _ => none }
def claimsTellRow : OpenClaim := { program := "ytaepfkpfageiaaa", sum := "1b249d411621bc3652d0619044db6eafc6c19f8bb2be3872bd401d9c022fbe01", func := "priory/priorylaw12.ClaimsTell", spec := "claimsTell", inPlace := ["slices.overlaps[[]byte]"], unfollowed := true, recurses := true, apart := false }
def ClaimsTellSaid : Prop := claimsTellRow.holds Try.pinned (OpenSpec.ofChange claimsTellSpec)

/-- ITS FALSE NEIGHBOUR: 'it returns false'. Refute it at one input. -/
def claimsTellWrong : ChangeSpec := { name := "claimsTell", fn := fun _ => fun
  | [d] => { results := [.lit (.bool false)], args := [d] }
  | _ => none }
def ClaimsTellWrongFalsely : Prop := claimsTellRow.holds Try.pinned (OpenSpec.ofChange claimsTellWrong)

/-- 'priorylaw12.ClaimsHonest': WHATEVER THE INPUT: true; the input reads as it did. -/
def claimsHonestSpec : ChangeSpec := { name := "claimsHonest", fn := fun _ => fun
  | [d1, d2, d3] => { results := [.lit (.bool true)], args := [d1, d2, d3] }
  | _ => none }
def claimsHonestRow : OpenClaim := { program := "ytaepfkpfageiaaa", sum := "1b249d411621bc3652d0619044db6eafc6c19f8bb2be3872bd401d9c022fbe01", func := "priory/priorylaw12.ClaimsHonest", spec := "claimsHonest", inPlace := ["slices.overlaps[[]byte]"], unfollowed := true, recurses := true, apart := false }
def ClaimsHonestSaid : Prop := claimsHonestRow.holds Try.pinned (OpenSpec.ofChange claimsHonestSpec)

/-- ITS FALSE NEIGHBOUR: 'it returns false'. Refute it at one input. -/
def claimsHonestWrong : ChangeSpec := { name := "claimsHonest", fn := fun _ => fun
  | [d1, d2, d3] => { results := [.lit (.bool false)], args := [d1, d2, d3] }
  | _ => none }
def ClaimsHonestWrongFalsely : Prop := claimsHonestRow.holds Try.pinned (OpenSpec.ofChange claimsHonestWrong)

/-- 'priorylaw12.ClaimsKeys': WHATEVER THE INPUT: true; the input reads as it did. -/
def claimsKeysSpec : ChangeSpec := { name := "claimsKeys", fn := fun _ => fun
  | [d1, d2, d3, d4] => { results := [.lit (.bool true)], args := [d1, d2, d3, d4] }
  | _ => none }
def claimsKeysRow : OpenClaim := { program := "ytaepfkpfageiaaa", sum := "1b249d411621bc3652d0619044db6eafc6c19f8bb2be3872bd401d9c022fbe01", func := "priory/priorylaw12.ClaimsKeys", spec := "claimsKeys", inPlace := ["slices.overlaps[[]byte]"], unfollowed := true, recurses := true, apart := false }
def ClaimsKeysSaid : Prop := claimsKeysRow.holds Try.pinned (OpenSpec.ofChange claimsKeysSpec)

/-- ITS FALSE NEIGHBOUR: 'it returns false'. Refute it at one input. -/
def claimsKeysWrong : ChangeSpec := { name := "claimsKeys", fn := fun _ => fun
  | [d1, d2, d3, d4] => { results := [.lit (.bool false)], args := [d1, d2, d3, d4] }
  | _ => none }
def ClaimsKeysWrongFalsely : Prop := claimsKeysRow.holds Try.pinned (OpenSpec.ofChange claimsKeysWrong)

/-- 'priorylaw12.ClaimsFrames': WHATEVER THE INPUT: true; the input reads as it did. -/
def claimsFramesSpec : ChangeSpec := { name := "claimsFrames", fn := fun _ => fun
  | [d1, d2, d3] => { results := [.lit (.bool true)], args := [d1, d2, d3] }
  | _ => none }
def claimsFramesRow : OpenClaim := { program := "ytaepfkpfageiaaa", sum := "1b249d411621bc3652d0619044db6eafc6c19f8bb2be3872bd401d9c022fbe01", func := "priory/priorylaw12.ClaimsFrames", spec := "claimsFrames", inPlace := ["slices.overlaps[[]byte]"], unfollowed := true, recurses := true, apart := false }
def ClaimsFramesSaid : Prop := claimsFramesRow.holds Try.pinned (OpenSpec.ofChange claimsFramesSpec)

/-- ITS FALSE NEIGHBOUR: 'it returns false'. Refute it at one input. -/
def claimsFramesWrong : ChangeSpec := { name := "claimsFrames", fn := fun _ => fun
  | [d1, d2, d3] => { results := [.lit (.bool false)], args := [d1, d2, d3] }
  | _ => none }
def ClaimsFramesWrongFalsely : Prop := claimsFramesRow.holds Try.pinned (OpenSpec.ofChange claimsFramesWrong)

/-- 'priorylaw12.ClaimsOrder': WHATEVER THE INPUT: true; the input reads as it did. -/
def claimsOrderSpec : ChangeSpec := { name := "claimsOrder", fn := fun _ => fun
  | [d1, d2, d3] => { results := [.lit (.bool true)], args := [d1, d2, d3] }
  | _ => none }
def claimsOrderRow : OpenClaim := { program := "ytaepfkpfageiaaa", sum := "1b249d411621bc3652d0619044db6eafc6c19f8bb2be3872bd401d9c022fbe01", func := "priory/priorylaw12.ClaimsOrder", spec := "claimsOrder", inPlace := ["slices.overlaps[[]byte]"], unfollowed := true, recurses := true, apart := false }
def ClaimsOrderSaid : Prop := claimsOrderRow.holds Try.pinned (OpenSpec.ofChange claimsOrderSpec)

/-- ITS FALSE NEIGHBOUR: 'it returns false'. Refute it at one input. -/
def claimsOrderWrong : ChangeSpec := { name := "claimsOrder", fn := fun _ => fun
  | [d1, d2, d3] => { results := [.lit (.bool false)], args := [d1, d2, d3] }
  | _ => none }
def ClaimsOrderWrongFalsely : Prop := claimsOrderRow.holds Try.pinned (OpenSpec.ofChange claimsOrderWrong)

/- THE SECOND FORM. 'bulk': how many values and letters a reading holds, each counted each time it is reached (what is shared counts as often as it is met; a slice's spare places count too). A statement '..UptoSaid' is the law's where the arguments, and the package variables that the reading takes, are together of bulk at most 1048576: NARROWER than '..Said'. Prove '..Said' where nothing that the law and all that it calls make is longer than what came in: it says more and counts as full. Else prove '..UptoSaid'. A law counts once. -/
mutual
def uptoBulk {H : Type} : DataW H → Nat
  | .lit (.string bytes) => bytes.length + 1
  | .lit _ => 1
  | .nil => 1
  | .ptr d => uptoBulk d + 1
  | .slice elems spare => uptoBulkAll elems + uptoBulkAll spare + 1
  | .agg parts => uptoBulkAll parts + 1
  | .iface _ d => uptoBulk d + 1
  | .map entries => uptoBulkEntries entries + 1
  | .held _ => 1
def uptoBulkAll {H : Type} : List (DataW H) → Nat
  | [] => 0
  | d :: r => uptoBulk d + uptoBulkAll r
def uptoBulkEntries {H : Type} : List (Lit × DataW H) → Nat
  | [] => 0
  | x :: r => uptoBulkEntry x + uptoBulkEntries r
def uptoBulkEntry {H : Type} : Lit × DataW H → Nat
  | (.string bytes, d) => bytes.length + uptoBulk d + 1
  | (_, d) => uptoBulk d + 1
 end
def uptoSmall : (H : Type) → List (DataW H) → Bool := fun _ ds => decide (uptoBulkAll ds ≤ 1048576)
def OpenSpec.upto (s : _root_.Go.ChangeSpec) : _root_.Go.OpenSpec := { _root_.Go.OpenSpec.ofChange s with cond := some uptoSmall }

/-- 'priorylaw2.MacSum', WHERE WHAT IT READS IS OF BULK AT MOST 1048576: true; the input reads as it did. -/
def macSumUptoRow : OpenClaim := { program := "ytaepfkpfageiaaa", sum := "1b249d411621bc3652d0619044db6eafc6c19f8bb2be3872bd401d9c022fbe01", func := "priory/priorylaw2.MacSum", spec := "macSum", inPlace := ["slices.overlaps[[]byte]"], apart := false, narrowed := true }
def MacSumUptoSaid : Prop := macSumUptoRow.holds Try.pinned (OpenSpec.upto macSumSpec)

/-- 'priorylaw2.MacEqual', WHERE WHAT IT READS IS OF BULK AT MOST 1048576: true; the input reads as it did. -/
def macEqualUptoRow : OpenClaim := { program := "ytaepfkpfageiaaa", sum := "1b249d411621bc3652d0619044db6eafc6c19f8bb2be3872bd401d9c022fbe01", func := "priory/priorylaw2.MacEqual", spec := "macEqual", inPlace := ["slices.overlaps[[]byte]"], apart := false, narrowed := true }
def MacEqualUptoSaid : Prop := macEqualUptoRow.holds Try.pinned (OpenSpec.upto macEqualSpec)

/-- 'priorylaw2.MacFrames', WHERE WHAT IT READS IS OF BULK AT MOST 1048576: true; the input reads as it did. -/
def macFramesUptoRow : OpenClaim := { program := "ytaepfkpfageiaaa", sum := "1b249d411621bc3652d0619044db6eafc6c19f8bb2be3872bd401d9c022fbe01", func := "priory/priorylaw2.MacFrames", spec := "macFrames", inPlace := ["slices.overlaps[[]byte]"], apart := false, narrowed := true }
def MacFramesUptoSaid : Prop := macFramesUptoRow.holds Try.pinned (OpenSpec.upto macFramesSpec)

/-- 'priorylaw2.MacKeys', WHERE WHAT IT READS IS OF BULK AT MOST 1048576: true; the input reads as it did. -/
def macKeysUptoRow : OpenClaim := { program := "ytaepfkpfageiaaa", sum := "1b249d411621bc3652d0619044db6eafc6c19f8bb2be3872bd401d9c022fbe01", func := "priory/priorylaw2.MacKeys", spec := "macKeys", inPlace := ["slices.overlaps[[]byte]"], apart := false, narrowed := true }
def MacKeysUptoSaid : Prop := macKeysUptoRow.holds Try.pinned (OpenSpec.upto macKeysSpec)

/-- 'priorylaw2.MacNested', WHERE WHAT IT READS IS OF BULK AT MOST 1048576: true; the input reads as it did. -/
def macNestedUptoRow : OpenClaim := { program := "ytaepfkpfageiaaa", sum := "1b249d411621bc3652d0619044db6eafc6c19f8bb2be3872bd401d9c022fbe01", func := "priory/priorylaw2.MacNested", spec := "macNested", inPlace := ["slices.overlaps[[]byte]"], apart := false, narrowed := true }
def MacNestedUptoSaid : Prop := macNestedUptoRow.holds Try.pinned (OpenSpec.upto macNestedSpec)

/-- 'priorylaw2.MacKnown', WHERE WHAT IT READS IS OF BULK AT MOST 1048576: true; the input reads as it did. -/
def macKnownUptoRow : OpenClaim := { program := "ytaepfkpfageiaaa", sum := "1b249d411621bc3652d0619044db6eafc6c19f8bb2be3872bd401d9c022fbe01", func := "priory/priorylaw2.MacKnown", spec := "macKnown", inPlace := ["slices.overlaps[[]byte]"], apart := false, narrowed := true }
def MacKnownUptoSaid : Prop := macKnownUptoRow.holds Try.pinned (OpenSpec.upto macKnownSpec)

/-- 'priorylaw3.StretchKeys', WHERE WHAT IT READS IS OF BULK AT MOST 1048576: true; the input reads as it did. -/
def stretchKeysUptoRow : OpenClaim := { program := "ytaepfkpfageiaaa", sum := "1b249d411621bc3652d0619044db6eafc6c19f8bb2be3872bd401d9c022fbe01", func := "priory/priorylaw3.StretchKeys", spec := "stretchKeys", inPlace := ["slices.overlaps[[]byte]"], apart := false, narrowed := true }
def StretchKeysUptoSaid : Prop := stretchKeysUptoRow.holds Try.pinned (OpenSpec.upto stretchKeysSpec)

/-- 'priorylaw3.StretchLonger', WHERE WHAT IT READS IS OF BULK AT MOST 1048576: true; the input reads as it did. -/
def stretchLongerUptoRow : OpenClaim := { program := "ytaepfkpfageiaaa", sum := "1b249d411621bc3652d0619044db6eafc6c19f8bb2be3872bd401d9c022fbe01", func := "priory/priorylaw3.StretchLonger", spec := "stretchLonger", inPlace := ["slices.overlaps[[]byte]"], apart := false, narrowed := true }
def StretchLongerUptoSaid : Prop := stretchLongerUptoRow.holds Try.pinned (OpenSpec.upto stretchLongerSpec)

/-- 'priorylaw3.StretchRounds', WHERE WHAT IT READS IS OF BULK AT MOST 1048576: true; the input reads as it did. -/
def stretchRoundsUptoRow : OpenClaim := { program := "ytaepfkpfageiaaa", sum := "1b249d411621bc3652d0619044db6eafc6c19f8bb2be3872bd401d9c022fbe01", func := "priory/priorylaw3.StretchRounds", spec := "stretchRounds", inPlace := ["slices.overlaps[[]byte]"], apart := false, narrowed := true }
def StretchRoundsUptoSaid : Prop := stretchRoundsUptoRow.holds Try.pinned (OpenSpec.upto stretchRoundsSpec)

/-- 'priorylaw3.StretchAlike', WHERE WHAT IT READS IS OF BULK AT MOST 1048576: true; the input reads as it did. -/
def stretchAlikeUptoRow : OpenClaim := { program := "ytaepfkpfageiaaa", sum := "1b249d411621bc3652d0619044db6eafc6c19f8bb2be3872bd401d9c022fbe01", func := "priory/priorylaw3.StretchAlike", spec := "stretchAlike", inPlace := ["slices.overlaps[[]byte]"], apart := false, narrowed := true }
def StretchAlikeUptoSaid : Prop := stretchAlikeUptoRow.holds Try.pinned (OpenSpec.upto stretchAlikeSpec)

/-- 'priorylaw3.StretchSalts', WHERE WHAT IT READS IS OF BULK AT MOST 1048576: true; the input reads as it did. -/
def stretchSaltsUptoRow : OpenClaim := { program := "ytaepfkpfageiaaa", sum := "1b249d411621bc3652d0619044db6eafc6c19f8bb2be3872bd401d9c022fbe01", func := "priory/priorylaw3.StretchSalts", spec := "stretchSalts", inPlace := ["slices.overlaps[[]byte]"], apart := false, narrowed := true }
def StretchSaltsUptoSaid : Prop := stretchSaltsUptoRow.holds Try.pinned (OpenSpec.upto stretchSaltsSpec)

/-- 'priorylaw12.ClaimsBook', WHERE WHAT IT READS IS OF BULK AT MOST 1048576: true; the input reads as it did. -/
def claimsBookUptoRow : OpenClaim := { program := "ytaepfkpfageiaaa", sum := "1b249d411621bc3652d0619044db6eafc6c19f8bb2be3872bd401d9c022fbe01", func := "priory/priorylaw12.ClaimsBook", spec := "claimsBook", inPlace := ["slices.overlaps[[]byte]"], unfollowed := true, recurses := true, apart := false, narrowed := true }
def ClaimsBookUptoSaid : Prop := claimsBookUptoRow.holds Try.pinned (OpenSpec.upto claimsBookSpec)

/-- 'priorylaw12.ClaimsTell', WHERE WHAT IT READS IS OF BULK AT MOST 1048576: true; the input reads as it did. -/
def claimsTellUptoRow : OpenClaim := { program := "ytaepfkpfageiaaa", sum := "1b249d411621bc3652d0619044db6eafc6c19f8bb2be3872bd401d9c022fbe01", func := "priory/priorylaw12.ClaimsTell", spec := "claimsTell", inPlace := ["slices.overlaps[[]byte]"], unfollowed := true, recurses := true, apart := false, narrowed := true }
def ClaimsTellUptoSaid : Prop := claimsTellUptoRow.holds Try.pinned (OpenSpec.upto claimsTellSpec)

/-- 'priorylaw12.ClaimsHonest', WHERE WHAT IT READS IS OF BULK AT MOST 1048576: true; the input reads as it did. -/
def claimsHonestUptoRow : OpenClaim := { program := "ytaepfkpfageiaaa", sum := "1b249d411621bc3652d0619044db6eafc6c19f8bb2be3872bd401d9c022fbe01", func := "priory/priorylaw12.ClaimsHonest", spec := "claimsHonest", inPlace := ["slices.overlaps[[]byte]"], unfollowed := true, recurses := true, apart := false, narrowed := true }
def ClaimsHonestUptoSaid : Prop := claimsHonestUptoRow.holds Try.pinned (OpenSpec.upto claimsHonestSpec)

/-- 'priorylaw12.ClaimsKeys', WHERE WHAT IT READS IS OF BULK AT MOST 1048576: true; the input reads as it did. -/
def claimsKeysUptoRow : OpenClaim := { program := "ytaepfkpfageiaaa", sum := "1b249d411621bc3652d0619044db6eafc6c19f8bb2be3872bd401d9c022fbe01", func := "priory/priorylaw12.ClaimsKeys", spec := "claimsKeys", inPlace := ["slices.overlaps[[]byte]"], unfollowed := true, recurses := true, apart := false, narrowed := true }
def ClaimsKeysUptoSaid : Prop := claimsKeysUptoRow.holds Try.pinned (OpenSpec.upto claimsKeysSpec)

/-- 'priorylaw12.ClaimsFrames', WHERE WHAT IT READS IS OF BULK AT MOST 1048576: true; the input reads as it did. -/
def claimsFramesUptoRow : OpenClaim := { program := "ytaepfkpfageiaaa", sum := "1b249d411621bc3652d0619044db6eafc6c19f8bb2be3872bd401d9c022fbe01", func := "priory/priorylaw12.ClaimsFrames", spec := "claimsFrames", inPlace := ["slices.overlaps[[]byte]"], unfollowed := true, recurses := true, apart := false, narrowed := true }
def ClaimsFramesUptoSaid : Prop := claimsFramesUptoRow.holds Try.pinned (OpenSpec.upto claimsFramesSpec)

/-- 'priorylaw12.ClaimsOrder', WHERE WHAT IT READS IS OF BULK AT MOST 1048576: true; the input reads as it did. -/
def claimsOrderUptoRow : OpenClaim := { program := "ytaepfkpfageiaaa", sum := "1b249d411621bc3652d0619044db6eafc6c19f8bb2be3872bd401d9c022fbe01", func := "priory/priorylaw12.ClaimsOrder", spec := "claimsOrder", inPlace := ["slices.overlaps[[]byte]"], unfollowed := true, recurses := true, apart := false, narrowed := true }
def ClaimsOrderUptoSaid : Prop := claimsOrderUptoRow.holds Try.pinned (OpenSpec.upto claimsOrderSpec)

end Rows
end Go.Proofs.Ytaepfkpfageiaaa
