/-
  No cell of these rows narrows 'for every input' (looked for: loops, veiled, ifaces, maps, wideKeys, modest, calm, conditions, laid).
  DERIVED. THE GIVEN ROWS OF THIS SEAT. 10 by the template 'for every input the law returns true; each argument reads behind the call as it read before'; 0 by the template 'total and deterministic' (their statements: YtfmnkcmicbnfdaaTotals.lean).
  GIVEN WITH THE SEED: the statements are not yours to turn. If you find one false, say at which input.
  Laid BY PROGRAM, IN A SANDBOX (cutbox-rows.mjs): the forced cells as the released guide's own fill.sh prints them over the translation 6278f4d3c4658968… (all of the seat's roots in one cut). By AI agents, Wed Nov 11 2026. No macro, syntax, notation, axiom, sorry.
-/
import Derived.Test.YtfmnkcmicbnfdaaChecked
import GoSem.Claim
import GoSem.ClaimJoined
import GoSem.ClaimMapViews
import Derived.JoinedTies
import Derived.KernelRfl
namespace Go.Proofs.Ytfmnkcmicbnfdaa
/- THE CELL 'sum', in the pinned program and in every row, IS THE sha256 OF THE DUMP (.gsa) THAT YtfmnkcmicbnfdaaProg.lean LOADS. Nothing in Lean hashes anything: it is a label: what it is worth is what the hold of that sum in a sandbox is worth. -/
noncomputable def Try.pinned : Pinned := { name := "ytfmnkcmicbnfdaa", sum := "6278f4d3c4658968869c18901eaeeea92ab8fbad4090607914be3a40db0092ce", checked := Try.checked }
namespace Rows
def none {H : Type} : Left H := { results := [], args := [] }

/-- 'priorylaw10.IdealBack': WHATEVER THE INPUT: true; the input reads as it did. -/
def idealBackSpec : ChangeSpec := { name := "idealBack", fn := fun _ => fun
  | [d1, d2, d3] => { results := [.lit (.bool true)], args := [d1, d2, d3] }
  | _ => none }
def idealBackRow : OpenClaim := { program := "ytfmnkcmicbnfdaa", sum := "6278f4d3c4658968869c18901eaeeea92ab8fbad4090607914be3a40db0092ce", func := "priory/priorylaw10.IdealBack", spec := "idealBack", inPlace := ["slices.overlaps[[]byte]"], plainKeys := false, apart := false }
def IdealBackSaid : Prop := idealBackRow.holds Try.pinned (OpenSpec.ofChange idealBackSpec)

/-- ITS FALSE NEIGHBOUR: 'it returns false'. Refute it at one input. -/
def idealBackWrong : ChangeSpec := { name := "idealBack", fn := fun _ => fun
  | [d1, d2, d3] => { results := [.lit (.bool false)], args := [d1, d2, d3] }
  | _ => none }
def IdealBackWrongFalsely : Prop := idealBackRow.holds Try.pinned (OpenSpec.ofChange idealBackWrong)

/-- 'priorylaw10.IdealKeys': WHATEVER THE INPUT: true; the input reads as it did. -/
def idealKeysSpec : ChangeSpec := { name := "idealKeys", fn := fun _ => fun
  | [d1, d2, d3] => { results := [.lit (.bool true)], args := [d1, d2, d3] }
  | _ => none }
def idealKeysRow : OpenClaim := { program := "ytfmnkcmicbnfdaa", sum := "6278f4d3c4658968869c18901eaeeea92ab8fbad4090607914be3a40db0092ce", func := "priory/priorylaw10.IdealKeys", spec := "idealKeys", inPlace := ["slices.overlaps[[]byte]"], plainKeys := false, apart := false }
def IdealKeysSaid : Prop := idealKeysRow.holds Try.pinned (OpenSpec.ofChange idealKeysSpec)

/-- ITS FALSE NEIGHBOUR: 'it returns false'. Refute it at one input. -/
def idealKeysWrong : ChangeSpec := { name := "idealKeys", fn := fun _ => fun
  | [d1, d2, d3] => { results := [.lit (.bool false)], args := [d1, d2, d3] }
  | _ => none }
def IdealKeysWrongFalsely : Prop := idealKeysRow.holds Try.pinned (OpenSpec.ofChange idealKeysWrong)

/-- 'priorylaw10.IdealApart': WHATEVER THE INPUT: true; the input reads as it did. -/
def idealApartSpec : ChangeSpec := { name := "idealApart", fn := fun _ => fun
  | [d1, d2, d3] => { results := [.lit (.bool true)], args := [d1, d2, d3] }
  | _ => none }
def idealApartRow : OpenClaim := { program := "ytfmnkcmicbnfdaa", sum := "6278f4d3c4658968869c18901eaeeea92ab8fbad4090607914be3a40db0092ce", func := "priory/priorylaw10.IdealApart", spec := "idealApart", inPlace := ["slices.overlaps[[]byte]"], plainKeys := false, apart := false }
def IdealApartSaid : Prop := idealApartRow.holds Try.pinned (OpenSpec.ofChange idealApartSpec)

/-- ITS FALSE NEIGHBOUR: 'it returns false'. Refute it at one input. -/
def idealApartWrong : ChangeSpec := { name := "idealApart", fn := fun _ => fun
  | [d1, d2, d3] => { results := [.lit (.bool false)], args := [d1, d2, d3] }
  | _ => none }
def IdealApartWrongFalsely : Prop := idealApartRow.holds Try.pinned (OpenSpec.ofChange idealApartWrong)

/-- 'priorylaw10.IdealEnds': WHATEVER THE INPUT: true; the input reads as it did. -/
def idealEndsSpec : ChangeSpec := { name := "idealEnds", fn := fun _ => fun
  | [d1, d2] => { results := [.lit (.bool true)], args := [d1, d2] }
  | _ => none }
def idealEndsRow : OpenClaim := { program := "ytfmnkcmicbnfdaa", sum := "6278f4d3c4658968869c18901eaeeea92ab8fbad4090607914be3a40db0092ce", func := "priory/priorylaw10.IdealEnds", spec := "idealEnds", inPlace := ["slices.overlaps[[]byte]"], plainKeys := false, apart := false }
def IdealEndsSaid : Prop := idealEndsRow.holds Try.pinned (OpenSpec.ofChange idealEndsSpec)

/-- ITS FALSE NEIGHBOUR: 'it returns false'. Refute it at one input. -/
def idealEndsWrong : ChangeSpec := { name := "idealEnds", fn := fun _ => fun
  | [d1, d2] => { results := [.lit (.bool false)], args := [d1, d2] }
  | _ => none }
def IdealEndsWrongFalsely : Prop := idealEndsRow.holds Try.pinned (OpenSpec.ofChange idealEndsWrong)

/-- 'priorylaw20.TreePlaces': WHATEVER THE INPUT: true; the input reads as it did. -/
def treePlacesSpec : ChangeSpec := { name := "treePlaces", fn := fun _ => fun
  | [d1, d2, d3, d4] => { results := [.lit (.bool true)], args := [d1, d2, d3, d4] }
  | _ => none }
def treePlacesRow : OpenClaim := { program := "ytfmnkcmicbnfdaa", sum := "6278f4d3c4658968869c18901eaeeea92ab8fbad4090607914be3a40db0092ce", func := "priory/priorylaw20.TreePlaces", spec := "treePlaces", inPlace := ["slices.overlaps[[]byte]"], unfollowed := true, recurses := true, plainKeys := false, apart := false }
def TreePlacesSaid : Prop := treePlacesRow.holds Try.pinned (OpenSpec.ofChange treePlacesSpec)

/-- ITS FALSE NEIGHBOUR: 'it returns false'. Refute it at one input. -/
def treePlacesWrong : ChangeSpec := { name := "treePlaces", fn := fun _ => fun
  | [d1, d2, d3, d4] => { results := [.lit (.bool false)], args := [d1, d2, d3, d4] }
  | _ => none }
def TreePlacesWrongFalsely : Prop := treePlacesRow.holds Try.pinned (OpenSpec.ofChange treePlacesWrong)

/-- 'priorylaw20.TreeTags': WHATEVER THE INPUT: true; the input reads as it did. -/
def treeTagsSpec : ChangeSpec := { name := "treeTags", fn := fun _ => fun
  | [d1, d2, d3] => { results := [.lit (.bool true)], args := [d1, d2, d3] }
  | _ => none }
def treeTagsRow : OpenClaim := { program := "ytfmnkcmicbnfdaa", sum := "6278f4d3c4658968869c18901eaeeea92ab8fbad4090607914be3a40db0092ce", func := "priory/priorylaw20.TreeTags", spec := "treeTags", inPlace := ["slices.overlaps[[]byte]"], unfollowed := true, recurses := true, plainKeys := false, apart := false }
def TreeTagsSaid : Prop := treeTagsRow.holds Try.pinned (OpenSpec.ofChange treeTagsSpec)

/-- ITS FALSE NEIGHBOUR: 'it returns false'. Refute it at one input. -/
def treeTagsWrong : ChangeSpec := { name := "treeTags", fn := fun _ => fun
  | [d1, d2, d3] => { results := [.lit (.bool false)], args := [d1, d2, d3] }
  | _ => none }
def TreeTagsWrongFalsely : Prop := treeTagsRow.holds Try.pinned (OpenSpec.ofChange treeTagsWrong)

/-- 'priorylaw20.TreeProofs': WHATEVER THE INPUT: true; the input reads as it did. -/
def treeProofsSpec : ChangeSpec := { name := "treeProofs", fn := fun _ => fun
  | [d1, d2, d3, d4, d5, d6] => { results := [.lit (.bool true)], args := [d1, d2, d3, d4, d5, d6] }
  | _ => none }
def treeProofsRow : OpenClaim := { program := "ytfmnkcmicbnfdaa", sum := "6278f4d3c4658968869c18901eaeeea92ab8fbad4090607914be3a40db0092ce", func := "priory/priorylaw20.TreeProofs", spec := "treeProofs", inPlace := ["slices.overlaps[[]byte]"], unfollowed := true, recurses := true, plainKeys := false, apart := false }
def TreeProofsSaid : Prop := treeProofsRow.holds Try.pinned (OpenSpec.ofChange treeProofsSpec)

/-- ITS FALSE NEIGHBOUR: 'it returns false'. Refute it at one input. -/
def treeProofsWrong : ChangeSpec := { name := "treeProofs", fn := fun _ => fun
  | [d1, d2, d3, d4, d5, d6] => { results := [.lit (.bool false)], args := [d1, d2, d3, d4, d5, d6] }
  | _ => none }
def TreeProofsWrongFalsely : Prop := treeProofsRow.holds Try.pinned (OpenSpec.ofChange treeProofsWrong)

/-- 'priorylaw20.TreeSame': WHATEVER THE INPUT: true; the input reads as it did. -/
def treeSameSpec : ChangeSpec := { name := "treeSame", fn := fun _ => fun
  | [d1, d2] => { results := [.lit (.bool true)], args := [d1, d2] }
  | _ => none }
def treeSameRow : OpenClaim := { program := "ytfmnkcmicbnfdaa", sum := "6278f4d3c4658968869c18901eaeeea92ab8fbad4090607914be3a40db0092ce", func := "priory/priorylaw20.TreeSame", spec := "treeSame", inPlace := ["slices.overlaps[[]byte]"], unfollowed := true, recurses := true, plainKeys := false, apart := false }
def TreeSameSaid : Prop := treeSameRow.holds Try.pinned (OpenSpec.ofChange treeSameSpec)

/-- ITS FALSE NEIGHBOUR: 'it returns false'. Refute it at one input. -/
def treeSameWrong : ChangeSpec := { name := "treeSame", fn := fun _ => fun
  | [d1, d2] => { results := [.lit (.bool false)], args := [d1, d2] }
  | _ => none }
def TreeSameWrongFalsely : Prop := treeSameRow.holds Try.pinned (OpenSpec.ofChange treeSameWrong)

/-- 'priorylaw20.TreeRefuses': WHATEVER THE INPUT: true; the input reads as it did. -/
def treeRefusesSpec : ChangeSpec := { name := "treeRefuses", fn := fun _ => fun
  | [d1, d2, d3] => { results := [.lit (.bool true)], args := [d1, d2, d3] }
  | _ => none }
def treeRefusesRow : OpenClaim := { program := "ytfmnkcmicbnfdaa", sum := "6278f4d3c4658968869c18901eaeeea92ab8fbad4090607914be3a40db0092ce", func := "priory/priorylaw20.TreeRefuses", spec := "treeRefuses", inPlace := ["slices.overlaps[[]byte]"], unfollowed := true, recurses := true, plainKeys := false, apart := false }
def TreeRefusesSaid : Prop := treeRefusesRow.holds Try.pinned (OpenSpec.ofChange treeRefusesSpec)

/-- ITS FALSE NEIGHBOUR: 'it returns false'. Refute it at one input. -/
def treeRefusesWrong : ChangeSpec := { name := "treeRefuses", fn := fun _ => fun
  | [d1, d2, d3] => { results := [.lit (.bool false)], args := [d1, d2, d3] }
  | _ => none }
def TreeRefusesWrongFalsely : Prop := treeRefusesRow.holds Try.pinned (OpenSpec.ofChange treeRefusesWrong)

/-- 'priorylaw20.TreeHonest': WHATEVER THE INPUT: true; the input reads as it did. -/
def treeHonestSpec : ChangeSpec := { name := "treeHonest", fn := fun _ => fun
  | [d1, d2, d3, d4] => { results := [.lit (.bool true)], args := [d1, d2, d3, d4] }
  | _ => none }
def treeHonestRow : OpenClaim := { program := "ytfmnkcmicbnfdaa", sum := "6278f4d3c4658968869c18901eaeeea92ab8fbad4090607914be3a40db0092ce", func := "priory/priorylaw20.TreeHonest", spec := "treeHonest", inPlace := ["slices.overlaps[[]byte]"], unfollowed := true, recurses := true, plainKeys := false, apart := false }
def TreeHonestSaid : Prop := treeHonestRow.holds Try.pinned (OpenSpec.ofChange treeHonestSpec)

/-- ITS FALSE NEIGHBOUR: 'it returns false'. Refute it at one input. -/
def treeHonestWrong : ChangeSpec := { name := "treeHonest", fn := fun _ => fun
  | [d1, d2, d3, d4] => { results := [.lit (.bool false)], args := [d1, d2, d3, d4] }
  | _ => none }
def TreeHonestWrongFalsely : Prop := treeHonestRow.holds Try.pinned (OpenSpec.ofChange treeHonestWrong)

/- THE SECOND FORM. 'bulk': how many values and letters a reading holds, each counted each time it is reached (what is shared counts as often as it is met; a slice's spare places count too). A statement '..UptoSaid' is the law's where the arguments, and the package variables that the reading takes, are together of bulk at most 1048576: NARROWER than '..Said'. Prove '..Said' where nothing that the law and all that it calls make is longer than what came in: it says more and counts as full. Else prove '..UptoSaid'. A law counts once. -/
mutual
def uptoBulk {H : Type} : DataW H → Nat
  | .lit (.string bytes) => bytes.length + 1
  | .lit _ => 1
  | .nil => 1
  | .ptr d => uptoBulk d + 1
  | .slice elems spare => uptoBulkAll elems + uptoBulkAll spare + 1
  | .agg parts => uptoBulkAll parts + 1
  | .iface _ d => uptoBulk d + 1
  | .map entries => uptoBulkEntries entries + 1
  | .held _ => 1
def uptoBulkAll {H : Type} : List (DataW H) → Nat
  | [] => 0
  | d :: r => uptoBulk d + uptoBulkAll r
def uptoBulkEntries {H : Type} : List (Lit × DataW H) → Nat
  | [] => 0
  | x :: r => uptoBulkEntry x + uptoBulkEntries r
def uptoBulkEntry {H : Type} : Lit × DataW H → Nat
  | (.string bytes, d) => bytes.length + uptoBulk d + 1
  | (_, d) => uptoBulk d + 1
 end
def uptoSmall : (H : Type) → List (DataW H) → Bool := fun _ ds => decide (uptoBulkAll ds ≤ 1048576)
def OpenSpec.upto (s : _root_.Go.ChangeSpec) : _root_.Go.OpenSpec := { _root_.Go.OpenSpec.ofChange s with cond := some uptoSmall }

/-- 'priorylaw10.IdealBack', WHERE WHAT IT READS IS OF BULK AT MOST 1048576: true; the input reads as it did. -/
def idealBackUptoRow : OpenClaim := { program := "ytfmnkcmicbnfdaa", sum := "6278f4d3c4658968869c18901eaeeea92ab8fbad4090607914be3a40db0092ce", func := "priory/priorylaw10.IdealBack", spec := "idealBack", inPlace := ["slices.overlaps[[]byte]"], plainKeys := false, apart := false, narrowed := true }
def IdealBackUptoSaid : Prop := idealBackUptoRow.holds Try.pinned (OpenSpec.upto idealBackSpec)

/-- 'priorylaw10.IdealKeys', WHERE WHAT IT READS IS OF BULK AT MOST 1048576: true; the input reads as it did. -/
def idealKeysUptoRow : OpenClaim := { program := "ytfmnkcmicbnfdaa", sum := "6278f4d3c4658968869c18901eaeeea92ab8fbad4090607914be3a40db0092ce", func := "priory/priorylaw10.IdealKeys", spec := "idealKeys", inPlace := ["slices.overlaps[[]byte]"], plainKeys := false, apart := false, narrowed := true }
def IdealKeysUptoSaid : Prop := idealKeysUptoRow.holds Try.pinned (OpenSpec.upto idealKeysSpec)

/-- 'priorylaw10.IdealApart', WHERE WHAT IT READS IS OF BULK AT MOST 1048576: true; the input reads as it did. -/
def idealApartUptoRow : OpenClaim := { program := "ytfmnkcmicbnfdaa", sum := "6278f4d3c4658968869c18901eaeeea92ab8fbad4090607914be3a40db0092ce", func := "priory/priorylaw10.IdealApart", spec := "idealApart", inPlace := ["slices.overlaps[[]byte]"], plainKeys := false, apart := false, narrowed := true }
def IdealApartUptoSaid : Prop := idealApartUptoRow.holds Try.pinned (OpenSpec.upto idealApartSpec)

/-- 'priorylaw10.IdealEnds', WHERE WHAT IT READS IS OF BULK AT MOST 1048576: true; the input reads as it did. -/
def idealEndsUptoRow : OpenClaim := { program := "ytfmnkcmicbnfdaa", sum := "6278f4d3c4658968869c18901eaeeea92ab8fbad4090607914be3a40db0092ce", func := "priory/priorylaw10.IdealEnds", spec := "idealEnds", inPlace := ["slices.overlaps[[]byte]"], plainKeys := false, apart := false, narrowed := true }
def IdealEndsUptoSaid : Prop := idealEndsUptoRow.holds Try.pinned (OpenSpec.upto idealEndsSpec)

/-- 'priorylaw20.TreePlaces', WHERE WHAT IT READS IS OF BULK AT MOST 1048576: true; the input reads as it did. -/
def treePlacesUptoRow : OpenClaim := { program := "ytfmnkcmicbnfdaa", sum := "6278f4d3c4658968869c18901eaeeea92ab8fbad4090607914be3a40db0092ce", func := "priory/priorylaw20.TreePlaces", spec := "treePlaces", inPlace := ["slices.overlaps[[]byte]"], unfollowed := true, recurses := true, plainKeys := false, apart := false, narrowed := true }
def TreePlacesUptoSaid : Prop := treePlacesUptoRow.holds Try.pinned (OpenSpec.upto treePlacesSpec)

/-- 'priorylaw20.TreeTags', WHERE WHAT IT READS IS OF BULK AT MOST 1048576: true; the input reads as it did. -/
def treeTagsUptoRow : OpenClaim := { program := "ytfmnkcmicbnfdaa", sum := "6278f4d3c4658968869c18901eaeeea92ab8fbad4090607914be3a40db0092ce", func := "priory/priorylaw20.TreeTags", spec := "treeTags", inPlace := ["slices.overlaps[[]byte]"], unfollowed := true, recurses := true, plainKeys := false, apart := false, narrowed := true }
def TreeTagsUptoSaid : Prop := treeTagsUptoRow.holds Try.pinned (OpenSpec.upto treeTagsSpec)

/-- 'priorylaw20.TreeProofs', WHERE WHAT IT READS IS OF BULK AT MOST 1048576: true; the input reads as it did. -/
def treeProofsUptoRow : OpenClaim := { program := "ytfmnkcmicbnfdaa", sum := "6278f4d3c4658968869c18901eaeeea92ab8fbad4090607914be3a40db0092ce", func := "priory/priorylaw20.TreeProofs", spec := "treeProofs", inPlace := ["slices.overlaps[[]byte]"], unfollowed := true, recurses := true, plainKeys := false, apart := false, narrowed := true }
def TreeProofsUptoSaid : Prop := treeProofsUptoRow.holds Try.pinned (OpenSpec.upto treeProofsSpec)

/-- 'priorylaw20.TreeSame', WHERE WHAT IT READS IS OF BULK AT MOST 1048576: true; the input reads as it did. -/
def treeSameUptoRow : OpenClaim := { program := "ytfmnkcmicbnfdaa", sum := "6278f4d3c4658968869c18901eaeeea92ab8fbad4090607914be3a40db0092ce", func := "priory/priorylaw20.TreeSame", spec := "treeSame", inPlace := ["slices.overlaps[[]byte]"], unfollowed := true, recurses := true, plainKeys := false, apart := false, narrowed := true }
def TreeSameUptoSaid : Prop := treeSameUptoRow.holds Try.pinned (OpenSpec.upto treeSameSpec)

/-- 'priorylaw20.TreeRefuses', WHERE WHAT IT READS IS OF BULK AT MOST 1048576: true; the input reads as it did. -/
def treeRefusesUptoRow : OpenClaim := { program := "ytfmnkcmicbnfdaa", sum := "6278f4d3c4658968869c18901eaeeea92ab8fbad4090607914be3a40db0092ce", func := "priory/priorylaw20.TreeRefuses", spec := "treeRefuses", inPlace := ["slices.overlaps[[]byte]"], unfollowed := true, recurses := true, plainKeys := false, apart := false, narrowed := true }
def TreeRefusesUptoSaid : Prop := treeRefusesUptoRow.holds Try.pinned (OpenSpec.upto treeRefusesSpec)

/-- 'priorylaw20.TreeHonest', WHERE WHAT IT READS IS OF BULK AT MOST 1048576: true; the input reads as it did. -/
def treeHonestUptoRow : OpenClaim := { program := "ytfmnkcmicbnfdaa", sum := "6278f4d3c4658968869c18901eaeeea92ab8fbad4090607914be3a40db0092ce", func := "priory/priorylaw20.TreeHonest", spec := "treeHonest", inPlace := ["slices.overlaps[[]byte]"], unfollowed := true, recurses := true, plainKeys := false, apart := false, narrowed := true }
def TreeHonestUptoSaid : Prop := treeHonestUptoRow.holds Try.pinned (OpenSpec.upto treeHonestSpec)

end Rows
end Go.Proofs.Ytfmnkcmicbnfdaa
