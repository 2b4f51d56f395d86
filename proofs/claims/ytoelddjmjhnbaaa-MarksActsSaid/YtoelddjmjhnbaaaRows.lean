/-
  No cell of these rows narrows 'for every input' (looked for: loops, veiled, ifaces, maps, wideKeys, modest, calm, conditions, laid).
  DERIVED. THE GIVEN ROWS OF THIS SEAT. 12 by the template 'for every input the law returns true; each argument reads behind the call as it read before'; 0 by the template 'total and deterministic' (their statements: YtoelddjmjhnbaaaTotals.lean).
  GIVEN WITH THE SEED: the statements are not yours to turn. If you find one false, say at which input.
  Laid BY PROGRAM, IN A SANDBOX (cutbox-rows.mjs): the forced cells as the released guide's own fill.sh prints them over the translation 57fe065c5f034ee4… (all of the seat's roots in one cut). By AI agents, Wed Nov 11 2026. No macro, syntax, notation, axiom, sorry.
-/
import Derived.Test.YtoelddjmjhnbaaaChecked
import GoSem.Claim
import GoSem.ClaimJoined
import GoSem.ClaimMapViews
import Derived.JoinedTies
import Derived.KernelRfl
namespace Go.Proofs.Ytoelddjmjhnbaaa
/- THE CELL 'sum', in the pinned program and in every row, IS THE sha256 OF THE DUMP (.gsa) THAT YtoelddjmjhnbaaaProg.lean LOADS. Nothing in Lean hashes anything: it is a label: what it is worth is what the hold of that sum in a sandbox is worth. -/
noncomputable def Try.pinned : Pinned := { name := "ytoelddjmjhnbaaa", sum := "57fe065c5f034ee4db570f01592b58a64cd79ab751b79577772edb0e092021f2", checked := Try.checked }
namespace Rows
def none {H : Type} : Left H := { results := [], args := [] }

/-- 'priorylaw9.TapeActs': WHATEVER THE INPUT: true; the input reads as it did. -/
def tapeActsSpec : ChangeSpec := { name := "tapeActs", fn := fun _ => fun
  | [d1, d2] => { results := [.lit (.bool true)], args := [d1, d2] }
  | _ => none }
def tapeActsRow : OpenClaim := { program := "ytoelddjmjhnbaaa", sum := "57fe065c5f034ee4db570f01592b58a64cd79ab751b79577772edb0e092021f2", func := "priory/priorylaw9.TapeActs", spec := "tapeActs", apart := false }
def TapeActsSaid : Prop := tapeActsRow.holds Try.pinned (OpenSpec.ofChange tapeActsSpec)

/-- ITS FALSE NEIGHBOUR: 'it returns false'. Refute it at one input. -/
def tapeActsWrong : ChangeSpec := { name := "tapeActs", fn := fun _ => fun
  | [d1, d2] => { results := [.lit (.bool false)], args := [d1, d2] }
  | _ => none }
def TapeActsWrongFalsely : Prop := tapeActsRow.holds Try.pinned (OpenSpec.ofChange tapeActsWrong)

/-- 'priorylaw9.TapeWhole': WHATEVER THE INPUT: true; the input reads as it did. -/
def tapeWholeSpec : ChangeSpec := { name := "tapeWhole", fn := fun _ => fun
  | [d1, d2] => { results := [.lit (.bool true)], args := [d1, d2] }
  | _ => none }
def tapeWholeRow : OpenClaim := { program := "ytoelddjmjhnbaaa", sum := "57fe065c5f034ee4db570f01592b58a64cd79ab751b79577772edb0e092021f2", func := "priory/priorylaw9.TapeWhole", spec := "tapeWhole", apart := false }
def TapeWholeSaid : Prop := tapeWholeRow.holds Try.pinned (OpenSpec.ofChange tapeWholeSpec)

/-- ITS FALSE NEIGHBOUR: 'it returns false'. Refute it at one input. -/
def tapeWholeWrong : ChangeSpec := { name := "tapeWhole", fn := fun _ => fun
  | [d1, d2] => { results := [.lit (.bool false)], args := [d1, d2] }
  | _ => none }
def TapeWholeWrongFalsely : Prop := tapeWholeRow.holds Try.pinned (OpenSpec.ofChange tapeWholeWrong)

/-- 'priorylaw9.TapeForks': WHATEVER THE INPUT: true; the input reads as it did. -/
def tapeForksSpec : ChangeSpec := { name := "tapeForks", fn := fun _ => fun
  | [d1, d2, d3, d4] => { results := [.lit (.bool true)], args := [d1, d2, d3, d4] }
  | _ => none }
def tapeForksRow : OpenClaim := { program := "ytoelddjmjhnbaaa", sum := "57fe065c5f034ee4db570f01592b58a64cd79ab751b79577772edb0e092021f2", func := "priory/priorylaw9.TapeForks", spec := "tapeForks", apart := false }
def TapeForksSaid : Prop := tapeForksRow.holds Try.pinned (OpenSpec.ofChange tapeForksSpec)

/-- ITS FALSE NEIGHBOUR: 'it returns false'. Refute it at one input. -/
def tapeForksWrong : ChangeSpec := { name := "tapeForks", fn := fun _ => fun
  | [d1, d2, d3, d4] => { results := [.lit (.bool false)], args := [d1, d2, d3, d4] }
  | _ => none }
def TapeForksWrongFalsely : Prop := tapeForksRow.holds Try.pinned (OpenSpec.ofChange tapeForksWrong)

/-- 'priorylaw17.PathsTell': WHATEVER THE INPUT: true; the input reads as it did. -/
def pathsTellSpec : ChangeSpec := { name := "pathsTell", fn := fun _ => fun
  | [d1, d2, d3, d4] => { results := [.lit (.bool true)], args := [d1, d2, d3, d4] }
  | _ => none }
def pathsTellRow : OpenClaim := { program := "ytoelddjmjhnbaaa", sum := "57fe065c5f034ee4db570f01592b58a64cd79ab751b79577772edb0e092021f2", func := "priory/priorylaw17.PathsTell", spec := "pathsTell", apart := false }
def PathsTellSaid : Prop := pathsTellRow.holds Try.pinned (OpenSpec.ofChange pathsTellSpec)

/-- ITS FALSE NEIGHBOUR: 'it returns false'. Refute it at one input. -/
def pathsTellWrong : ChangeSpec := { name := "pathsTell", fn := fun _ => fun
  | [d1, d2, d3, d4] => { results := [.lit (.bool false)], args := [d1, d2, d3, d4] }
  | _ => none }
def PathsTellWrongFalsely : Prop := pathsTellRow.holds Try.pinned (OpenSpec.ofChange pathsTellWrong)

/-- 'priorylaw17.PathsWhole': WHATEVER THE INPUT: true; the input reads as it did. -/
def pathsWholeSpec : ChangeSpec := { name := "pathsWhole", fn := fun _ => fun
  | [d1, d2] => { results := [.lit (.bool true)], args := [d1, d2] }
  | _ => none }
def pathsWholeRow : OpenClaim := { program := "ytoelddjmjhnbaaa", sum := "57fe065c5f034ee4db570f01592b58a64cd79ab751b79577772edb0e092021f2", func := "priory/priorylaw17.PathsWhole", spec := "pathsWhole", apart := false }
def PathsWholeSaid : Prop := pathsWholeRow.holds Try.pinned (OpenSpec.ofChange pathsWholeSpec)

/-- ITS FALSE NEIGHBOUR: 'it returns false'. Refute it at one input. -/
def pathsWholeWrong : ChangeSpec := { name := "pathsWhole", fn := fun _ => fun
  | [d1, d2] => { results := [.lit (.bool false)], args := [d1, d2] }
  | _ => none }
def PathsWholeWrongFalsely : Prop := pathsWholeRow.holds Try.pinned (OpenSpec.ofChange pathsWholeWrong)

/-- 'priorylaw17.PathsBeside': WHATEVER THE INPUT: true; the input reads as it did. -/
def pathsBesideSpec : ChangeSpec := { name := "pathsBeside", fn := fun _ => fun
  | [d1, d2, d3] => { results := [.lit (.bool true)], args := [d1, d2, d3] }
  | _ => none }
def pathsBesideRow : OpenClaim := { program := "ytoelddjmjhnbaaa", sum := "57fe065c5f034ee4db570f01592b58a64cd79ab751b79577772edb0e092021f2", func := "priory/priorylaw17.PathsBeside", spec := "pathsBeside", apart := false }
def PathsBesideSaid : Prop := pathsBesideRow.holds Try.pinned (OpenSpec.ofChange pathsBesideSpec)

/-- ITS FALSE NEIGHBOUR: 'it returns false'. Refute it at one input. -/
def pathsBesideWrong : ChangeSpec := { name := "pathsBeside", fn := fun _ => fun
  | [d1, d2, d3] => { results := [.lit (.bool false)], args := [d1, d2, d3] }
  | _ => none }
def PathsBesideWrongFalsely : Prop := pathsBesideRow.holds Try.pinned (OpenSpec.ofChange pathsBesideWrong)

/-- 'priorylaw17.PathsCounts': WHATEVER THE INPUT: true; the input reads as it did. -/
def pathsCountsSpec : ChangeSpec := { name := "pathsCounts", fn := fun _ => fun
  | [d] => { results := [.lit (.bool true)], args := [d] }
  | _ => none }
def pathsCountsRow : OpenClaim := { program := "ytoelddjmjhnbaaa", sum := "57fe065c5f034ee4db570f01592b58a64cd79ab751b79577772edb0e092021f2", func := "priory/priorylaw17.PathsCounts", spec := "pathsCounts", apart := false }
def PathsCountsSaid : Prop := pathsCountsRow.holds Try.pinned (OpenSpec.ofChange pathsCountsSpec)

/-- ITS FALSE NEIGHBOUR: 'it returns false'. Refute it at one input. -/
def pathsCountsWrong : ChangeSpec := { name := "pathsCounts", fn := fun _ => fun
  | [d] => { results := [.lit (.bool false)], args := [d] }
  | _ => none }
def PathsCountsWrongFalsely : Prop := pathsCountsRow.holds Try.pinned (OpenSpec.ofChange pathsCountsWrong)

/-- 'priorylaw18.MarksActs': WHATEVER THE INPUT: true; the input reads as it did. -/
def marksActsSpec : ChangeSpec := { name := "marksActs", fn := fun _ => fun
  | [d1, d2, d3, d4] => { results := [.lit (.bool true)], args := [d1, d2, d3, d4] }
  | _ => none }
def marksActsRow : OpenClaim := { program := "ytoelddjmjhnbaaa", sum := "57fe065c5f034ee4db570f01592b58a64cd79ab751b79577772edb0e092021f2", func := "priory/priorylaw18.MarksActs", spec := "marksActs", apart := false }
def MarksActsSaid : Prop := marksActsRow.holds Try.pinned (OpenSpec.ofChange marksActsSpec)

/-- ITS FALSE NEIGHBOUR: 'it returns false'. Refute it at one input. -/
def marksActsWrong : ChangeSpec := { name := "marksActs", fn := fun _ => fun
  | [d1, d2, d3, d4] => { results := [.lit (.bool false)], args := [d1, d2, d3, d4] }
  | _ => none }
def MarksActsWrongFalsely : Prop := marksActsRow.holds Try.pinned (OpenSpec.ofChange marksActsWrong)

/-- 'priorylaw18.MarksBytes': WHATEVER THE INPUT: true; the input reads as it did. -/
def marksBytesSpec : ChangeSpec := { name := "marksBytes", fn := fun _ => fun
  | [d1, d2] => { results := [.lit (.bool true)], args := [d1, d2] }
  | _ => none }
def marksBytesRow : OpenClaim := { program := "ytoelddjmjhnbaaa", sum := "57fe065c5f034ee4db570f01592b58a64cd79ab751b79577772edb0e092021f2", func := "priory/priorylaw18.MarksBytes", spec := "marksBytes", apart := false }
def MarksBytesSaid : Prop := marksBytesRow.holds Try.pinned (OpenSpec.ofChange marksBytesSpec)

/-- ITS FALSE NEIGHBOUR: 'it returns false'. Refute it at one input. -/
def marksBytesWrong : ChangeSpec := { name := "marksBytes", fn := fun _ => fun
  | [d1, d2] => { results := [.lit (.bool false)], args := [d1, d2] }
  | _ => none }
def MarksBytesWrongFalsely : Prop := marksBytesRow.holds Try.pinned (OpenSpec.ofChange marksBytesWrong)

/-- 'priorylaw18.MarksFree': WHATEVER THE INPUT: true; the input reads as it did. -/
def marksFreeSpec : ChangeSpec := { name := "marksFree", fn := fun _ => fun
  | [d1, d2, d3] => { results := [.lit (.bool true)], args := [d1, d2, d3] }
  | _ => none }
def marksFreeRow : OpenClaim := { program := "ytoelddjmjhnbaaa", sum := "57fe065c5f034ee4db570f01592b58a64cd79ab751b79577772edb0e092021f2", func := "priory/priorylaw18.MarksFree", spec := "marksFree", apart := false }
def MarksFreeSaid : Prop := marksFreeRow.holds Try.pinned (OpenSpec.ofChange marksFreeSpec)

/-- ITS FALSE NEIGHBOUR: 'it returns false'. Refute it at one input. -/
def marksFreeWrong : ChangeSpec := { name := "marksFree", fn := fun _ => fun
  | [d1, d2, d3] => { results := [.lit (.bool false)], args := [d1, d2, d3] }
  | _ => none }
def MarksFreeWrongFalsely : Prop := marksFreeRow.holds Try.pinned (OpenSpec.ofChange marksFreeWrong)

/-- 'priorylaw18.MarksCopies': WHATEVER THE INPUT: true; the input reads as it did. -/
def marksCopiesSpec : ChangeSpec := { name := "marksCopies", fn := fun _ => fun
  | [d1, d2, d3] => { results := [.lit (.bool true)], args := [d1, d2, d3] }
  | _ => none }
def marksCopiesRow : OpenClaim := { program := "ytoelddjmjhnbaaa", sum := "57fe065c5f034ee4db570f01592b58a64cd79ab751b79577772edb0e092021f2", func := "priory/priorylaw18.MarksCopies", spec := "marksCopies", apart := false }
def MarksCopiesSaid : Prop := marksCopiesRow.holds Try.pinned (OpenSpec.ofChange marksCopiesSpec)

/-- ITS FALSE NEIGHBOUR: 'it returns false'. Refute it at one input. -/
def marksCopiesWrong : ChangeSpec := { name := "marksCopies", fn := fun _ => fun
  | [d1, d2, d3] => { results := [.lit (.bool false)], args := [d1, d2, d3] }
  | _ => none }
def MarksCopiesWrongFalsely : Prop := marksCopiesRow.holds Try.pinned (OpenSpec.ofChange marksCopiesWrong)

/-- 'priorylaw18.MarksRuns': WHATEVER THE INPUT: true; the input reads as it did. -/
def marksRunsSpec : ChangeSpec := { name := "marksRuns", fn := fun _ => fun
  | [d1, d2, d3] => { results := [.lit (.bool true)], args := [d1, d2, d3] }
  | _ => none }
def marksRunsRow : OpenClaim := { program := "ytoelddjmjhnbaaa", sum := "57fe065c5f034ee4db570f01592b58a64cd79ab751b79577772edb0e092021f2", func := "priory/priorylaw18.MarksRuns", spec := "marksRuns", apart := false }
def MarksRunsSaid : Prop := marksRunsRow.holds Try.pinned (OpenSpec.ofChange marksRunsSpec)

/-- ITS FALSE NEIGHBOUR: 'it returns false'. Refute it at one input. -/
def marksRunsWrong : ChangeSpec := { name := "marksRuns", fn := fun _ => fun
  | [d1, d2, d3] => { results := [.lit (.bool false)], args := [d1, d2, d3] }
  | _ => none }
def MarksRunsWrongFalsely : Prop := marksRunsRow.holds Try.pinned (OpenSpec.ofChange marksRunsWrong)

/- THE SECOND FORM. 'bulk': how many values and letters a reading holds, each counted each time it is reached (what is shared counts as often as it is met; a slice's spare places count too). A statement '..UptoSaid' is the law's where the arguments, and the package variables that the reading takes, are together of bulk at most 1048576: NARROWER than '..Said'. Prove '..Said' where nothing that the law and all that it calls make is longer than what came in: it says more and counts as full. Else prove '..UptoSaid'. A law counts once. -/
mutual
def uptoBulk {H : Type} : DataW H → Nat
  | .lit (.string bytes) => bytes.length + 1
  | .lit _ => 1
  | .nil => 1
  | .ptr d => uptoBulk d + 1
  | .slice elems spare => uptoBulkAll elems + uptoBulkAll spare + 1
  | .agg parts => uptoBulkAll parts + 1
  | .iface _ d => uptoBulk d + 1
  | .map entries => uptoBulkEntries entries + 1
  | .held _ => 1
def uptoBulkAll {H : Type} : List (DataW H) → Nat
  | [] => 0
  | d :: r => uptoBulk d + uptoBulkAll r
def uptoBulkEntries {H : Type} : List (Lit × DataW H) → Nat
  | [] => 0
  | x :: r => uptoBulkEntry x + uptoBulkEntries r
def uptoBulkEntry {H : Type} : Lit × DataW H → Nat
  | (.string bytes, d) => bytes.length + uptoBulk d + 1
  | (_, d) => uptoBulk d + 1
 end
def uptoSmall : (H : Type) → List (DataW H) → Bool := fun _ ds => decide (uptoBulkAll ds ≤ 1048576)
def OpenSpec.upto (s : _root_.Go.ChangeSpec) : _root_.Go.OpenSpec := { _root_.Go.OpenSpec.ofChange s with cond := some uptoSmall }

/-- 'priorylaw9.TapeActs', WHERE WHAT IT READS IS OF BULK AT MOST 1048576: true; the input reads as it did. -/
def tapeActsUptoRow : OpenClaim := { program := "ytoelddjmjhnbaaa", sum := "57fe065c5f034ee4db570f01592b58a64cd79ab751b79577772edb0e092021f2", func := "priory/priorylaw9.TapeActs", spec := "tapeActs", apart := false, narrowed := true }
def TapeActsUptoSaid : Prop := tapeActsUptoRow.holds Try.pinned (OpenSpec.upto tapeActsSpec)

/-- 'priorylaw9.TapeWhole', WHERE WHAT IT READS IS OF BULK AT MOST 1048576: true; the input reads as it did. -/
def tapeWholeUptoRow : OpenClaim := { program := "ytoelddjmjhnbaaa", sum := "57fe065c5f034ee4db570f01592b58a64cd79ab751b79577772edb0e092021f2", func := "priory/priorylaw9.TapeWhole", spec := "tapeWhole", apart := false, narrowed := true }
def TapeWholeUptoSaid : Prop := tapeWholeUptoRow.holds Try.pinned (OpenSpec.upto tapeWholeSpec)

/-- 'priorylaw9.TapeForks', WHERE WHAT IT READS IS OF BULK AT MOST 1048576: true; the input reads as it did. -/
def tapeForksUptoRow : OpenClaim := { program := "ytoelddjmjhnbaaa", sum := "57fe065c5f034ee4db570f01592b58a64cd79ab751b79577772edb0e092021f2", func := "priory/priorylaw9.TapeForks", spec := "tapeForks", apart := false, narrowed := true }
def TapeForksUptoSaid : Prop := tapeForksUptoRow.holds Try.pinned (OpenSpec.upto tapeForksSpec)

/-- 'priorylaw17.PathsTell', WHERE WHAT IT READS IS OF BULK AT MOST 1048576: true; the input reads as it did. -/
def pathsTellUptoRow : OpenClaim := { program := "ytoelddjmjhnbaaa", sum := "57fe065c5f034ee4db570f01592b58a64cd79ab751b79577772edb0e092021f2", func := "priory/priorylaw17.PathsTell", spec := "pathsTell", apart := false, narrowed := true }
def PathsTellUptoSaid : Prop := pathsTellUptoRow.holds Try.pinned (OpenSpec.upto pathsTellSpec)

/-- 'priorylaw17.PathsWhole', WHERE WHAT IT READS IS OF BULK AT MOST 1048576: true; the input reads as it did. -/
def pathsWholeUptoRow : OpenClaim := { program := "ytoelddjmjhnbaaa", sum := "57fe065c5f034ee4db570f01592b58a64cd79ab751b79577772edb0e092021f2", func := "priory/priorylaw17.PathsWhole", spec := "pathsWhole", apart := false, narrowed := true }
def PathsWholeUptoSaid : Prop := pathsWholeUptoRow.holds Try.pinned (OpenSpec.upto pathsWholeSpec)

/-- 'priorylaw17.PathsBeside', WHERE WHAT IT READS IS OF BULK AT MOST 1048576: true; the input reads as it did. -/
def pathsBesideUptoRow : OpenClaim := { program := "ytoelddjmjhnbaaa", sum := "57fe065c5f034ee4db570f01592b58a64cd79ab751b79577772edb0e092021f2", func := "priory/priorylaw17.PathsBeside", spec := "pathsBeside", apart := false, narrowed := true }
def PathsBesideUptoSaid : Prop := pathsBesideUptoRow.holds Try.pinned (OpenSpec.upto pathsBesideSpec)

/-- 'priorylaw17.PathsCounts', WHERE WHAT IT READS IS OF BULK AT MOST 1048576: true; the input reads as it did. -/
def pathsCountsUptoRow : OpenClaim := { program := "ytoelddjmjhnbaaa", sum := "57fe065c5f034ee4db570f01592b58a64cd79ab751b79577772edb0e092021f2", func := "priory/priorylaw17.PathsCounts", spec := "pathsCounts", apart := false, narrowed := true }
def PathsCountsUptoSaid : Prop := pathsCountsUptoRow.holds Try.pinned (OpenSpec.upto pathsCountsSpec)

/-- 'priorylaw18.MarksActs', WHERE WHAT IT READS IS OF BULK AT MOST 1048576: true; the input reads as it did. -/
def marksActsUptoRow : OpenClaim := { program := "ytoelddjmjhnbaaa", sum := "57fe065c5f034ee4db570f01592b58a64cd79ab751b79577772edb0e092021f2", func := "priory/priorylaw18.MarksActs", spec := "marksActs", apart := false, narrowed := true }
def MarksActsUptoSaid : Prop := marksActsUptoRow.holds Try.pinned (OpenSpec.upto marksActsSpec)

/-- 'priorylaw18.MarksBytes', WHERE WHAT IT READS IS OF BULK AT MOST 1048576: true; the input reads as it did. -/
def marksBytesUptoRow : OpenClaim := { program := "ytoelddjmjhnbaaa", sum := "57fe065c5f034ee4db570f01592b58a64cd79ab751b79577772edb0e092021f2", func := "priory/priorylaw18.MarksBytes", spec := "marksBytes", apart := false, narrowed := true }
def MarksBytesUptoSaid : Prop := marksBytesUptoRow.holds Try.pinned (OpenSpec.upto marksBytesSpec)

/-- 'priorylaw18.MarksFree', WHERE WHAT IT READS IS OF BULK AT MOST 1048576: true; the input reads as it did. -/
def marksFreeUptoRow : OpenClaim := { program := "ytoelddjmjhnbaaa", sum := "57fe065c5f034ee4db570f01592b58a64cd79ab751b79577772edb0e092021f2", func := "priory/priorylaw18.MarksFree", spec := "marksFree", apart := false, narrowed := true }
def MarksFreeUptoSaid : Prop := marksFreeUptoRow.holds Try.pinned (OpenSpec.upto marksFreeSpec)

/-- 'priorylaw18.MarksCopies', WHERE WHAT IT READS IS OF BULK AT MOST 1048576: true; the input reads as it did. -/
def marksCopiesUptoRow : OpenClaim := { program := "ytoelddjmjhnbaaa", sum := "57fe065c5f034ee4db570f01592b58a64cd79ab751b79577772edb0e092021f2", func := "priory/priorylaw18.MarksCopies", spec := "marksCopies", apart := false, narrowed := true }
def MarksCopiesUptoSaid : Prop := marksCopiesUptoRow.holds Try.pinned (OpenSpec.upto marksCopiesSpec)

/-- 'priorylaw18.MarksRuns', WHERE WHAT IT READS IS OF BULK AT MOST 1048576: true; the input reads as it did. -/
def marksRunsUptoRow : OpenClaim := { program := "ytoelddjmjhnbaaa", sum := "57fe065c5f034ee4db570f01592b58a64cd79ab751b79577772edb0e092021f2", func := "priory/priorylaw18.MarksRuns", spec := "marksRuns", apart := false, narrowed := true }
def MarksRunsUptoSaid : Prop := marksRunsUptoRow.holds Try.pinned (OpenSpec.upto marksRunsSpec)

end Rows
end Go.Proofs.Ytoelddjmjhnbaaa
