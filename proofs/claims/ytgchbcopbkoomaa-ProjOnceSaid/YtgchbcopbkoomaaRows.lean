/-
  No cell of these rows narrows 'for every input' (looked for: loops, veiled, ifaces, maps, wideKeys, modest, calm, conditions, laid).
  DERIVED. THE GIVEN ROWS OF THIS SEAT. 2 by the template 'for every input the law returns true; each argument reads behind the call as it read before'; 0 by the template 'total and deterministic' (their statements: YtgchbcopbkoomaaTotals.lean).
  GIVEN WITH THE SEED: the statements are not yours to turn. If you find one false, say at which input.
  Laid BY PROGRAM, IN A SANDBOX (cutbox-rows.mjs): the forced cells as the released guide's own fill.sh prints them over the translation 903d8aecbd9d5ca0… (all of the seat's roots in one cut). By AI agents, Wed Nov 11 2026. No macro, syntax, notation, axiom, sorry.
-/
import Derived.Test.YtgchbcopbkoomaaChecked
import GoSem.Claim
import GoSem.ClaimJoined
import GoSem.ClaimMapViews
import Derived.JoinedTies
import Derived.KernelRfl
namespace Go.Proofs.Ytgchbcopbkoomaa
/- THE CELL 'sum', in the pinned program and in every row, IS THE sha256 OF THE DUMP (.gsa) THAT YtgchbcopbkoomaaProg.lean LOADS. Nothing in Lean hashes anything: it is a label: what it is worth is what the hold of that sum in a sandbox is worth. -/
noncomputable def Try.pinned : Pinned := { name := "ytgchbcopbkoomaa", sum := "903d8aecbd9d5ca0125cd422ec587ca97df4c4ad7e2e064db553c56278f3a728", checked := Try.checked }
namespace Rows
def none {H : Type} : Left H := { results := [], args := [] }

/-- 'priorylaw25.ProjOnce': WHATEVER THE INPUT: true; the input reads as it did. -/
def projOnceSpec : ChangeSpec := { name := "projOnce", fn := fun _ => fun
  | [d1, d2] => { results := [.lit (.bool true)], args := [d1, d2] }
  | _ => none }
def projOnceRow : OpenClaim := { program := "ytgchbcopbkoomaa", sum := "903d8aecbd9d5ca0125cd422ec587ca97df4c4ad7e2e064db553c56278f3a728", func := "priory/priorylaw25.ProjOnce", spec := "projOnce", unfollowed := true, recurses := true, apart := false }
def ProjOnceSaid : Prop := projOnceRow.holds Try.pinned (OpenSpec.ofChange projOnceSpec)

/-- ITS FALSE NEIGHBOUR: 'it returns false'. Refute it at one input. -/
def projOnceWrong : ChangeSpec := { name := "projOnce", fn := fun _ => fun
  | [d1, d2] => { results := [.lit (.bool false)], args := [d1, d2] }
  | _ => none }
def ProjOnceWrongFalsely : Prop := projOnceRow.holds Try.pinned (OpenSpec.ofChange projOnceWrong)

/-- 'priorylaw25.ProjKinds': WHATEVER THE INPUT: true; the input reads as it did. -/
def projKindsSpec : ChangeSpec := { name := "projKinds", fn := fun _ => fun
  | [d1, d2, d3, d4, d5] => { results := [.lit (.bool true)], args := [d1, d2, d3, d4, d5] }
  | _ => none }
def projKindsRow : OpenClaim := { program := "ytgchbcopbkoomaa", sum := "903d8aecbd9d5ca0125cd422ec587ca97df4c4ad7e2e064db553c56278f3a728", func := "priory/priorylaw25.ProjKinds", spec := "projKinds", unfollowed := true, recurses := true, apart := false }
def ProjKindsSaid : Prop := projKindsRow.holds Try.pinned (OpenSpec.ofChange projKindsSpec)

/-- ITS FALSE NEIGHBOUR: 'it returns false'. Refute it at one input. -/
def projKindsWrong : ChangeSpec := { name := "projKinds", fn := fun _ => fun
  | [d1, d2, d3, d4, d5] => { results := [.lit (.bool false)], args := [d1, d2, d3, d4, d5] }
  | _ => none }
def ProjKindsWrongFalsely : Prop := projKindsRow.holds Try.pinned (OpenSpec.ofChange projKindsWrong)

/- THE SECOND FORM. 'bulk': how many values and letters a reading holds, each counted each time it is reached (what is shared counts as often as it is met; a slice's spare places count too). A statement '..UptoSaid' is the law's where the arguments, and the package variables that the reading takes, are together of bulk at most 1048576: NARROWER than '..Said'. Prove '..Said' where nothing that the law and all that it calls make is longer than what came in: it says more and counts as full. Else prove '..UptoSaid'. A law counts once. -/
mutual
def uptoBulk {H : Type} : DataW H → Nat
  | .lit (.string bytes) => bytes.length + 1
  | .lit _ => 1
  | .nil => 1
  | .ptr d => uptoBulk d + 1
  | .slice elems spare => uptoBulkAll elems + uptoBulkAll spare + 1
  | .agg parts => uptoBulkAll parts + 1
  | .iface _ d => uptoBulk d + 1
  | .map entries => uptoBulkEntries entries + 1
  | .held _ => 1
def uptoBulkAll {H : Type} : List (DataW H) → Nat
  | [] => 0
  | d :: r => uptoBulk d + uptoBulkAll r
def uptoBulkEntries {H : Type} : List (Lit × DataW H) → Nat
  | [] => 0
  | x :: r => uptoBulkEntry x + uptoBulkEntries r
def uptoBulkEntry {H : Type} : Lit × DataW H → Nat
  | (.string bytes, d) => bytes.length + uptoBulk d + 1
  | (_, d) => uptoBulk d + 1
 end
def uptoSmall : (H : Type) → List (DataW H) → Bool := fun _ ds => decide (uptoBulkAll ds ≤ 1048576)
def OpenSpec.upto (s : _root_.Go.ChangeSpec) : _root_.Go.OpenSpec := { _root_.Go.OpenSpec.ofChange s with cond := some uptoSmall }

/-- 'priorylaw25.ProjOnce', WHERE WHAT IT READS IS OF BULK AT MOST 1048576: true; the input reads as it did. -/
def projOnceUptoRow : OpenClaim := { program := "ytgchbcopbkoomaa", sum := "903d8aecbd9d5ca0125cd422ec587ca97df4c4ad7e2e064db553c56278f3a728", func := "priory/priorylaw25.ProjOnce", spec := "projOnce", unfollowed := true, recurses := true, apart := false, narrowed := true }
def ProjOnceUptoSaid : Prop := projOnceUptoRow.holds Try.pinned (OpenSpec.upto projOnceSpec)

/-- 'priorylaw25.ProjKinds', WHERE WHAT IT READS IS OF BULK AT MOST 1048576: true; the input reads as it did. -/
def projKindsUptoRow : OpenClaim := { program := "ytgchbcopbkoomaa", sum := "903d8aecbd9d5ca0125cd422ec587ca97df4c4ad7e2e064db553c56278f3a728", func := "priory/priorylaw25.ProjKinds", spec := "projKinds", unfollowed := true, recurses := true, apart := false, narrowed := true }
def ProjKindsUptoSaid : Prop := projKindsUptoRow.holds Try.pinned (OpenSpec.upto projKindsSpec)

end Rows
end Go.Proofs.Ytgchbcopbkoomaa
