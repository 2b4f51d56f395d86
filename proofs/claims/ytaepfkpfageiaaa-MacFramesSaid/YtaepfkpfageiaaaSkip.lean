/- A region's operation whose guard says no, at a frame that is written out. -/
import Derived.Test.YtaepfkpfageiaaaMem
namespace Go.Proofs.Ytaepfkpfageiaaa
open Go Go.RowKit
/-- What an operation of a region leaves: a value; a slice of the call's own. -/
def vIs (x : Value) : Value → World → Prop := fun v _ => v = x
def vOwn (e : TypeId) (sz n : Nat) (xs : List Value) : Value → World → Prop := fun v w => ∃ ao c, v = .slice ao n c ∧ Own w e sz ao n c xs
theorem vOwn.st {e : TypeId} {sz n : Nat} {xs : List Value} {v : Value} {w w' : World} (k : Keep [] w w') (h : vOwn e sz n xs v w) : vOwn e sz n xs v w' :=
  let ⟨ao, c, hv, ho⟩ := h; ⟨ao, c, hv, ho.keep k (by simp)⟩
theorem vIs.st {x : Value} {v : Value} {w w' : World} (_ : Keep [] w w') (h : vIs x v w) : vIs x v w' := h
theorem wpV_skp {P : Program} {ops : Array Oper} {bm : Array Nat} {fr : List Nat} {Q : Exit → Act → World → Prop} {k : Nat} {S : Seg} {l : List Value} {df : List Deferred} {F : Facts} {dst : Nat} {op : Op} {ty : TypeId} {pos : String} {after : Array Edge} {gd : Option (Nat × Bool)} {rest : List Oper} (hi : ops[k]? = some ⟨some dst, op, ty, pos, after, gd⟩)
    (hw : Region.wanted ⟨some dst, op, ty, pos, after, gd⟩ (yielded ops l.toArray) = false)
    (h : wpV P ops bm fr Q rest (k + 1) S ⟨(l.set dst undef).toArray, df⟩ F) : wpV P ops bm fr Q (⟨some dst, op, ty, pos, after, gd⟩ :: rest) k S ⟨l.toArray, df⟩ F :=
  wpV_skip hi hw (by simpa [Act.put] using h)
end Go.Proofs.Ytaepfkpfageiaaa
