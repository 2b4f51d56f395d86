/- Structs built of parts that are whole arrays. -/
import Derived.Test.YtaepfkpfageiaaaSkip
import Derived.Laws.Tables
namespace Go.Proofs.Ytaepfkpfageiaaa
open Go Go.RowKit

/-- vs in the place of what was there from off on. -/
def splice (l : List Value) (off : Nat) (vs : List Value) : List Value := l.take off ++ vs ++ l.drop (off + vs.length)
theorem splice_len (l : List Value) (off : Nat) (vs : List Value) (h : off + vs.length ≤ l.length) : (splice l off vs).length = l.length := by
  simp [splice]; omega
theorem fold_splice (off : Nat) : ∀ (vs : List Value) (k : Nat) (cs : Array Value), off + k + vs.length ≤ cs.size →
    ((vs.zipIdx k).foldl (fun (cs : Array Value) (x : Value × Nat) => cs.setIfInBounds (off + x.2) x.1) cs).toList = cs.toList.take (off + k) ++ vs ++ cs.toList.drop (off + k + vs.length)
  | [], k, cs, _ => by simp
  | v :: vs, k, cs, h => by
    simp only [List.length_cons] at h
    rw [List.zipIdx_cons, List.foldl_cons, fold_splice off vs (k + 1) _ (by simp; omega), Array.toList_setIfInBounds]
    rw [show off + (k + 1) = (off + k) + 1 by omega, List.take_add_one, List.take_set_of_le (by omega), List.getElem?_set_self (by simp; omega), List.drop_set_of_lt (by omega)]
    simp only [Option.toList_some, List.append_assoc, List.cons_append, List.nil_append, List.length_cons]
    rw [show off + k + 1 + vs.length = off + k + (vs.length + 1) by omega]
theorem fill_cons {place : Nat → Option (Nat × Nat)} {cells : List Value} {i off size : Nat} {v : Value} {vs : List Value} {rest : List (Nat × Value)} (hp : place i = some (off, size)) (hv : v.cells = vs.toArray) (hs : vs.length = size) (hf : off + size ≤ cells.length) :
    Instr.fill place cells.toArray ((i, v) :: rest) = Instr.fill place (splice cells off vs).toArray rest := by
  rw [Instr.fill, hp]
  simp only [hv, List.size_toArray]
  rw [if_neg (by simp; omega)]
  congr 1
  have := fold_splice off vs 0 cells.toArray (by simp; omega)
  simp only [Nat.add_zero] at this
  have e : (vs.toArray.zipIdx.foldl (fun (cs : Array Value) (x : Value × Nat) => cs.setIfInBounds (off + x.2) x.1) cells.toArray) = (splice cells off vs).toArray := by
    apply Array.toList_inj.1
    rw [← Array.foldl_toList, Array.toList_zipIdx]
    simpa [splice] using this
  exact e
theorem fill_nil {place : Nat → Option (Nat × Nat)} {cells : Array Value} : Instr.fill place cells [] = some cells := rfl
/-- A struct built of parts. -/
theorem built_struct {P : Program} {t : TypeId} {fields : Array Field} {n : Nat} (hu : P.underlying t = some (.struct fields)) (hz : (P.info? t).map (fun i => i.zero.map (·.cells.size)) = some (some n))
    {places : List (Nat × Nat)} (hp : fields.toList.mapM (fun f => (P.info? f.type).map fun i => (f.offset, i.size)) = some places) {parts : List (Nat × Value)} {cells : List Value}
    (h : ∀ Z : List Value, Z.length = n → Instr.fill (places.toArray[·]?) Z.toArray parts = some cells.toArray) : P.built t parts = some cells.toArray := by
  unfold Program.built
  cases hi : P.info? t with
  | none => rw [hi] at hz; cases hz
  | some it =>
    cases hzz : it.zero with
    | none => rw [hi] at hz; simp [hzz] at hz
    | some z =>
      rw [hi] at hz
      simp only [Option.map_some, hzz, Option.some.injEq] at hz
      have := h z.cells.toList (by simpa using hz)
      simpa [hu, hzz, hp] using this
theorem splice_all (l vs : List Value) (h : vs.length = l.length) : splice l 0 vs = vs := by
  simp [splice, h]
theorem splice_first (l vs : List Value) : splice l 0 vs = vs ++ l.drop vs.length := by simp [splice]
theorem splice_next (a l vs : List Value) (off : Nat) (h : a.length = off) : splice (a ++ l) off vs = a ++ vs ++ l.drop vs.length := by
  subst h
  simp [splice, List.drop_append]
/-- .. in a walk. -/
theorem wpList_built {P : Program} {w : World} {ops : Array Oper} {rest : List Oper} {o : Oper} {a : Act} {Q : Exit → Act → World → Prop} (hg : o.guard = none) (t : TypeId) (ps : List (Nat × Operand)) (ho : o.op = .build t ps.toArray) {vs : List (Nat × Value)} {cells : Array Value}
    (hv : (ps.map fun (i, x) => (i, a.eval x)) = vs) (h : P.built t vs = some cells) (k : wpList P ops Q rest (a.put o.dst (.agg cells)) w) :
    wpList P ops Q (o :: rest) a w := by
  subst hv
  refine wpList_plain hg fun K hK => ?_
  unfold Oper.wp
  have e : (execOp a.eval o).run P w = .ok (.value (.agg cells)) w := by
    unfold execOp
    simp only [ho, Sem.run_bind, List.map_toArray, run_build w t (ps.map fun (i, x) => (i, a.eval x)).toArray cells (by simpa using h), Result.andThen_ok, Sem.run_pure]
  rw [e]
  exact hK _ _ k
end Go.Proofs.Ytaepfkpfageiaaa
