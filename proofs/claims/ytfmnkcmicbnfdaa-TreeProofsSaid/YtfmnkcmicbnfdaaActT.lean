/- Acts on a tree that came in: a kind, a leaf, a text. -/
import Derived.Test.YtfmnkcmicbnfdaaPartsIn
import Derived.Test.YtfmnkcmicbnfdaaGHt1
namespace Go.Proofs.Ytfmnkcmicbnfdaa
open Go Go.RowKit Go.ChangeShapes Go.WideShapes Go.Deep

structure Ax where
  kind : Int
  leaf : Int
  ta : Option Addr
  tc : Nat
  text : List UInt8
def axV (a : Ax) : List Value := [.int .i64 a.kind, .int .i64 a.leaf, .slice a.ta a.text.length a.tc]
structure axG (w : World) (a : Ax) : Prop where
  wk : (Lit.int IntKind.i64 a.kind).wf = true
  wf : (Lit.int IntKind.i64 a.leaf).wf = true
  st : Sl w 1 a.ta a.text.length a.tc (a.text.map B)
theorem axG.keep {fp : List Nat} {w w' : World} {a : Ax} (h : axG w a) (k : Keep fp w w') (hb : ∀ y ∈ bz a.text.length a.ta, y ∉ fp) : axG w' a := ⟨h.wk, h.wf, h.st.keepZ k hb⟩
theorem axG.grow {w w' : World} {a : Ax} (h : axG w a) (g : Grow w w') : axG w' a := ⟨h.wk, h.wf, h.st.grow g⟩

theorem axs_len (l : List Ax) : (l.flatMap axV).length = l.length * 3 := by
  induction l with
  | nil => rfl
  | cons c cs ih => simp only [List.flatMap_cons, List.length_append] at ih ⊢; rw [ih, List.length_cons]; simp only [axV, List.length_cons, List.length_nil]; omega
theorem axs_at (l : List Ax) (i : Nat) (h : i < l.length) (j : Nat) (hj : j < 3) : (l.flatMap axV)[i * 3 + j]? = (axV l[i])[j]? := by
  have h1 : l.flatMap axV = (l.take i).flatMap axV ++ (axV l[i] ++ (l.drop (i + 1)).flatMap axV) := by
    conv => lhs; rw [← List.take_append_drop i l, List.flatMap_append, List.drop_eq_getElem_cons h]
    rfl
  have h2 : ((l.take i).flatMap axV).length = i * 3 := by rw [axs_len, List.length_take, Nat.min_eq_left (by omega)]
  rw [h1, List.getElem?_append_right (by omega), h2, Nat.add_sub_cancel_left, List.getElem?_append_left (by simp [axV]; omega)]
theorem cells_ax {w : World} {g off : Nat} {l : List Ax} (h : Cells w g off (l.flatMap axV)) (i : Nat) (hi : i < l.length) : Cells w g (off + i * 3) (axV l[i]) :=
  h.sub fun j hj => by
    have hj4 : j < 3 := by simpa [axV] using hj
    rw [axs_at l i hi j hj4, List.getElem?_eq_getElem]

set_option maxRecDepth 100000 in
theorem open_acts20 {H : Type} {enc : TypeId × Value → H} {w : World} {base : Nat} {held : Bool} {fuel : Nat} {ao : Option Addr} {n cap : Nat} {x : DataW H × List MemPlace}
    (h : DataW.trod enc Try.prog w base (fun _ => true) held fuel 69 (Value.slice ao n cap).cells.toList = some x) : ∃ l : List Ax, l.length = n ∧ Sl w 3 ao l.length cap (l.flatMap axV) ∧ ∀ a ∈ l, axG w a :=
  open_list (c := 3) (α := Ax) axV (axG w) (by decide) (fun _ => rfl) (by simp [axV, Value.oneCell']) Try.underlying69 (by kernel_rfl) (fun m cs y hd => by
    obtain ⟨xs, k, -, -, hl, hxs, hel⟩ := DataW.trod_struct Try.underlying91 hd
    have h4 : Try.prog.cellsOf 91 = 3 := by kernel_rfl
    have c3 : Try.prog.cellsOf 3 = 1 := by kernel_rfl
    have c22 : Try.prog.cellsOf 27 = 1 := by kernel_rfl
    rw [h4] at hl
    match xs, hxs with
    | [y0, y1, y2], _ =>
      have e0 : DataW.trod enc Try.prog w base (fun _ => true) held k 3 ((cs.drop 0).take (Try.prog.cellsOf 3)) = some y0 := hel 0 _ rfl
      have e1 : DataW.trod enc Try.prog w base (fun _ => true) held k 3 ((cs.drop 1).take (Try.prog.cellsOf 3)) = some y1 := hel 1 _ rfl
      have e2 : DataW.trod enc Try.prog w base (fun _ => true) held k 27 ((cs.drop 2).take (Try.prog.cellsOf 27)) = some y2 := hel 2 _ rfl
      obtain ⟨x0, x1, x2, rfl⟩ : ∃ a b c, cs = [a, b, c] := by
        match cs, hl with
        | [a, b, c], _ => exact ⟨a, b, c, rfl⟩
      simp only [c3, c22, List.drop_zero, List.drop_succ_cons, List.take_succ_cons, List.take_zero] at e0 e1 e2
      obtain ⟨i, ei, -, wi⟩ := DataW.trod_int Try.underlying3 e0
      obtain ⟨i1, ei1, -, wi1⟩ := DataW.trod_int Try.underlying3 e1
      obtain ⟨ta, tn, tc, et⟩ := Go.Joins.slice_form Try.underlying27 e2
      rw [et] at e2
      simp only [List.cons.injEq, and_true] at ei ei1 et
      obtain ⟨tag, rfl, st⟩ := open_bytes Try.underlying27 Try.underlying5 (by kernel_rfl) e2
      exact ⟨⟨i, i1, ta, tc, tag⟩, by rw [ei, ei1, et]; rfl, ⟨wi, wi1, st⟩⟩) h
end Go.Proofs.Ytfmnkcmicbnfdaa
