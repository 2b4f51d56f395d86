/- Acts that came in: a kind, a key, parts, a tag. -/
import Derived.Test.YtaepfkpfageiaaaPartsIn
namespace Go.Proofs.Ytaepfkpfageiaaa
open Go Go.RowKit Go.ChangeShapes Go.WideShapes Go.Deep

/-- An act. -/
structure Ac where
  kind : Int
  ka : Option Addr
  kc : Nat
  key : List UInt8
  pa : Option Addr
  pc : Nat
  pvs : List Value
  parts : List (List UInt8)
  ta : Option Addr
  tc : Nat
  tag : List UInt8
def acV (a : Ac) : List Value := [.int .i64 a.kind, .slice a.ka a.key.length a.kc, .slice a.pa a.parts.length a.pc, .slice a.ta a.tag.length a.tc]
/-- Its slices read what they should. -/
structure acG (w : World) (a : Ac) : Prop where
  wf : (Lit.int IntKind.i64 a.kind).wf = true
  sk : Sl w 1 a.ka a.key.length a.kc (a.key.map B)
  sp : Sl w 1 a.pa a.parts.length a.pc a.pvs
  pt : Pt w a.pvs a.parts
  st : Sl w 1 a.ta a.tag.length a.tc (a.tag.map B)
theorem acG.grow {w w' : World} {a : Ac} (h : acG w a) (g : Grow w w') : acG w' a := ⟨h.wf, h.sk.grow g, h.sp.grow g, h.pt.grow g, h.st.grow g⟩

set_option maxRecDepth 100000 in
theorem open_acts {H : Type} {enc : TypeId × Value → H} {w : World} {base : Nat} {held : Bool} {fuel : Nat} {ao : Option Addr} {n cap : Nat} {x : DataW H × List MemPlace}
    (h : DataW.trod enc Try.prog w base (fun _ => true) held fuel 58 (Value.slice ao n cap).cells.toList = some x) : ∃ l : List Ac, l.length = n ∧ Sl w 4 ao l.length cap (l.flatMap acV) ∧ ∀ a ∈ l, acG w a :=
  open_list (c := 4) (α := Ac) acV (acG w) (by decide) (fun _ => rfl) (by simp [acV, Value.oneCell']) Try.underlying58 (by kernel_rfl) (fun m cs y hd => by
    obtain ⟨xs, k, -, -, hl, hxs, hel⟩ := DataW.trod_struct Try.underlying64 hd
    have h4 : Try.prog.cellsOf 64 = 4 := by kernel_rfl
    have c3 : Try.prog.cellsOf 3 = 1 := by kernel_rfl
    have c22 : Try.prog.cellsOf 22 = 1 := by kernel_rfl
    have c23 : Try.prog.cellsOf 23 = 1 := by kernel_rfl
    rw [h4] at hl
    match xs, hxs with
    | [y0, y1, y2, y3], _ =>
      have e0 : DataW.trod enc Try.prog w base (fun _ => true) held k 3 ((cs.drop 0).take (Try.prog.cellsOf 3)) = some y0 := hel 0 _ rfl
      have e1 : DataW.trod enc Try.prog w base (fun _ => true) held k 22 ((cs.drop 1).take (Try.prog.cellsOf 22)) = some y1 := hel 1 _ rfl
      have e2 : DataW.trod enc Try.prog w base (fun _ => true) held k 23 ((cs.drop 2).take (Try.prog.cellsOf 23)) = some y2 := hel 2 _ rfl
      have e3 : DataW.trod enc Try.prog w base (fun _ => true) held k 22 ((cs.drop 3).take (Try.prog.cellsOf 22)) = some y3 := hel 3 _ rfl
      obtain ⟨x0, x1, x2, x3, rfl⟩ : ∃ a b c d, cs = [a, b, c, d] := by
        match cs, hl with
        | [a, b, c, d], _ => exact ⟨a, b, c, d, rfl⟩
      simp only [c3, c22, c23, List.drop_zero, List.drop_succ_cons, List.take_succ_cons, List.take_zero] at e0 e1 e2 e3
      obtain ⟨i, ei, -, wi⟩ := DataW.trod_int Try.underlying3 e0
      obtain ⟨ka, kn, kc, ek⟩ := Go.Joins.slice_form Try.underlying22 e1
      obtain ⟨pa, pn, pc, ep⟩ := Go.Joins.slice_form Try.underlying23 e2
      obtain ⟨ta, tn, tc, et⟩ := Go.Joins.slice_form Try.underlying22 e3
      rw [ek] at e1
      rw [ep] at e2
      rw [et] at e3
      simp only [List.cons.injEq, and_true] at ei ek ep et
      obtain ⟨key, rfl, sk⟩ := open_bytes Try.underlying22 Try.underlying5 (by kernel_rfl) e1
      obtain ⟨parts, rfl, pvs, sp, pt⟩ := open_parts e2
      obtain ⟨tag, rfl, st⟩ := open_bytes Try.underlying22 Try.underlying5 (by kernel_rfl) e3
      exact ⟨⟨i, ka, kc, key, pa, pc, pvs, parts, ta, tc, tag⟩, by rw [ei, ek, ep, et]; rfl, ⟨wi, sk, sp, pt, st⟩⟩) h
end Go.Proofs.Ytaepfkpfageiaaa
