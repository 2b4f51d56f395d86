/- A script that came in. -/
import Derived.Test.YtgchbcopbkoomaaAw25
import Derived.Lib.SmallJoins
namespace Go.Proofs.Ytgchbcopbkoomaa
open Go Go.RowKit Go.ChangeShapes Go.WideShapes Go.Deep

theorem str_of (s : ByteArray) : ∃ l : List UInt8, s = str l := ⟨s.data.toList, by simp [str]⟩
theorem open_bools25 {H : Type} {enc : TypeId × Value → H} {w : World} {base : Nat} {held : Bool} {fuel : Nat} {ao : Option Addr} {n cap : Nat} {x : DataW H × List MemPlace}
    (h : DataW.trod enc Try.prog w base (fun _ => true) held fuel 36 (Value.slice ao n cap).cells.toList = some x) : ∃ l : List Bool, l.length = n ∧ Sl w 1 ao l.length cap (l.map .bool) := by
  obtain ⟨l, h1, h2, -⟩ := open_list (α := Bool) (fun b => [.bool b]) (fun _ => True) (by decide) (fun _ => rfl) (by simp [Value.oneCell']) Try.underlying36 (by kernel_rfl) (fun n cs y hd => by
    obtain ⟨k, rfl, -⟩ := DataW.trod_bool Try.underlying4 hd
    exact ⟨k, rfl, trivial⟩) h
  refine ⟨l, h1, ?_⟩
  rwa [flatMap_one] at h2
structure inG (w : World) (e : Ex) : Prop where
  g : exG w e
  p : True
theorem open_command {H : Type} {enc : TypeId × Value → H} {w : World} {base : Nat} {held : Bool} {fuel : Nat} {cs : List Value} {x : DataW H × List MemPlace}
    (hd : DataW.trod enc Try.prog w base (fun _ => true) held fuel 35 cs = some x) : ∃ (c : CmX) (da : Option Addr) (dc : Nat), cs = doV c da dc ∧ Sl w 1 da c.data.length dc (c.data.map B) := by
  obtain ⟨xs, k, -, -, hl, hxs, hel⟩ := DataW.trod_struct Try.underlying35 hd
  have h4 : Try.prog.cellsOf 35 = 6 := by kernel_rfl
  have c3 : Try.prog.cellsOf 3 = 1 := by kernel_rfl
  have c9 : Try.prog.cellsOf 9 = 1 := by kernel_rfl
  have c22 : Try.prog.cellsOf 33 = 1 := by kernel_rfl
  rw [h4] at hl
  match xs, hxs with
  | [y0, y1, y2, y3, y4, y5], _ =>
    have e0 : DataW.trod enc Try.prog w base (fun _ => true) held k 3 ((cs.drop 0).take (Try.prog.cellsOf 3)) = some y0 := hel 0 _ rfl
    have e1 : DataW.trod enc Try.prog w base (fun _ => true) held k 9 ((cs.drop 1).take (Try.prog.cellsOf 9)) = some y1 := hel 1 _ rfl
    have e2 : DataW.trod enc Try.prog w base (fun _ => true) held k 9 ((cs.drop 2).take (Try.prog.cellsOf 9)) = some y2 := hel 2 _ rfl
    have e3 : DataW.trod enc Try.prog w base (fun _ => true) held k 3 ((cs.drop 3).take (Try.prog.cellsOf 3)) = some y3 := hel 3 _ rfl
    have e4 : DataW.trod enc Try.prog w base (fun _ => true) held k 3 ((cs.drop 4).take (Try.prog.cellsOf 3)) = some y4 := hel 4 _ rfl
    have e5 : DataW.trod enc Try.prog w base (fun _ => true) held k 33 ((cs.drop 5).take (Try.prog.cellsOf 33)) = some y5 := hel 5 _ rfl
    obtain ⟨x0, x1, x2, x3, x4, x5, rfl⟩ : ∃ a b c d e f, cs = [a, b, c, d, e, f] := by
      match cs, hl with
      | [a, b, c, d, e, f], _ => exact ⟨a, b, c, d, e, f, rfl⟩
    simp only [c3, c9, c22, List.drop_zero, List.drop_succ_cons, List.take_succ_cons, List.take_zero] at e0 e1 e2 e3 e4 e5
    obtain ⟨i0, z0, -, -⟩ := DataW.trod_int Try.underlying3 e0
    obtain ⟨t1, z1, -, -⟩ := DataW.trod_string Try.underlying9 e1
    obtain ⟨t2, z2, -, -⟩ := DataW.trod_string Try.underlying9 e2
    obtain ⟨i3, z3, -, -⟩ := DataW.trod_int Try.underlying3 e3
    obtain ⟨i4, z4, -, -⟩ := DataW.trod_int Try.underlying3 e4
    obtain ⟨ta, tn, tc, et⟩ := Go.Joins.slice_form Try.underlying33 e5
    rw [et] at e5
    simp only [List.cons.injEq, and_true] at z0 z1 z2 z3 z4 et
    obtain ⟨l, rfl, st⟩ := open_bytes Try.underlying33 Try.underlying5 (by kernel_rfl) e5
    obtain ⟨p, rfl⟩ := str_of t1
    obtain ⟨o, rfl⟩ := str_of t2
    exact ⟨⟨i0, p, o, i3, i4, l⟩, ta, tc, by rw [z0, z1, z2, z3, z4, et]; rfl, st⟩
set_option maxRecDepth 100000 in
theorem open_steps25 {H : Type} {enc : TypeId × Value → H} {w : World} {base : Nat} {held : Bool} {fuel : Nat} {ao : Option Addr} {n cap : Nat} {x : DataW H × List MemPlace}
    (h : DataW.trod enc Try.prog w base (fun _ => true) held fuel 22 (Value.slice ao n cap).cells.toList = some x) : ∃ l : List Ex, l.length = n ∧ Sl w 10 ao l.length cap (l.flatMap exV) ∧ ∀ a ∈ l, exG w a :=
  open_list (c := 10) (α := Ex) exV (exG w) (by decide) exV_len exV_one Try.underlying22 (by kernel_rfl) (fun m cs y hd => by
    obtain ⟨xs, k, -, -, hl, hxs, hel⟩ := DataW.trod_struct Try.underlying38 hd
    have h4 : Try.prog.cellsOf 38 = 10 := by kernel_rfl
    have c3 : Try.prog.cellsOf 3 = 1 := by kernel_rfl
    have c6 : Try.prog.cellsOf 35 = 6 := by kernel_rfl
    have c8 : Try.prog.cellsOf 36 = 1 := by kernel_rfl
    have c22 : Try.prog.cellsOf 33 = 1 := by kernel_rfl
    rw [h4] at hl
    match xs, hxs with
    | [y0, y1, y2, y3, y4], _ =>
      have e0 : DataW.trod enc Try.prog w base (fun _ => true) held k 3 ((cs.drop 0).take (Try.prog.cellsOf 3)) = some y0 := hel 0 _ rfl
      have e1 : DataW.trod enc Try.prog w base (fun _ => true) held k 35 ((cs.drop 1).take (Try.prog.cellsOf 35)) = some y1 := hel 1 _ rfl
      have e2 : DataW.trod enc Try.prog w base (fun _ => true) held k 3 ((cs.drop 7).take (Try.prog.cellsOf 3)) = some y2 := hel 2 _ rfl
      have e3 : DataW.trod enc Try.prog w base (fun _ => true) held k 36 ((cs.drop 8).take (Try.prog.cellsOf 36)) = some y3 := hel 3 _ rfl
      have e4 : DataW.trod enc Try.prog w base (fun _ => true) held k 33 ((cs.drop 9).take (Try.prog.cellsOf 33)) = some y4 := hel 4 _ rfl
      obtain ⟨x0, x1, x2, x3, x4, x5, x6, x7, x8, x9, rfl⟩ : ∃ a b c d e f g h i j, cs = [a, b, c, d, e, f, g, h, i, j] := by
        match cs, hl with
        | [a, b, c, d, e, f, g, h, i, j], _ => exact ⟨a, b, c, d, e, f, g, h, i, j, rfl⟩
      simp only [c3, c6, c8, c22, List.drop_zero, List.drop_succ_cons, List.take_succ_cons, List.take_zero] at e0 e1 e2 e3 e4
      obtain ⟨i0, z0, -, -⟩ := DataW.trod_int Try.underlying3 e0
      obtain ⟨c, da, dc, z1, s1⟩ := open_command e1
      obtain ⟨i2, z2, -, -⟩ := DataW.trod_int Try.underlying3 e2
      obtain ⟨ka, kn, kc, z3⟩ := Go.Joins.slice_form Try.underlying36 e3
      obtain ⟨ba, bn, bc, z4⟩ := Go.Joins.slice_form Try.underlying33 e4
      rw [z3] at e3
      rw [z4] at e4
      simp only [doV, List.cons.injEq, and_true] at z0 z1 z2 z3 z4
      obtain ⟨kl, rfl, sk⟩ := open_bools25 e3
      obtain ⟨bl, rfl, sb⟩ := open_bytes Try.underlying33 Try.underlying5 (by kernel_rfl) e4
      obtain ⟨u1, u2, u3, u4, u5, u6⟩ := z1
      exact ⟨⟨⟨i0, c, i2, kl, bl⟩, da, dc, ka, kc, ba, bc⟩, by rw [z0, u1, u2, u3, u4, u5, u6, z2, z3, z4]; rfl, ⟨s1, sk, sb⟩⟩) h
end Go.Proofs.Ytgchbcopbkoomaa
