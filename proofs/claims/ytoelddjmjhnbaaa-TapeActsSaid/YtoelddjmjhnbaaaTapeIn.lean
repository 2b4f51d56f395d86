/- Acts that came in. -/
import Derived.Test.YtoelddjmjhnbaaaFrame
import Derived.Test.YtoelddjmjhnbaaaActs
namespace Go.Proofs.Ytoelddjmjhnbaaa
open Go Go.RowKit Go.ChangeShapes Go.WideShapes Go.Deep
theorem open_acts {H : Type} {enc : TypeId × Value → H} {w : World} {base : Nat} {held : Bool} {fuel : Nat} {ao : Option Addr} {n cap : Nat} {x : DataW H × List MemPlace}
    (h : DataW.trod enc Try.prog w base (fun _ => true) held fuel 23 (Value.slice ao n cap).cells.toList = some x) : ∃ l : List (Int × ByteArray × Int), l.length = n ∧ Sl w 3 ao l.length cap (ak l) ∧ True := by
  obtain ⟨l, h1, h2, -⟩ := open_list (c := 3) (α := Int × ByteArray × Int) (fun t => [.int .i64 t.1, .string t.2.1, .int .i64 t.2.2]) (fun _ => True) (by decide) (fun _ => rfl) (by simp [Value.oneCell']) Try.underlying23 (by kernel_rfl) (fun m cs y hd => by
    obtain ⟨y0, y1, y2, n, -, hl, e0, e1, e2⟩ := trod_struct3 Try.underlying32 hd
    obtain ⟨x0, x1, x2, rfl⟩ : ∃ a b c, cs = [a, b, c] := by
      have h3 : Try.prog.cellsOf 32 = 3 := by kernel_rfl
      rw [h3] at hl
      match cs, hl with
      | [a, b, c], _ => exact ⟨a, b, c, rfl⟩
    have c3 : Try.prog.cellsOf 3 = 1 := by kernel_rfl
    have c9 : Try.prog.cellsOf 9 = 1 := by kernel_rfl
    simp only [c3, c9, List.drop_zero, List.drop_succ_cons, List.take_succ_cons, List.take_zero] at e0 e1 e2
    obtain ⟨k, ek, -, -⟩ := DataW.trod_int Try.underlying3 e0
    obtain ⟨s, es, -, -⟩ := DataW.trod_string Try.underlying9 e1
    obtain ⟨m, em, -, -⟩ := DataW.trod_int Try.underlying3 e2
    simp only [List.cons.injEq, and_true] at ek es em
    exact ⟨(k, s, m), by rw [ek, es, em], trivial⟩) h
  exact ⟨l, h1, h2, trivial⟩
end Go.Proofs.Ytoelddjmjhnbaaa
