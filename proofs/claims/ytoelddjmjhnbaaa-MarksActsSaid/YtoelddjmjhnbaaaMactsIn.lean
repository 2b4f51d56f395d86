/- Acts on marks that came in. -/
import Derived.Test.YtoelddjmjhnbaaaFrame
import Derived.Test.YtoelddjmjhnbaaaMarksAc
namespace Go.Proofs.Ytoelddjmjhnbaaa
open Go Go.RowKit Go.ChangeShapes Go.WideShapes Go.Deep
theorem open_macts {H : Type} {enc : TypeId × Value → H} {w : World} {base : Nat} {held : Bool} {fuel : Nat} {ao : Option Addr} {n cap : Nat} {x : DataW H × List MemPlace}
    (h : DataW.trod enc Try.prog w base (fun _ => true) held fuel 71 (Value.slice ao n cap).cells.toList = some x) : ∃ l : List MA, l.length = n ∧ Sl w 3 ao l.length cap (mak l) ∧ ∀ a ∈ l, (Lit.int .i64 a.2.1).wf = true ∧ (Lit.int .i64 a.2.2).wf = true := by
  obtain ⟨l, h1, h2, h3⟩ := open_list (c := 3) (α := MA) (fun t => [.int .i64 t.1, .int .i64 t.2.1, .int .i64 t.2.2]) (fun t => (Lit.int .i64 t.2.1).wf = true ∧ (Lit.int .i64 t.2.2).wf = true) (by decide) (fun _ => rfl) (by simp [Value.oneCell']) Try.underlying71 (by kernel_rfl) (fun n cs y hd => by
    obtain ⟨y0, y1, y2, n, -, hl, e0, e1, e2⟩ := trod_struct3 Try.underlying78 hd
    obtain ⟨x0, x1, x2, rfl⟩ : ∃ a b c, cs = [a, b, c] := by
      have h3 : Try.prog.cellsOf 78 = 3 := by kernel_rfl
      rw [h3] at hl
      match cs, hl with
      | [a, b, c], _ => exact ⟨a, b, c, rfl⟩
    have c3 : Try.prog.cellsOf 3 = 1 := by kernel_rfl
    simp only [c3, List.drop_zero, List.drop_succ_cons, List.take_succ_cons, List.take_zero] at e0 e1 e2
    obtain ⟨k, ek, -, -⟩ := DataW.trod_int Try.underlying3 e0
    obtain ⟨s, es, -, ws⟩ := DataW.trod_int Try.underlying3 e1
    obtain ⟨m, em, -, wm⟩ := DataW.trod_int Try.underlying3 e2
    simp only [List.cons.injEq, and_true] at ek es em
    exact ⟨(k, s, m), by rw [ek, es, em], ws, wm⟩) h
  exact ⟨l, h1, h2, h3⟩
end Go.Proofs.Ytoelddjmjhnbaaa
