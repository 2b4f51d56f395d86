/- what the tape's laws begin with. -/
import Derived.Test.YtoelddjmjhnbaaaTapeL
import Derived.Lib.SlBytesConst
namespace Go.Proofs.Ytoelddjmjhnbaaa
open Go Go.RowKit

set_option maxHeartbeats 400000 in
theorem tapeLeftNil (w : World) (R : Ending → World → Prop) (hR : R (.returned (.int .i64 0)) w) : Calls Try.prog 20 #[.pointer none] w R := by
  go_enter Try.func20, Try.ntmps20
  go_wp2
  exact hR
set_option maxHeartbeats 400000 in
theorem tapeForkNil (w : World) (R : Ending → World → Prop) (hR : R (.returned (.pointer none)) w) : Calls Try.prog 19 #[.pointer none] w R := by
  go_enter Try.func19, Try.ntmps19
  go_wp2
  exact hR
set_option maxHeartbeats 400000 in
theorem tapeTakeNil (w : World) (what : ByteArray) (n : Int) (hn : 0 < n) (R : Ending → World → Prop) (hR : R (.returned (.tuple #[.slice none 0 0, .int .i64 9])) w) :
    Calls Try.prog 17 #[.pointer none, .string what, .int .i64 n] w R := by
  go_enter Try.func17, Try.ntmps17
  go_wp2_with fail
  refine tapeLeftNil w _ ?_
  go_wp2
  exact hR

/-- A text of bytes that is laid as it stands. -/
theorem sl_const {w : World} {e : TypeId} {fr : Nat × Nat} (l : List UInt8) (hl : l.length ≤ 60000) : Sl (w.alloc (.cells (l.map B).toArray e fr)) 1 (some ⟨w.heap.size, 0, none⟩) l.length l.length (l.map B) :=
  ⟨Nat.le_refl _, by unfold maxLen; omega, by simp, B_one l, by simp, fun _ => ⟨w.heap.size, 0, rfl, fun i hi => by
    rw [Nat.zero_add, cell_of_row _ _ i _ _ _ (heap_alloc_new w _)]
    simp only [List.getElem?_toArray]
    exact List.getElem?_eq_getElem hi⟩⟩

def abc : List UInt8 := [97, 98, 99, 100, 101, 102]
set_option maxRecDepth 100000 in
set_option maxHeartbeats 1000000 in
theorem awake9 (w : World) (R : Ending → World → Prop) (hR : ∀ w', Grow w w' → R (.returned (.bool true)) w') : Calls Try.prog 15 #[] w R := by
  have kc := fun (w : World) (C : Array Value) (n c : Nat) => Lib.run_convert_bytes_const (P := Try.prog) w 22 5 C n c Try.underlying22 Try.underlying5
  have hsl := sl_const (w := w) (e := 5) (fr := (6, 7)) abc (by decide)
  go_enter Try.func15, Try.ntmps15
  go_wp2_with fail
  refine tapeNew _ _ (abc.map B) _ hsl (by decide) _ ?_
  clear kc hsl
  intro p wf rb w1 t1 g1 f1 r1
  go_wp2_with fail
  refine tapeTake p wf rb _ _ _ w1 t1 (by decide) (by decide) _ 4 (by decide) _ ?_
  intro a1 c1 wf1 w2 o1 t2 k2 s2 f2 d1
  go_wp2_with fail
  refine tapeTakeOver p wf1 rb _ _ _ w2 t2 (by decide) _ 3 (by decide) (by decide) _ ?_
  intro w3 g3
  have t3 := t2.keep (Keep.of_grow [] g3) (by simp) (by simp)
  clear t1 t2
  go_wp2_with fail
  refine tapeTake p wf1 rb _ _ _ w3 t3 (by decide) (by decide) _ 2 (by decide) _ ?_
  intro a2 c2 wf2 w4 o2 t4 k4 s4 f4 d2
  go_wp2_with fail
  refine tapeTakeNil w4 _ 1 (by decide) _ ?_
  have o1' := (o1.grow g3).keep k4 d1
  have e1 := run_str (P := Try.prog) (d := 9) Try.underlying22 Try.underlying5 Try.underlying9 (l := [97, 98, 99, 100]) o1'.sl
  have e2 := run_str (P := Try.prog) (d := 9) Try.underlying22 Try.underlying5 Try.underlying9 (l := [101, 102]) o2.sl
  go_wp2_with fail
  refine tapeLeft p wf2 rb _ _ _ w4 t4 (by decide) _ ?_
  intro w5 g5
  have t5 := t4.keep (Keep.of_grow [] g5) (by simp) (by simp)
  clear t3 t4 e1 e2
  go_wp2_with fail
  refine tapeTakes p wf2 rb _ _ _ w5 t5 (by decide) _ ?_
  intro a6 c6 w6 o6 g6 f6
  go_wp2_with fail
  refine takesEq a6 _ c6 2 [(⟨#[115, 97, 108, 116]⟩, 0, 4), (⟨#[107, 101, 121]⟩, 4, 2)] _ (o6.grow (Grow.alloc w6 _)).sl (Own.made (n := 2) (heap_alloc_new w6 _) rfl (by decide) (by simp [Value.oneCell'])).sl (by decide) _ ?_
  intro w7 g7
  go_wp2_with fail
  refine tapeLeftNil w7 _ ?_
  go_wp2_with fail
  refine tapeForkNil w7 _ ?_
  go_wp2_with fail
  have h1 := (Grow.alloc w (.cells (List.map B abc).toArray 5 (6, 7))).trans g1
  have z := (Grow.alloc w (.cells (List.map B abc).toArray 5 (6, 7))).size
  have f1' := f1.mono z
  have h3 := (h1.then k2 f1').trans g3
  have h4 := h3.then k4 (Fr.of_inn s2 f1' h1.size)
  exact (((h4.trans g5).trans g6).trans (Grow.alloc w6 _)).trans g7
end Go.Proofs.Ytoelddjmjhnbaaa
