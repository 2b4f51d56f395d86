/- priorylaw18.awake. -/
import Derived.Test.YtoelddjmjhnbaaaMarksC
namespace Go.Proofs.Ytoelddjmjhnbaaa
open Go Go.RowKit

/-- The marks of awake. -/
def am : List Bool := [true, false, false, false, false, false, false, false, true]
theorem am_1 : mark (List.replicate 9 false) 0 1 = [true, false, false, false, false, false, false, false, false] := by decide
theorem am_2 : mark [true, false, false, false, false, false, false, false, false] 8 1 = am := by decide
theorem am_pack : pack am = [1, 1] := by decide
theorem am_cnt : cnt am am.length = 2 := by decide
theorem am_free : freeS am 3 = some 5 := by decide
theorem am_any1 : anyS am 7 5 = true := by decide
theorem am_any2 : anyS am 1 7 = false := by decide
theorem bad9 : ¬ goodB 9 [1, 2] := by
  rintro ⟨-, -, -, h⟩
  rcases h with h | h
  · exact absurd h (by decide)
  · exact absurd h (by decide)

set_option maxRecDepth 100000 in
set_option maxHeartbeats 1000000 in
theorem awakeM (w : World) (R : Ending → World → Prop) (hR : ∀ w', Grow w w' → R (.returned (.bool true)) w') : Calls Try.prog 38 #[] w R := by
  go_enter Try.func38, Try.ntmps38
  go_wp2_with fail
  refine newC 9 (by omega) (by omega) w _ ?_
  intro p h c w1 m1 g1 _ l1
  go_wp2_with fail
  refine newN 0 (by omega) w1 _ ?_
  intro w2 g2
  have m2 := m1.grow g2
  go_wp2_with fail
  refine setC p h c _ 0 1 w2 m2 (by omega) (by simp) _ ?_
  rw [am_1]
  intro w3 m3 k3
  go_wp2_with fail
  refine setC p h c _ 8 1 w3 m3 (by omega) (by simp) _ ?_
  rw [am_2]
  intro w4 m4 k4
  go_wp2_with fail
  refine setBad p h c _ 8 2 w4 m4 rfl rfl (.inr ⟨by omega, .inr (.inr (by show ((9 : Nat) : Int) - 2 < 8; omega))⟩) _ ?_
  intro w5 g5
  have m5 := m4.grow g5
  have g15 := ((g1.trans g2).then (k3.trans k4) (fun g hg => by simp at hg; omega)).trans g5
  clear m1 m2 m3 m4 k3 k4 g1 g2 g5
  go_wp2_with fail
  refine freeC p h c _ 3 w5 m5 rfl _ ?_
  rw [am_free]
  intro w6 g6
  have m6 := m5.grow g6
  simp only [freeV]
  go_wp2_with fail
  have ob : Own (w6.alloc (.cells #[.int .u8 1, .int .u8 2] 5)) 5 1 (some ⟨w6.heap.size, 0, none⟩) 2 2 [.int .u8 1, .int .u8 2] := Own.made (n := 2) (heap_alloc_new w6 _) rfl (by decide) (by simp [Value.oneCell'])
  refine ofC 9 _ 2 [1, 2] _ ob.sl rfl (by decide) _ ?_ (fun h => absurd h bad9)
  intro _ w7 g7
  have g67 := (Grow.alloc w6 _).trans g7
  have m7 := m6.grow g67
  go_wp2_with fail
  refine bytesC p h c _ w7 m7 _ ?_
  rw [am_pack]
  intro h8 c8 w8 o8 g8 _
  have m8 := m7.grow g8
  have cv := run_str (d := 9) (l := [1, 1]) Try.underlying22 Try.underlying5 Try.underlying9 o8.sl
  have hst : str [1, 1] = ⟨#[1, 1]⟩ := rfl
  rw [hst] at cv
  go_wp2_with fail
  refine countC p h c _ w8 m8 _ ?_
  rw [am_cnt]
  intro w9 g9
  go_wp2_with fail
  refine anyC p h c _ 7 5 w9 (m8.grow g9) rfl rfl _ ?_
  rw [am_any1]
  intro w10 g10
  go_wp2_with fail
  refine anyC p h c _ 1 7 w10 ((m8.grow g9).grow g10) rfl rfl _ ?_
  rw [am_any2]
  intro w11 g11
  go_wp2_with fail
  refine sizeN w11 _ ?_
  intro w12 g12
  go_wp2_with fail
  refine setNil 0 1 w12 _ ?_
  intro w13 g13
  go_wp2_with fail
  refine copyN w13 _ ?_
  intro w14 g14
  go_wp2
  exact ((((((((g15.trans g6).trans g67).trans g8).trans g9).trans g10).trans g11).trans g12).trans g13).trans g14
end Go.Proofs.Ytoelddjmjhnbaaa
