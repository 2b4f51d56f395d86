/- priorylaw17.awake. -/
import Derived.Test.YtoelddjmjhnbaaaSame
namespace Go.Proofs.Ytoelddjmjhnbaaa
open Go Go.RowKit
theorem wide5 : wide 5 = [5, 2, 1] := by
  have : wide 5 = wl 5 := by unfold wide; rw [if_neg (by omega)]; rfl
  rw [this, wl_more (by omega), wl_more (by omega), wl_one (by omega)]
theorem wide1 : wide 1 = [1] := by
  have : wide 1 = wl 1 := by unfold wide; rw [if_neg (by omega)]; rfl
  rw [this, wl_one (by omega)]
theorem wide0 : wide 0 = [] := by unfold wide; rw [if_pos (by omega)]
theorem wid50 : wid 5 0 = 5 := by unfold wid; rw [wide5]; rfl
theorem wid51 : wid 5 1 = 2 := by unfold wid; rw [wide5]; rfl
theorem wid53 : wid 5 3 = 0 := by unfold wid; rw [wide5]; rfl
theorem wid52 : wid 5 2 = 1 := by unfold wid; rw [wide5]; rfl
theorem way54 : way 5 4 = [(0, 4), (1, 1), (2, 0)] := by unfold way; rw [wid50, wide5]; rfl
theorem kids511 : kids 5 1 1 = [(0, 4)] := by unfold kids kidN; rw [wid51, show (1 : Int) - 1 = 0 by omega, wid50]; rfl
theorem beside50 : beside 5 0 = [[(0, 0), (0, 1), (0, 2), (0, 3)], [(1, 0), (1, 1)]] := by
  unfold beside
  rw [wid50, wide5]
  have e1 : kids 5 1 0 = [(0, 0), (0, 1), (0, 2), (0, 3)] := by unfold kids kidN; rw [wid51, show (1 : Int) - 1 = 0 by omega, wid50]; rfl
  have e2 : kids 5 2 0 = [(1, 0), (1, 1)] := by unfold kids kidN; rw [wid52, show (2 : Int) - 1 = 1 by omega, wid51]; rfl
  show [kids 5 1 0, kids 5 2 0] = _
  rw [e1, e2]

set_option maxRecDepth 100000 in
set_option maxHeartbeats 1000000 in
theorem awakeP (w : World) (R : Ending → World → Prop) (hR : ∀ w', Grow w w' → R (.returned (.bool true)) w') : Calls Try.prog 24 #[] w R := by
  go_enter Try.func24, Try.ntmps24
  go_wp2_with fail
  refine wayC 5 4 rfl w _ ?_
  rw [way54]
  intro po pc w1 ho1 g1 _
  go_wp2_with fail
  refine kidsC 5 1 1 rfl w1 _ ?_
  rw [kids511]
  intro ko kc w2 ho2 g2 _
  go_wp2_with fail
  refine besideC 5 0 rfl w2 _ ?_
  rw [beside50]
  intro bo bc vs w3 ho3 hr3 g3
  go_wp2_with fail
  refine levelsC 5 rfl w3 _ ?_
  rw [wide5]
  intro w4 g4
  go_wp2_with fail
  refine widthC 5 1 rfl w4 _ ?_
  rw [wid51]
  intro w5 g5
  go_wp2_with fail
  refine widthC 5 3 rfl w5 _ ?_
  rw [wid53]
  intro w6 g6
  go_wp2_with fail
  refine levelsC 1 rfl w6 _ ?_
  rw [wide1]
  intro w7 g7
  go_wp2_with fail
  refine levelsC 0 rfl w7 _ ?_
  rw [wide0]
  intro w8 g8
  have g38 := (((g4.trans g5).trans g6).trans g7).trans g8
  have s1 := ho1.sl.grow ((g2.trans g3).trans g38)
  have s2 := ho2.sl.grow (g3.trans g38)
  have s3 := ho3.sl.grow g38
  have r3 := hr3.grow g38
  obtain ⟨p1, f1, e1, c1⟩ := s1.hat (by decide)
  obtain ⟨p2, f2, e2, c2⟩ := s2.hat (by decide)
  obtain ⟨p3, f3, e3, c3⟩ := s3.hat (by decide)
  subst e1 e2 e3
  match vs, r3 with
  | [_, _], ⟨⟨q1, d1, rfl, t1, _⟩, ⟨q2, d2, rfl, t2, _⟩, _⟩ =>
    have a1 := c1 2 (by decide)
    have a2 := c1 3 (by decide)
    have b1 := c2 0 (by decide)
    have b2 := c2 1 (by decide)
    have v1 := c3 0 (by simp)
    have v2 := c3 1 (by simp)
    simp only [pk, List.flatMap_cons, List.cons_append, List.nil_append, List.getElem_cons_zero, List.getElem_cons_succ, Nat.add_zero] at a1 a2 b1 b2 v1 v2
    clear c1 c2 c3 s1 s2 s3 ho1 ho2 ho3 hr3 t1 t2
    go_wp2_with fail
    refine upC 2 7 (by omega) (by omega) w8 _ ?_
    intro w9 g9
    go_wp2
    exact ((((g1.trans g2).trans g3).trans g38).trans g9)
end Go.Proofs.Ytoelddjmjhnbaaa
