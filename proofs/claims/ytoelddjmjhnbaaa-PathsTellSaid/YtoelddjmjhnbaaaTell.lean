/- PathsTell: the walk. -/
import Derived.Test.YtoelddjmjhnbaaaAwakeP
namespace Go.Proofs.Ytoelddjmjhnbaaa
open Go Go.RowKit

theorem RowsOf.len {w : World} {av : List Nat} : ∀ {vs : List Value} {ls : List (List Pl)}, RowsOf w av vs ls → vs.length = ls.length
  | [], [], _ => rfl
  | _ :: _, _ :: _, ⟨_, h⟩ => by simp [RowsOf.len h]
  | [], _ :: _, h => h.elim
  | _ :: _, [], h => h.elim
theorem RowsOf.at {w : World} {av : List Nat} : ∀ {vs : List Value} {ls : List (List Pl)}, RowsOf w av vs ls → ∀ i (h : i < ls.length), ∃ ao c, vs[i]? = some (.slice ao ls[i].length c) ∧ Sl w 2 ao ls[i].length c (pk ls[i])
  | [], [], _, i, h => by simp at h
  | _ :: _, _ :: _, ⟨⟨ao, c, e, s, _⟩, h⟩, i, hi => by
    cases i with
    | zero => exact ⟨ao, c, by simp [e], s⟩
    | succ i => simpa using RowsOf.at h i (by simpa using hi)
  | [], _ :: _, h, _, _ => h.elim
  | _ :: _, [], h, _, _ => h.elim

set_option maxRecDepth 100000 in
set_option maxHeartbeats 2000000 in
theorem tell (n level index leaf : Int) (w : World) (hn : (Lit.int .i64 n).wf = true) (_ : (Lit.int .i64 level).wf = true) (_ : (Lit.int .i64 index).wf = true) (_ : (Lit.int .i64 leaf).wf = true)
    (R : Ending → World → Prop) (hR : ∀ w', Grow w w' → R (.returned (.bool true)) w') :
    Calls Try.prog 6 #[.int .i64 n, .int .i64 level, .int .i64 index, .int .i64 leaf] w R := by
  by_cases hb : 3000 < n
  · go_enter Try.func6, Try.ntmps6
    go_wp2_with fail
    refine awakeP w _ ?_
    intro w1 g1
    go_wp2
    exact g1
  have hk4 := kids_len n level index
  have hwl := wide_len n
  have hway : (way n leaf).length ≤ 65537 := by
    unfold way; split
    · simp
    · rw [wayN_len]; exact hwl
  have hbl : (beside n leaf).length ≤ 65537 := by
    unfold beside; split
    · simp
    · rw [besideN_len]; omega
  have hbk : ∀ i (h : i < (beside n leaf).length), ((beside n leaf)[i]).length ≤ 4 := by
    intro i h
    unfold beside at h ⊢
    split
    · rename_i hc; rw [if_pos hc] at h; simp at h
    · simp only [besideN, List.getElem_map]; exact kids_len _ _ _
  go_enter Try.func6, Try.ntmps6
  go_wp2_with fail
  refine kidsC n level index hn w _ ?_
  intro ko kc w1 ho1 g1 _
  go_wp2_with fail
  refine flatC ko kc (kids n level index) w1 ho1.sl (by omega) _ ?_
  intro fo fc w2 ho2 g2 _
  go_wp2_with fail
  refine levelsC n hn w2 _ ?_
  intro w3 g3
  go_wp2_with fail
  refine rWidthsC n hn w3 _ ?_
  intro xo xc w4 _ g4
  go_wp2_with fail
  refine widthC n level hn w4 _ ?_
  intro w5 g5
  go_wp2_with fail
  refine rWidthC n level hn w5 _ ?_
  intro w6 g6
  go_wp2_with fail
  refine rKidsC n level index hn w6 _ ?_
  intro ro rc w7 ho7 g7 _
  go_wp2_with fail
  refine sameC fo ro fc rc (kids n level index) (kids n level index) w7 (ho2.sl.grow ((((g3.trans g4).trans g5).trans g6).trans g7)) ho7.sl (by omega) _ ?_
  intro w8 g8
  rw [decide_eq_true rfl]
  have g18 := (((((g1.trans g2).trans g3).trans g4).trans g5).trans g6).trans (g7.trans g8)
  clear ho1 ho2 ho7 g1 g2 g3 g4 g5 g6 g7 g8
  go_wp2_with fail
  refine wayC n leaf hn w8 _ ?_
  intro po pc w9 ho9 g9 _
  go_wp2_with fail
  refine flatC po pc (way n leaf) w9 ho9.sl (by omega) _ ?_
  intro qo qc w10 ho10 g10 _
  go_wp2_with fail
  refine rWayC n leaf hn w10 _ ?_
  intro so sc w11 ho11 g11 _
  go_wp2_with fail
  refine sameC qo so qc sc (way n leaf) (way n leaf) w11 (ho10.sl.grow g11) ho11.sl (by omega) _ ?_
  intro w12 g12
  rw [decide_eq_true rfl]
  have g112 := g18.trans (((g9.trans g10).trans g11).trans g12)
  clear ho9 ho10 ho11 g9 g10 g11 g12 g18
  go_wp2_with fail
  refine besideC n leaf hn w12 _ ?_
  intro bo bc vs w13 ho13 hr13 g13
  go_wp2_with fail
  refine rBesideC n leaf hn w13 _ ?_
  intro co cc us w14 ho14 hr14 g14
  have sx := ho13.sl.grow g14
  have rx := hr13.grow g14
  have sy := ho14.sl
  have gall := (g112.trans g13).trans g14
  clear ho13 hr13 ho14 g112 g13 g14
  go_wp2_with fail
  go_loopw [12] (fun i wr => ∃ k : Nat, i = .int .i64 k ∧ k ≤ (beside n leaf).length ∧ Grow w14 wr) (fun i _ => (beside n leaf).length - (intOf i).toNat)
  case atStart => exact ⟨0, rfl, Nat.zero_le _, Grow.refl _⟩
  case round =>
    obtain ⟨k, rfl, hk, hg⟩ := hrel
    by_cases hlt : k < (beside n leaf).length
    · obtain ⟨g, off, e1, hc⟩ := (sx.grow hg).hat (by omega)
      obtain ⟨g', off', e2, hc'⟩ := (sy.grow hg).hat (by omega)
      subst e1 e2
      obtain ⟨xo1, xc1, hx1, sx1⟩ := RowsOf.at (rx.grow hg) k hlt
      obtain ⟨yo1, yc1, hy1, sy1⟩ := RowsOf.at (hr14.grow hg) k hlt
      have c0 := KW.cell (fp := []) (p0 := tt) (hc.at hx1) (by simp)
      have c1 := KW.cell (fp := []) (p0 := tt) (hc'.at hy1) (by simp)
      have hbk4 := hbk k hlt
      obtain ⟨row, hrow⟩ : ∃ row, row = (beside n leaf)[k] := ⟨_, rfl⟩
      rw [← hrow] at c0 c1 sx1 sy1 hbk4
      clear hrow hc hc' hx1 hy1
      go_wp2_with fail
      let V : Nat → Array Value → Value → World → Prop := fun i _ v w =>
        match i with
        | 4 => vOwn 59 2 row.length (pk row) v w
        | _ => vIs (.bool true) v w
      refine wp_region_R (segK [] wr [4, 9] V ?_) (by kernel_rfl) segK_drew ?_
      · intro i vs v wa wb kk
        show V i vs v wa → V i vs v wb
        simp only [V]
        split <;> first | exact vOwn.st kk | exact vIs.st kk
      unfold segK segR
      repeat (first | (refine wpV_skp rfl rfl ?_; simp only [List.set_cons_succ, List.set_cons_zero]) | (refine wpV_look rfl rfl rfl rfl rfl (fun K hK => ?_); go_big_quiet_op; refine hK _ ?_; clear hK K))
      refine wpV_mk rfl rfl rfl [] rfl (fun _ w7 hC _ => yields_call (by kernel_rfl) ?_) (fun _ v w7 hC hV _ => ?_)
      · obtain ⟨⟨w7, hk, -⟩, rfl⟩ := hC
        refine flatC xo1 xc1 row w7 (sx1.keep hk (by simp)) (by omega) _ ?_
        intro a8 d8 w8 o8 g8 _
        exact ⟨_, rfl, ⟨Keep.of_grow [] g8, trivial⟩, a8, d8, rfl, o8⟩
      obtain ⟨a8, d8, rfl, -⟩ : vOwn _ 2 row.length _ v w7 := hV
      clear hC
      simp only [List.set_cons_succ, List.set_cons_zero]
      repeat (first | (refine wpV_skp rfl rfl ?_; simp only [List.set_cons_succ, List.set_cons_zero]) | (refine wpV_look rfl rfl rfl rfl rfl (fun K hK => ?_); go_big_quiet_op; refine hK _ ?_; clear hK K))
      refine wpV_mk rfl rfl rfl [4] (by kernel_rfl) (fun _ w7 hC hF => yields_call (by kernel_rfl) ?_) (fun _ v w7 hC hV _ => ?_)
      · obtain ⟨⟨w7, hk, -⟩, rfl⟩ := hC
        obtain ⟨b1, d1, e1, o1⟩ : vOwn 59 2 row.length (pk row) _ w7 := (hF 4 (by simp)).2 rfl
        cases e1
        refine sameC _ _ _ _ row row w7 o1.sl (sy1.keep hk (by simp)) (by omega) _ ?_
        intro w8 g8
        rw [decide_eq_true rfl]
        exact ⟨_, rfl, ⟨Keep.of_grow [] g8, trivial⟩, rfl⟩
      obtain rfl : v = _ := hV
      clear hC
      simp only [List.set_cons_succ, List.set_cons_zero]
      repeat (first | (refine wpV_skp rfl rfl ?_; simp only [List.set_cons_succ, List.set_cons_zero]) | (refine wpV_look rfl rfl rfl rfl rfl (fun K hK => ?_); go_big_quiet_op; refine hK _ ?_; clear hK K))
      refine wpV_nil ?_
      intro w7 hC _
      obtain ⟨⟨w7, hk7, -⟩, rfl⟩ := hC
      clear c0 c1
      go_wp2_with fail
      go_roundw
      case rel => exact ⟨k + 1, by go_num, by omega, hg.trans hk7.grow⟩
      case measure => simp [intOf]; omega
    · go_wp2_with fail
      refine awakeP wr _ ?_
      intro w1 g1
      go_wp2
      exact (gall.trans hg).trans g1
end Go.Proofs.Ytoelddjmjhnbaaa
