/- paths: places, kids, the way. -/
import Derived.Test.YtoelddjmjhnbaaaPaths
import Derived.Test.YtoelddjmjhnbaaaSkip
namespace Go.Proofs.Ytoelddjmjhnbaaa
open Go Go.RowKit

abbrev Pl := Int × Int
def pv (p : Pl) : Value := .agg #[.int .i64 p.1, .int .i64 p.2]
def pk (l : List Pl) : List Value := l.flatMap fun p => [.int .i64 p.1, .int .i64 p.2]
theorem pk_append (a b : List Pl) : pk (a ++ b) = pk a ++ pk b := by simp [pk]
theorem pk_length (l : List Pl) : (pk l).length = l.length * 2 := by
  induction l with
  | nil => rfl
  | cons t l ih => simp only [pk, List.flatMap_cons, List.length_append, List.length_cons, List.length_nil] at ih ⊢; omega
theorem pk_at (l : List Pl) : ∀ i (h : i < l.length), (pk l)[i * 2]? = some (.int .i64 l[i].1) ∧ (pk l)[i * 2 + 1]? = some (.int .i64 l[i].2) := by
  induction l with
  | nil => intro i h; simp at h
  | cons t l ih =>
    intro i h
    have e : pk (t :: l) = [.int .i64 t.1, .int .i64 t.2] ++ pk l := by simp [pk]
    rw [e]
    cases i with
    | zero => simp
    | succ i =>
      have := ih i (by simpa using h)
      simp only [List.getElem_cons_succ]
      rw [List.getElem?_append_right (by simp; omega), List.getElem?_append_right (by simp; omega)]
      simp only [List.length_cons, List.length_nil]
      rw [show (i + 1) * 2 - 2 = i * 2 by omega, show (i + 1) * 2 + 1 - 2 = i * 2 + 1 by omega]
      exact this
theorem Sl.place {w : World} {g off : Nat} {l : List Pl} (h : Cells w g off (pk l)) (i : Nat) (hi : i < l.length) : Cells w g (off + i * 2) [.int .i64 l[i].1, .int .i64 l[i].2] := by
  obtain ⟨e0, e1⟩ := pk_at l i hi
  exact h.sub fun j hj => by
    match j, hj with
    | 0, _ => exact e0
    | 1, _ => exact e1

set_option maxHeartbeats 400000 in
theorem upC (level index : Nat) (h1 : level ≤ 1000000) (h2 : index ≤ 1000000) (w : World) (R : Ending → World → Prop) (hR : ∀ w', Grow w w' → R (.returned (.agg #[.int .i64 ((level + 1 : Nat) : Int), .int .i64 ((index / 4 : Nat) : Int)])) w') :
    Calls Try.prog 37 #[.agg #[.int .i64 (level : Int), .int .i64 (index : Int)]] w R := by
  go_enter Try.func37, Try.ntmps37
  go_wp2
  refine bodyPost_ret (v := .agg #[.int .i64 ((level : Int) + 1), .int .i64 ((index : Int) / 4)]) (by simp [results, Try.results37, go_sem]) rfl ?_
  rw [show ((level : Int) + 1) = ((level + 1 : Nat) : Int) by omega, show ((index : Int) / 4) = ((index / 4 : Nat) : Int) by omega]
  exact hR _ ((Grow.alloc w _).trans (Grow.alloc _ _))

/-- The places below, the first i of four. -/
def kidN (n level index : Int) (i : Nat) : List Pl := ((List.range i).filter fun (j : Nat) => decide (4 * index + j < (wid n (level - 1) : Int))).map fun (j : Nat) => (level - 1, 4 * index + j)
theorem kidN_succ (n level index : Int) (i : Nat) : kidN n level index (i + 1) = kidN n level index i ++ if 4 * index + i < (wid n (level - 1) : Int) then [(level - 1, 4 * index + i)] else [] := by
  unfold kidN
  rw [List.range_succ, List.filter_append, List.map_append]
  congr 1
  by_cases h : 4 * index + (i : Int) < (wid n (level - 1) : Int) <;> simp [h]
theorem kidN_len (n level index : Int) (i : Nat) : (kidN n level index i).length ≤ i := by
  induction i with
  | zero => simp [kidN]
  | succ i ih => rw [kidN_succ, List.length_append]; split <;> simp <;> omega
def kids (n level index : Int) : List Pl := if index < 0 ∨ (wid n level : Int) ≤ index ∨ level = 0 then [] else kidN n level index 4
theorem kids_len (n level index : Int) : (kids n level index).length ≤ 4 := by
  unfold kids; split
  · simp
  · exact kidN_len _ _ _ _
theorem wid_level {n level : Int} (h : 0 < wid n level) : 0 ≤ level ∧ level < 65537 := by
  unfold wid at h
  split at h
  · omega
  · rw [List.getD_eq_getElem?_getD] at h
    by_cases hl : level.toNat < (wide n).length
    · have := wide_len n; omega
    · rw [List.getElem?_eq_none (by omega)] at h; simp at h

set_option maxRecDepth 100000 in
set_option maxHeartbeats 1000000 in
theorem kidsC (n level index : Int) (hwf : (Lit.int .i64 n).wf = true) (w : World) (R : Ending → World → Prop)
    (hR : ∀ ao cap w', Own w' 54 2 ao (kids n level index).length cap (pk (kids n level index)) → Grow w w' → Fr (blk ao) w → R (.returned (.slice ao (kids n level index).length cap)) w') :
    Calls Try.prog 26 #[.int .i64 n, .agg #[.int .i64 level, .int .i64 index]] w R := by
  have o0 := heap_alloc_new w (.cells #[.int .i64 level, .int .i64 index] 54 (0, 0))
  have m0 := KW.cell (fp := []) (p0 := tt) (obj_cell o0 0 rfl) (by simp)
  have m1 := KW.cell (fp := []) (p0 := tt) (obj_cell o0 1 rfl) (by simp)
  by_cases h0 : index < 0
  · have e : kids n level index = [] := by unfold kids; rw [if_pos (.inl h0)]
    rw [e] at hR
    go_enter Try.func26, Try.ntmps26
    go_wp2_with fail
    refine wp_region_R (segL (w.alloc (.cells #[.int .i64 level, .int .i64 index] 54 (0, 0)))) (by kernel_rfl) segL_drew ?_
    unfold segL segK segR
    repeat (first | (refine wpV_skp rfl rfl ?_; simp only [List.set_cons_succ, List.set_cons_zero]) | (refine wpV_look rfl rfl rfl rfl rfl (fun K hK => ?_); go_big_quiet_op; refine hK _ ?_; clear hK K))
    refine wpV_nil ?_
    intro w7 hC _
    obtain ⟨⟨w7, hk7, -⟩, rfl⟩ := hC
    go_wp2
    exact hR _ _ _ (Own.none _ _ _) ((Grow.alloc w _).trans hk7.grow) (by simp [Fr, blk])
  have hd0 : decide (index < 0) = false := by simp; omega
  by_cases h1 : (wid n level : Int) ≤ index
  · have e : kids n level index = [] := by unfold kids; rw [if_pos (.inr (.inl h1))]
    rw [e] at hR
    go_enter Try.func26, Try.ntmps26
    go_wp2_with fail
    refine wp_region_R (segK [] (w.alloc (.cells #[.int .i64 level, .int .i64 index] 54 (0, 0))) [9] (fun _ _ v w => vIs (.int .i64 (wid n level)) v w) (fun _ _ _ _ _ k h => vIs.st k h)) (by kernel_rfl) segK_drew ?_
    unfold segK segR
    repeat (first | (refine wpV_skp rfl rfl ?_; simp only [List.set_cons_succ, List.set_cons_zero]) | (refine wpV_look rfl rfl rfl rfl rfl (fun K hK => ?_); go_big_quiet_op; refine hK _ ?_; clear hK K))
    refine wpV_mk rfl rfl rfl [] rfl (fun vs w7 hC _ => yields_call (by kernel_rfl) ?_) (fun vs v w7 hC hV _ => ?_)
    · obtain ⟨⟨w7, hk, -⟩, rfl⟩ := hC
      refine widthC n level hwf w7 _ ?_
      intro w8 g8
      exact ⟨_, rfl, ⟨Keep.of_grow [] g8, trivial⟩, rfl⟩
    obtain rfl : v = _ := hV
    clear hC
    simp only [List.set_cons_succ, List.set_cons_zero]
    repeat (first | (refine wpV_skp rfl rfl ?_; simp only [List.set_cons_succ, List.set_cons_zero]) | (refine wpV_look rfl rfl rfl rfl rfl (fun K hK => ?_); go_big_quiet_op; refine hK _ ?_; clear hK K))
    refine wpV_nil ?_
    intro w7 hC _
    obtain ⟨⟨w7, hk7, -⟩, rfl⟩ := hC
    go_wp2
    exact hR _ _ _ (Own.none _ _ _) ((Grow.alloc w _).trans hk7.grow) (by simp [Fr, blk])
  have hd1 : decide ((wid n level : Int) ≤ index) = false := by simp; omega
  by_cases h2 : level = 0
  · have e : kids n level index = [] := by unfold kids; rw [if_pos (.inr (.inr h2))]
    rw [e] at hR
    subst h2
    go_enter Try.func26, Try.ntmps26
    go_wp2_with fail
    refine wp_region_R (segK [] (w.alloc (.cells #[.int .i64 0, .int .i64 index] 54 (0, 0))) [9] (fun _ _ v w => vIs (.int .i64 (wid n 0)) v w) (fun _ _ _ _ _ k h => vIs.st k h)) (by kernel_rfl) segK_drew ?_
    unfold segK segR
    repeat (first | (refine wpV_skp rfl rfl ?_; simp only [List.set_cons_succ, List.set_cons_zero]) | (refine wpV_look rfl rfl rfl rfl rfl (fun K hK => ?_); go_big_quiet_op; refine hK _ ?_; clear hK K))
    refine wpV_mk rfl rfl rfl [] rfl (fun vs w7 hC _ => yields_call (by kernel_rfl) ?_) (fun vs v w7 hC hV _ => ?_)
    · obtain ⟨⟨w7, hk, -⟩, rfl⟩ := hC
      refine widthC n 0 hwf w7 _ ?_
      intro w8 g8
      exact ⟨_, rfl, ⟨Keep.of_grow [] g8, trivial⟩, rfl⟩
    obtain rfl : v = _ := hV
    clear hC
    simp only [List.set_cons_succ, List.set_cons_zero]
    repeat (first | (refine wpV_skp rfl rfl ?_; simp only [List.set_cons_succ, List.set_cons_zero]) | (refine wpV_look rfl rfl rfl rfl rfl (fun K hK => ?_); go_big_quiet_op; refine hK _ ?_; clear hK K))
    refine wpV_nil ?_
    intro w7 hC _
    obtain ⟨⟨w7, hk7, -⟩, rfl⟩ := hC
    go_wp2
    exact hR _ _ _ (Own.none _ _ _) ((Grow.alloc w _).trans hk7.grow) (by simp [Fr, blk])
  have hd2 : (level == 0) = false := by simp [h2]
  have e : kids n level index = kidN n level index 4 := by unfold kids; rw [if_neg (by omega)]
  rw [e] at hR
  clear e
  have hml : maxLen = 9223372036854775807 := rfl
  have hlv := wid_level (n := n) (level := level) (by omega)
  have hwl := wid_le n level
  go_enter Try.func26, Try.ntmps26
  go_wp2_with fail
  refine wp_region_R (segK [] (w.alloc (.cells #[.int .i64 level, .int .i64 index] 54 (0, 0))) [9] (fun _ _ v w => vIs (.int .i64 (wid n level)) v w) (fun _ _ _ _ _ k h => vIs.st k h)) (by kernel_rfl) segK_drew ?_
  unfold segK segR
  repeat (first | (refine wpV_skp rfl rfl ?_; simp only [List.set_cons_succ, List.set_cons_zero]) | (refine wpV_look rfl rfl rfl rfl rfl (fun K hK => ?_); go_big_quiet_op; refine hK _ ?_; clear hK K))
  refine wpV_mk rfl rfl rfl [] rfl (fun vs w7 hC _ => yields_call (by kernel_rfl) ?_) (fun vs v w7 hC hV _ => ?_)
  · obtain ⟨⟨w7, hk, -⟩, rfl⟩ := hC
    refine widthC n level hwf w7 _ ?_
    intro w8 g8
    exact ⟨_, rfl, ⟨Keep.of_grow [] g8, trivial⟩, rfl⟩
  obtain rfl : v = _ := hV
  clear hC
  simp only [List.set_cons_succ, List.set_cons_zero]
  repeat (first | (refine wpV_skp rfl rfl ?_; simp only [List.set_cons_succ, List.set_cons_zero]) | (refine wpV_look rfl rfl rfl rfl rfl (fun K hK => ?_); go_big_quiet_op; refine hK _ ?_; clear hK K))
  refine wpV_nil ?_
  intro w7 hC _
  obtain ⟨⟨w7, hk7, -⟩, rfl⟩ := hC
  have g7 : Grow w w7 := (Grow.alloc w _).trans hk7.grow
  have c0 := hk7.cell (obj_cell o0 0 rfl) (by simp)
  have c1 := hk7.cell (obj_cell o0 1 rfl) (by simp)
  have zg := g7.size
  clear m0 m1 o0 hk7
  go_wp2_with fail
  go_loopw [4, 24] (fun o i wr => ∃ (k : Nat) (ao : Option Addr) (cap : Nat), i = .int .i64 k ∧ k ≤ 4 ∧ o = .slice ao (kidN n level index k).length cap ∧ Own wr 54 2 ao (kidN n level index k).length cap (pk (kidN n level index k)) ∧ Grow w7 wr ∧ (∀ g ∈ blk ao, w7.heap.size ≤ g)) (fun _ i _ => 4 - (intOf i).toNat)
  case atStart => exact ⟨0, none, 0, rfl, by omega, rfl, Own.none _ _ _, Grow.refl _, by simp [blk]⟩
  case round =>
    obtain ⟨k, ao, cap, rfl, hk4, rfl, ho, hg, hb⟩ := hrel
    have d0 := hg.cell c0
    have d1 := hg.cell c1
    by_cases hlt : k < 4
    · have hkl := kidN_len n level index k
      have hks := kidN_succ n level index k
      go_wp2_with fail
      refine widthC n (level - 1) hwf wr _ ?_
      intro w8 g8
      have f0 := g8.cell d0
      have f1 := g8.cell d1
      have ho8 := ho.grow g8
      have hg8 := hg.trans g8
      by_cases hin : 4 * index + (k : Int) < (wid n (level - 1) : Int)
      · rw [if_pos hin] at hks
        go_wp2_with (at_builtin; refine wpList_app TP rfl rfl (ho8.grow (Grow.alloc w8 _)) (Own.made (n := 1) (heap_alloc_new w8 _) rfl (by decide) (by simp [Value.oneCell'])).sl (by omega) (by omega) ?_; intro ao' cap' w9 hown _ hkeep hblk)
        have hka := (Keep.alloc (blk ao) w8 _).trans hkeep
        have hgr := hg8.then hka hb
        go_roundw
        case rel =>
          refine ⟨k + 1, ao', cap', by go_num, by omega, ?_, ?_, hgr, fun g h => ?_⟩
          · rw [hks]; simp
          · rw [hks, pk_append]; simpa [pk] using hown
          · rcases hblk g h with h | h
            · exact hb g h
            · have := hg8.size; simp at h; omega
        case measure => simp [intOf]; omega
      · rw [if_neg hin, List.append_nil] at hks
        go_wp2_with fail
        go_roundw
        case rel => exact ⟨k + 1, ao, cap, by go_num, by omega, by rw [hks], by rw [hks]; exact ho8, hg8, hb⟩
        case measure => simp [intOf]; omega
    · obtain rfl : k = 4 := by omega
      go_wp2
      exact hR _ _ _ ho (g7.trans hg) (fun g h => by have := hb g h; omega)
end Go.Proofs.Ytoelddjmjhnbaaa
