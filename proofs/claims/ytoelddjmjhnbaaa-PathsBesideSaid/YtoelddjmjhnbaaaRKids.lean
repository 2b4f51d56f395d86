/- the document's kids. -/
import Derived.Test.YtoelddjmjhnbaaaRPaths
import Derived.Test.YtoelddjmjhnbaaaKids
namespace Go.Proofs.Ytoelddjmjhnbaaa
open Go Go.RowKit

theorem kidN_stop {n level index : Int} {k : Nat} (h : (wid n (level - 1) : Int) ≤ 4 * index + k) : ∀ d, kidN n level index (k + d) = kidN n level index k := by
  intro d
  induction d with
  | zero => rfl
  | succ d ih => rw [← Nat.add_assoc, kidN_succ, ih, if_neg (by omega), List.append_nil]

set_option maxRecDepth 100000 in
set_option maxHeartbeats 1000000 in
theorem rKidsC (n level index : Int) (hwf : (Lit.int .i64 n).wf = true) (w : World) (R : Ending → World → Prop)
    (hR : ∀ ao cap w', Own w' 59 2 ao (kids n level index).length cap (pk (kids n level index)) → Grow w w' → Fr (blk ao) w → R (.returned (.slice ao (kids n level index).length cap)) w') :
    Calls Try.prog 32 #[.int .i64 n, .agg #[.int .i64 level, .int .i64 index]] w R := by
  have o0 := heap_alloc_new w (.cells #[.int .i64 level, .int .i64 index] 59 (0, 0))
  have m0 := KW.cell (fp := []) (p0 := tt) (obj_cell o0 0 rfl) (by simp)
  have m1 := KW.cell (fp := []) (p0 := tt) (obj_cell o0 1 rfl) (by simp)
  by_cases hl : level < 1
  · have e : kids n level index = [] := by
      unfold kids
      by_cases h : level = 0
      · rw [if_pos (.inr (.inr h))]
      · have : wid n level = 0 := by unfold wid; rw [if_pos (by omega)]
        rw [if_pos (by omega)]
    rw [e] at hR
    go_enter Try.func32, Try.ntmps32
    go_wp2_with fail
    refine wp_region_R (segL (w.alloc (.cells #[.int .i64 level, .int .i64 index] 59 (0, 0)))) (by kernel_rfl) segL_drew ?_
    unfold segL segK segR
    repeat (first | (refine wpV_skp rfl rfl ?_; simp only [List.set_cons_succ, List.set_cons_zero]) | (refine wpV_look rfl rfl rfl rfl rfl (fun K hK => ?_); go_big_quiet_op; refine hK _ ?_; clear hK K))
    refine wpV_nil ?_
    intro w7 hC _
    obtain ⟨⟨w7, hk7, -⟩, rfl⟩ := hC
    go_wp2
    exact hR _ _ _ (Own.none _ _ _) ((Grow.alloc w _).trans hk7.grow) (by simp [Fr, blk])
  have hdl : decide (level < 1) = false := by simp; omega
  by_cases h0 : index < 0
  · have e : kids n level index = [] := by unfold kids; rw [if_pos (.inl h0)]
    rw [e] at hR
    go_enter Try.func32, Try.ntmps32
    go_wp2_with fail
    refine wp_region_R (segL (w.alloc (.cells #[.int .i64 level, .int .i64 index] 59 (0, 0)))) (by kernel_rfl) segL_drew ?_
    unfold segL segK segR
    repeat (first | (refine wpV_skp rfl rfl ?_; simp only [List.set_cons_succ, List.set_cons_zero]) | (refine wpV_look rfl rfl rfl rfl rfl (fun K hK => ?_); go_big_quiet_op; refine hK _ ?_; clear hK K))
    refine wpV_nil ?_
    intro w7 hC _
    obtain ⟨⟨w7, hk7, -⟩, rfl⟩ := hC
    go_wp2
    exact hR _ _ _ (Own.none _ _ _) ((Grow.alloc w _).trans hk7.grow) (by simp [Fr, blk])
  have hd0 : decide (index < 0) = false := by simp; omega
  by_cases h1 : (wid n level : Int) ≤ index
  · have e : kids n level index = [] := by unfold kids; rw [if_pos (.inr (.inl h1))]
    rw [e] at hR
    go_enter Try.func32, Try.ntmps32
    go_wp2_with fail
    refine wp_region_R (segK [] (w.alloc (.cells #[.int .i64 level, .int .i64 index] 59 (0, 0))) [14] (fun _ _ v w => vIs (.int .i64 (wid n level)) v w) (fun _ _ _ _ _ k h => vIs.st k h)) (by kernel_rfl) segK_drew ?_
    unfold segK segR
    repeat (first | (refine wpV_skp rfl rfl ?_; simp only [List.set_cons_succ, List.set_cons_zero]) | (refine wpV_look rfl rfl rfl rfl rfl (fun K hK => ?_); go_big_quiet_op; refine hK _ ?_; clear hK K))
    refine wpV_mk rfl rfl rfl [] rfl (fun _ w7 hC _ => yields_call (by kernel_rfl) ?_) (fun _ v w7 hC hV _ => ?_)
    · obtain ⟨⟨w7, hk, -⟩, rfl⟩ := hC
      refine rWidthC n level hwf w7 _ ?_
      intro w8 g8
      exact ⟨_, rfl, ⟨Keep.of_grow [] g8, trivial⟩, rfl⟩
    obtain rfl : v = _ := hV
    clear hC
    simp only [List.set_cons_succ, List.set_cons_zero]
    repeat (first | (refine wpV_skp rfl rfl ?_; simp only [List.set_cons_succ, List.set_cons_zero]) | (refine wpV_look rfl rfl rfl rfl rfl (fun K hK => ?_); go_big_quiet_op; refine hK _ ?_; clear hK K))
    refine wpV_nil ?_
    intro w7 hC _
    obtain ⟨⟨w7, hk7, -⟩, rfl⟩ := hC
    go_wp2
    exact hR _ _ _ (Own.none _ _ _) ((Grow.alloc w _).trans hk7.grow) (by simp [Fr, blk])
  have hd1 : decide ((wid n level : Int) ≤ index) = false := by simp; omega
  have e : kids n level index = kidN n level index 4 := by unfold kids; rw [if_neg (by omega)]
  rw [e] at hR
  clear e
  have hml : maxLen = 9223372036854775807 := rfl
  have hlv := wid_level (n := n) (level := level) (by omega)
  have hwl := wid_le n level
  go_enter Try.func32, Try.ntmps32
  go_wp2_with fail
  refine wp_region_R (segK [] (w.alloc (.cells #[.int .i64 level, .int .i64 index] 59 (0, 0))) [14] (fun _ _ v w => vIs (.int .i64 (wid n level)) v w) (fun _ _ _ _ _ k h => vIs.st k h)) (by kernel_rfl) segK_drew ?_
  unfold segK segR
  repeat (first | (refine wpV_skp rfl rfl ?_; simp only [List.set_cons_succ, List.set_cons_zero]) | (refine wpV_look rfl rfl rfl rfl rfl (fun K hK => ?_); go_big_quiet_op; refine hK _ ?_; clear hK K))
  refine wpV_mk rfl rfl rfl [] rfl (fun _ w7 hC _ => yields_call (by kernel_rfl) ?_) (fun _ v w7 hC hV _ => ?_)
  · obtain ⟨⟨w7, hk, -⟩, rfl⟩ := hC
    refine rWidthC n level hwf w7 _ ?_
    intro w8 g8
    exact ⟨_, rfl, ⟨Keep.of_grow [] g8, trivial⟩, rfl⟩
  obtain rfl : v = _ := hV
  clear hC
  simp only [List.set_cons_succ, List.set_cons_zero]
  repeat (first | (refine wpV_skp rfl rfl ?_; simp only [List.set_cons_succ, List.set_cons_zero]) | (refine wpV_look rfl rfl rfl rfl rfl (fun K hK => ?_); go_big_quiet_op; refine hK _ ?_; clear hK K))
  refine wpV_nil ?_
  intro w7 hC _
  obtain ⟨⟨w7, hk7, -⟩, rfl⟩ := hC
  have g7 : Grow w w7 := (Grow.alloc w _).trans hk7.grow
  have c0 := hk7.cell (obj_cell o0 0 rfl) (by simp)
  have c1 := hk7.cell (obj_cell o0 1 rfl) (by simp)
  have zg := g7.size
  clear m0 m1 o0 hk7
  go_wp2_with fail
  go_loopw [5, 6] (fun o i wr => ∃ (k : Nat) (ao : Option Addr) (cap : Nat), i = .int .i64 (4 * index + k) ∧ k ≤ 4 ∧ o = .slice ao (kidN n level index k).length cap ∧ Own wr 59 2 ao (kidN n level index k).length cap (pk (kidN n level index k)) ∧ Grow w7 wr ∧ (∀ g ∈ blk ao, w7.heap.size ≤ g)) (fun _ i _ => (4 * index + 4 - intOf i).toNat)
  case atStart => exact ⟨0, none, 0, by simp, by omega, rfl, Own.none _ _ _, Grow.refl _, by simp [blk]⟩
  case round =>
    obtain ⟨k, ao, cap, rfl, hk4, rfl, ho, hg, hb⟩ := hrel
    have d0 := hg.cell c0
    have d1 := hg.cell c1
    by_cases hlt : k < 4
    · have hkl := kidN_len n level index k
      have hks := kidN_succ n level index k
      have hcmp : 4 * index + (k : Int) < 4 * index + 4 := by omega
      go_wp2_with fail
      refine rWidthC n (level - 1) hwf wr _ ?_
      intro w8 g8
      have f0 := g8.cell d0
      have f1 := g8.cell d1
      have ho8 := ho.grow g8
      have hg8 := hg.trans g8
      by_cases hin : 4 * index + (k : Int) < (wid n (level - 1) : Int)
      · rw [if_pos hin] at hks
        go_wp2_with (at_builtin; refine wpList_app TQ rfl rfl (ho8.grow (Grow.alloc w8 _)) (Own.made (n := 1) (heap_alloc_new w8 _) rfl (by decide) (by simp [Value.oneCell'])).sl (by omega) (by omega) ?_; intro ao' cap' w9 hown _ hkeep hblk)
        have hka := (Keep.alloc (blk ao) w8 _).trans hkeep
        have hgr := hg8.then hka hb
        go_roundw
        case rel =>
          refine ⟨k + 1, ao', cap', by go_num, by omega, ?_, ?_, hgr, fun g h => ?_⟩
          · rw [hks]; simp
          · rw [hks, pk_append]; simpa [pk] using hown
          · rcases hblk g h with h | h
            · exact hb g h
            · have := hg8.size; simp at h; omega
        case measure => simp [intOf]; omega
      · have hst := kidN_stop (n := n) (level := level) (index := index) (k := k) (by omega) (4 - k)
        rw [Nat.add_sub_cancel' hk4] at hst
        rw [hst] at hR
        go_wp2
        exact hR _ _ _ ho8 (g7.trans hg8) (fun g h => by have := hb g h; omega)
    · obtain rfl : k = 4 := by omega
      go_wp2
      exact hR _ _ _ ho (g7.trans hg) (fun g h => by have := hb g h; omega)
end Go.Proofs.Ytoelddjmjhnbaaa
