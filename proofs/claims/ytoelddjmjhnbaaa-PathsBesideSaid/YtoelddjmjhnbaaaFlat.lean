/- priorylaw17.flat, same. -/
import Derived.Test.YtoelddjmjhnbaaaRWay
namespace Go.Proofs.Ytoelddjmjhnbaaa
open Go Go.RowKit

set_option maxRecDepth 100000 in
set_option maxHeartbeats 1000000 in
theorem flatC (lo : Option Addr) (cap : Nat) (l : List Pl) (w : World) (h : Sl w 2 lo l.length cap (pk l)) (hl : l.length ≤ 70000) (R : Ending → World → Prop)
    (hR : ∀ ao c w', Own w' 59 2 ao l.length c (pk l) → Grow w w' → Fr (blk ao) w → R (.returned (.slice ao l.length c)) w') :
    Calls Try.prog 25 #[.slice lo l.length cap] w R := by
  have hml : maxLen = 9223372036854775807 := rfl
  go_enter Try.func25, Try.ntmps25
  go_wp2_with fail
  go_loopw [3, 4] (fun o i wr => ∃ (k : Nat) (ao : Option Addr) (c : Nat), i = .int .i64 k ∧ k ≤ l.length ∧ o = .slice ao k c ∧ Own wr 59 2 ao k c (pk (l.take k)) ∧ Grow w wr ∧ (∀ g ∈ blk ao, w.heap.size ≤ g)) (fun _ i _ => l.length - (intOf i).toNat)
  case atStart => exact ⟨0, none, 0, rfl, Nat.zero_le _, rfl, Own.none _ _ _, Grow.refl _, by simp [blk]⟩
  case round =>
    obtain ⟨k, ao, c, rfl, hk, rfl, ho, hg, hb⟩ := hrel
    by_cases hlt : k < l.length
    · obtain ⟨g, off, elo, hc⟩ := h.hat (by omega)
      subst elo
      have hgw : g < w.heap.size := by
        have hp := pk_length l
        exact World.block_lt_of_cell? _ _ (hc 0 (by omega))
      have hgb : g ∉ blk ao := fun hm => by have := hb g hm; omega
      have hpl := Sl.place (hc.keep (Keep.of_grow [] hg) (by simp)) k hlt
      have c0 := hpl 0 (by simp)
      have c1 := hpl 1 (by simp)
      simp only [List.getElem_cons_zero, List.getElem_cons_succ, Nat.add_zero] at c0 c1
      clear hpl hc
      let own : World → Prop := fun w => Own w 59 2 ao k c (pk (l.take k))
      have m0 := KW.cell (fp := blk ao) (p0 := own) c0 hgb
      have m1 := KW.cell (fp := blk ao) (p0 := own) c1 hgb
      have hlt2 := ho.lt
      go_wp2_with fail
      let news : List Value := [.int .i64 l[k].1, .int .i64 l[k].2]
      let V : Nat → Array Value → Value → World → Prop := fun i _ v w' =>
        (i = 12 → ∃ bo d, v = .slice bo 1 d ∧ Sl w' 2 bo 1 d news ∧ ∀ g ∈ blk bo, wr.heap.size ≤ g) ∧
        (i = 13 → ∃ bo d, v = .slice bo (k + 1) d ∧ Own w' 59 2 bo (k + 1) d (pk (l.take k) ++ news) ∧ ∀ g ∈ blk bo, g ∈ blk ao ∨ wr.heap.size ≤ g)
      have : Nonempty (KW (blk ao) own wr) := ⟨⟨wr, Keep.refl _ _, ho⟩⟩
      refine wp_region_R (segR (blk ao) (fun i => if i = 13 then blk ao else []) own wr [12, 13] V (fun i k hk => ?_) (fun i j vs v wa wb hij k ⟨v1, v2⟩ => ⟨fun hj => ?_, fun hj => ?_⟩)) (by kernel_rfl) (segR_drew (ho.grow (Grow.drew wr))) ?_
      · split at hk
        · exact hk
        · simp at hk
      · obtain ⟨ao, c, hv, hsl, hb⟩ := v1 hj
        refine ⟨ao, c, hv, hsl.keep k fun g hg hm => ?_, hb⟩
        split at hm
        · have := hlt2 g hm; have := hb g hg; omega
        · simp at hm
      · obtain ⟨ao, c, hv, hown, hb⟩ := v2 hj
        rw [if_neg (by omega)] at k
        exact ⟨ao, c, hv, hown.keep k (by simp), hb⟩
      unfold segR
      repeat (first | (refine wpV_skp rfl rfl ?_; simp only [List.set_cons_succ, List.set_cons_zero]) | (refine wpV_look rfl rfl rfl rfl rfl (fun K hK => ?_); go_big_quiet_op; refine hK _ ?_; clear hK K))
      refine wpV_mk rfl rfl rfl [] rfl (fun vs w2 hC _ => ?_) (fun vs v w2 hC hV hF => ?_)
      · unfold yields
        go_simp
        obtain ⟨⟨w2, hk, hp2⟩, rfl⟩ := hC
        refine ⟨⟨Keep.alloc _ _ _, Own.grow hp2 (Grow.alloc _ _)⟩, fun _ => ⟨_, _, rfl, (Own.made (heap_alloc_new w2 _) rfl (by decide) (by simp [Value.oneCell'])).sl, ?_⟩, by simp⟩
        have := hk.size
        simpa [blk] using this
      obtain ⟨bo, d, rfl, -, -⟩ := hV.1 rfl
      clear hV hC hF w2
      simp only [List.set_cons_succ, List.set_cons_zero]
      refine wpV_mk rfl rfl rfl [12] (by kernel_rfl) (fun vs w2 hC hF => ?_) (fun vs v w2 hC hV hF => ?_)
      · obtain ⟨ao', c', e, hsl, hb⟩ := (hF 12 (by simp)).2 rfl |>.1 rfl
        cases e
        obtain ⟨⟨w2, hk, hp2⟩, rfl⟩ := hC
        obtain ⟨ao3, c3, w3, hr, h1, h2, h3, h4⟩ := run_app TQ w2 49 hp2 hsl (by omega) (by omega)
        refine yields_run (run_exec_append hr) ⟨⟨h3, h2⟩, by simp, fun _ => ⟨ao3, c3, rfl, h1, fun g hg => (h4 g hg).imp id fun h => ?_⟩⟩
        have := hk.size
        exact Nat.le_trans this h
      obtain ⟨bo2, d2, rfl, -, -⟩ := hV.2 rfl
      clear hV hC hF w2
      simp only [List.set_cons_succ, List.set_cons_zero]
      repeat (first | (refine wpV_skp rfl rfl ?_; simp only [List.set_cons_succ, List.set_cons_zero]) | (refine wpV_look rfl rfl rfl rfl rfl (fun K hK => ?_); go_big_quiet_op; refine hK _ ?_; clear hK K))
      refine wpV_nil ?_
      intro w7 hC hF
      obtain ⟨ao4, c4, e, hown4, hb4⟩ := (hF 13).2 rfl |>.2 rfl
      cases e
      obtain ⟨⟨w7, hk7, -⟩, rfl⟩ := hC
      clear hF m0 m1
      have hgr := hg.then hk7 hb
      have hzz := hg.size
      have hpk : pk (l.take k) ++ news = pk (l.take (k + 1)) := by
        rw [List.take_add_one, pk_append, List.getElem?_eq_getElem hlt]
        simp [pk, news]
      rw [hpk] at hown4
      go_wp2_with fail
      go_roundw
      case rel => exact ⟨k + 1, bo2, d2, by go_num, by omega, rfl, hown4, hgr, fun g h => by
        rcases hb4 g h with h | h
        · exact hb g h
        · omega⟩
      case measure => simp [intOf]; omega
    · obtain rfl : k = l.length := by omega
      rw [List.take_length] at ho
      go_wp2
      exact hR _ _ _ ho hg hb
end Go.Proofs.Ytoelddjmjhnbaaa
