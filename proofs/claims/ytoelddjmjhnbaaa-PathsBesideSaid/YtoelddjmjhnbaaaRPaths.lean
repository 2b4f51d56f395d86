/- the document's widths. -/
import Derived.Test.YtoelddjmjhnbaaaPaths
namespace Go.Proofs.Ytoelddjmjhnbaaa
open Go Go.RowKit
set_option maxHeartbeats 400000 in
theorem rWidthsC (n : Int) (hwf : (Lit.int .i64 n).wf = true) (w : World) (R : Ending → World → Prop) (hR : ∀ ao cap w', Own w' 3 1 ao (wide n).length cap ((wide n).map N) → Grow w w' → R (.returned (.slice ao (wide n).length cap)) w') :
    Calls Try.prog 28 #[.int .i64 n] w R := by
  have hwf' := hwf
  simp [Lit.wf, IntKind.min, IntKind.max, IntKind.signed, IntKind.bits] at hwf'
  clear hwf
  by_cases h1 : n < 1
  · have e : wide n = [] := by unfold wide; rw [if_pos (.inl h1)]
    rw [e] at hR
    go_enter Try.func28, Try.ntmps28
    go_wp2
    exact hR _ _ _ (Own.none w _ _) (Grow.refl w)
  by_cases h2 : 65536 < n
  · have e : wide n = [] := by unfold wide; rw [if_pos (.inr h2)]
    rw [e] at hR
    go_enter Try.func28, Try.ntmps28
    go_wp2
    exact hR _ _ _ (Own.none w _ _) (Grow.refl w)
  have e : wide n = wl n.toNat := by unfold wide; rw [if_neg (by omega)]
  have hlen := wl_len n.toNat
  obtain ⟨m, rfl⟩ : ∃ m : Nat, n = m := ⟨n.toNat, by omega⟩
  simp only [Int.toNat_natCast] at e hlen
  rw [e] at hR
  clear e
  have hml : maxLen = 9223372036854775807 := rfl
  go_enter Try.func28, Try.ntmps28
  go_wp2_with fail
  have o1 : Own (w.alloc (.cells #[.int .i64 m] 3)) 3 1 (some ⟨w.heap.size, 0, none⟩) 1 1 [N m] := Own.made (n := 1) (cur := #[N m]) (heap_alloc_new w _) rfl (by decide) (by simp [N, Value.oneCell'])
  go_loopw [0, 3] (fun a o wr => ∃ (k : Nat) (l : List Nat) (ao : Option Addr) (cap : Nat), a = .int .i64 k ∧ o = .slice ao (l.length + 1) cap ∧ 1 ≤ k ∧ k ≤ m ∧ wl m = l ++ wl k ∧ Own wr 3 1 ao (l.length + 1) cap ((l ++ [k]).map N) ∧ Grow w wr ∧ (∀ g ∈ blk ao, w.heap.size ≤ g)) (fun a _ _ => (intOf a).toNat)
  case atStart => exact ⟨m, [], _, _, rfl, rfl, by omega, Nat.le_refl _, rfl, o1, Grow.alloc _ _, by simp [blk]⟩
  case round =>
    clear o1
    obtain ⟨k, l, ao, cap, rfl, rfl, hk1, hkm, hwl, ho, hg, hb⟩ := hrel
    have hll : l.length + 1 ≤ m + 1 := by
      have h3 := congrArg List.length hwl
      rw [List.length_append] at h3
      have h4 : 1 ≤ (wl k).length := by
        by_cases h : k ≤ 1
        · rw [wl_one h]; simp
        · rw [wl_more h]; simp
      omega
    by_cases hk : 1 < k
    · go_wp2_with (at_builtin; refine wpList_app TI rfl rfl (ho.grow (Grow.alloc wr _)) (Own.made (n := 1) (heap_alloc_new wr _) rfl (by decide) (by simp [Value.oneCell'])).sl (by omega) (by omega) ?_; intro ao' cap' w1 hown _ hkeep hblk)
      have e4 : ((k : Int) + 4 - 1) / 4 = (((k + 3) / 4 : Nat) : Int) := by omega
      have e5 : ((k : Int) + 3) / 4 = (((k + 3) / 4 : Nat) : Int) := by omega
      simp only [e4, e5] at hown ⊢
      clear e4 e5
      have hka := (Keep.alloc (blk ao) wr _).trans hkeep
      have hm : (l ++ [k]).map N ++ [Value.int .i64 (((k + 3) / 4 : Nat) : Int)] = ((l ++ [k]) ++ [(k + 3) / 4]).map N := by simp [N]
      rw [hm] at hown
      have hgr := hg.then hka hb
      go_roundw
      case rel => exact ⟨(k + 3) / 4, l ++ [k], ao', cap', rfl, by simp, by omega, by omega, by rw [hwl, wl_more (by omega)]; simp, by simpa using hown, hgr, fun g h => by
        rcases hblk g h with h | h
        · exact hb g h
        · have := hg.size; simp at h; omega⟩
      case measure => simp [intOf]; omega
    · obtain rfl : k = 1 := by omega
      rw [wl_one (Nat.le_refl 1)] at hwl
      rw [hwl] at hR
      simp only [List.length_append, List.length_cons, List.length_nil, Nat.zero_add] at hR
      go_wp2
      exact hR _ _ _ ho hg
set_option maxHeartbeats 400000 in
theorem rWidthC (n level : Int) (hwf : (Lit.int .i64 n).wf = true) (w : World) (R : Ending → World → Prop) (hR : ∀ w', Grow w w' → R (.returned (.int .i64 (wid n level : Int))) w') :
    Calls Try.prog 30 #[.int .i64 n, .int .i64 level] w R := by
  by_cases h0 : level < 0
  · have e : wid n level = 0 := by unfold wid; rw [if_pos h0]
    rw [e] at hR
    go_enter Try.func30, Try.ntmps30
    go_wp2_with fail
    refine rWidthsC n hwf w _ ?_
    intro ao cap w1 ho hg
    go_wp2
    exact hg
  by_cases h1 : ((wide n).length : Int) ≤ level
  · have e : wid n level = 0 := by unfold wid; rw [if_neg h0, List.getD_eq_getElem?_getD, List.getElem?_eq_none (by omega)]; rfl
    rw [e] at hR
    go_enter Try.func30, Try.ntmps30
    go_wp2_with fail
    refine rWidthsC n hwf w _ ?_
    intro ao cap w1 ho hg
    go_wp2
    exact hg
  obtain ⟨k, rfl⟩ : ∃ k : Nat, level = k := ⟨level.toNat, by omega⟩
  have hk : k < (wide n).length := by omega
  have e : wid n k = (wide n)[k] := by unfold wid; rw [if_neg h0, List.getD_eq_getElem?_getD]; simp [hk]
  rw [e] at hR
  clear e
  go_enter Try.func30, Try.ntmps30
  go_wp2_with fail
  refine rWidthsC n hwf w _ ?_
  intro ao cap w1 ho hg
  obtain ⟨g, off, rfl, hc⟩ := ho.sl.hat (by omega)
  have c0 := hc.at (i := k) (v := .int .i64 ((wide n)[k] : Int)) (by simp [hk, N])
  clear hc ho
  go_wp2
  exact hg
end Go.Proofs.Ytoelddjmjhnbaaa
