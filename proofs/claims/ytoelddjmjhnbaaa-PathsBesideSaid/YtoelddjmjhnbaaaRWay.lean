/- the document's way, and who stands beside it. -/
import Derived.Test.YtoelddjmjhnbaaaRKids
import Derived.Test.YtoelddjmjhnbaaaBeside
namespace Go.Proofs.Ytoelddjmjhnbaaa
open Go Go.RowKit

set_option maxRecDepth 100000 in
set_option maxHeartbeats 1000000 in
theorem rWayC (n leaf : Int) (hwf : (Lit.int .i64 n).wf = true) (w : World) (R : Ending → World → Prop)
    (hR : ∀ ao cap w', Own w' 59 2 ao (way n leaf).length cap (pk (way n leaf)) → Grow w w' → Fr (blk ao) w → R (.returned (.slice ao (way n leaf).length cap)) w') :
    Calls Try.prog 34 #[.int .i64 n, .int .i64 leaf] w R := by
  by_cases h0 : leaf < 0
  · have e : way n leaf = [] := by unfold way; rw [if_pos (.inl h0)]
    rw [e] at hR
    go_enter Try.func34, Try.ntmps34
    go_wp2
    exact hR _ _ _ (Own.none _ _ _) (Grow.refl _) (by simp [Fr, blk])
  have hd0 : decide (leaf < 0) = false := by simp; omega
  by_cases h1 : (wid n 0 : Int) ≤ leaf
  · have e : way n leaf = [] := by unfold way; rw [if_pos (.inr h1)]
    rw [e] at hR
    go_enter Try.func34, Try.ntmps34
    go_wp2_with fail
    refine rWidthC n 0 hwf w _ ?_
    intro w8 g8
    go_wp2
    exact hR _ _ _ (Own.none _ _ _) g8 (by simp [Fr, blk])
  have hd1 : decide ((wid n 0 : Int) ≤ leaf) = false := by simp; omega
  have e : way n leaf = wayN leaf.toNat (wide n).length := by unfold way; rw [if_neg (by omega)]
  rw [e, wayN_len] at hR
  clear e
  have hml : maxLen = 9223372036854775807 := rfl
  have hw0 := wid_le n 0
  have hwl := wide_len n
  obtain ⟨f, rfl⟩ : ∃ f : Nat, leaf = f := ⟨leaf.toNat, by omega⟩
  simp only [Int.toNat_natCast] at hR
  go_enter Try.func34, Try.ntmps34
  go_wp2_with fail
  refine rWidthC n 0 hwf w _ ?_
  intro w7 g7
  go_wp2_with fail
  go_loopw [1, 5, 6] (fun lf o i wr => ∃ (k d : Nat) (ao : Option Addr) (cap : Nat), lf = .int .i64 d ∧ d = f / 4 ^ k ∧ i = .int .i64 k ∧ k ≤ (wide n).length ∧ o = .slice ao k cap ∧ Own wr 59 2 ao k cap (pk (wayN f k)) ∧ Grow w7 wr ∧ (∀ g ∈ blk ao, w7.heap.size ≤ g)) (fun _ _ i _ => (wide n).length - (intOf i).toNat)
  case atStart => exact ⟨0, f, none, 0, rfl, by simp, rfl, Nat.zero_le _, rfl, Own.none _ _ _, Grow.refl _, by simp [blk]⟩
  case round =>
    obtain ⟨k, d, ao, cap, rfl, hd, rfl, hk, rfl, ho, hg, hb⟩ := hrel
    have hfk : f / 4 ^ k ≤ f := Nat.div_le_self _ _
    have hfs : f / 4 ^ (k + 1) = f / 4 ^ k / 4 := by rw [Nat.pow_succ, Nat.div_div_eq_div_mul]
    have hws := wayN_succ f k
    rw [← hd] at hfk hfs hws
    clear hd
    by_cases hlt : k < (wide n).length
    · go_wp2_with fail
      refine rWidthsC n hwf wr _ ?_
      intro xo xc w8 _ g8
      have ho8 := ho.grow g8
      have hg8 := hg.trans g8
      go_wp2_with (at_builtin; refine wpList_app TQ rfl rfl (ho8.grow (Grow.alloc w8 _)) (Own.made (n := 1) (heap_alloc_new w8 _) rfl (by decide) (by simp [Value.oneCell'])).sl (by omega) (by omega) ?_; intro ao' cap' w9 hown _ hkeep hblk)
      have hka := (Keep.alloc (blk ao) w8 _).trans hkeep
      have hgr := hg8.then hka hb
      go_roundw
      case rel =>
        refine ⟨.int .i64 ((d : Int) / 4), .slice ao' (k + 1) cap', .int .i64 ((k : Int) + 1), ⟨k + 1, d / 4, by simp, hfs.symm, by simp, by omega, ao', cap', rfl, ?_, hgr, fun g h => ?_⟩, rfl, rfl, rfl⟩
        · rw [hws, pk_append]; simpa [pk] using hown
        · rcases hblk g h with h | h
          · exact hb g h
          · have := hg8.size; simp at h; omega
      case measure => simp [intOf]; omega
    · obtain rfl : k = (wide n).length := by omega
      go_wp2_with fail
      refine rWidthsC n hwf wr _ ?_
      intro xo xc w8 _ g8
      go_wp2
      exact hR _ _ _ (ho.grow g8) ((g7.trans hg).trans g8) (fun g h => by have := hb g h; have := g7.size; omega)

theorem TQQ : ST Try.prog 64 49 1 24 := ST.mk' (z := .slice none 0 0) Try.underlying64 (by kernel_rfl) rfl (by decide)

set_option maxRecDepth 100000 in
set_option maxHeartbeats 1000000 in
theorem rBesideC (n leaf : Int) (hwf : (Lit.int .i64 n).wf = true) (w : World) (R : Ending → World → Prop)
    (hR : ∀ ao cap vs w', Own w' 49 1 ao (beside n leaf).length cap vs → RowsOf w' (blk ao) vs (beside n leaf) → Grow w w' → R (.returned (.slice ao (beside n leaf).length cap)) w') :
    Calls Try.prog 36 #[.int .i64 n, .int .i64 leaf] w R := by
  by_cases hv : leaf < 0 ∨ (wid n 0 : Int) ≤ leaf
  · have e : way n leaf = [] := by unfold way; rw [if_pos hv]
    have e2 : beside n leaf = [] := by unfold beside; rw [if_pos hv]
    rw [e2] at hR
    clear hv
    go_enter Try.func36, Try.ntmps36
    go_wp2_with fail
    refine rWayC n leaf hwf w _ ?_
    rw [e]
    intro ao cap w1 ho hg hf
    go_wp2
    refine wp_loop_rounds 1 ?_; rw [rounds_succ]
    go_wp2
    exact hR _ _ _ _ (Own.none _ _ _) trivial hg
  have e : way n leaf = wayN leaf.toNat (wide n).length := by unfold way; rw [if_neg hv]
  have e2 : beside n leaf = besideN n leaf.toNat ((wide n).length - 1) := by unfold beside; rw [if_neg hv]
  rw [e2, besideN_len] at hR
  have hw0 := wid_le n 0
  have hwl := wide_len n
  obtain ⟨f, rfl⟩ : ∃ f : Nat, leaf = f := ⟨leaf.toNat, by omega⟩
  simp only [Int.toNat_natCast] at hR e
  have hL : 0 < (wide n).length := by
    rcases Nat.eq_zero_or_pos (wide n).length with h | h
    · have : wid n 0 = 0 := by
        unfold wid
        rw [if_neg (by omega), List.getD_eq_getElem?_getD, List.getElem?_eq_none (by rw [h]; exact Nat.zero_le _)]
        rfl
      omega
    · exact h
  have hf0 : f < wid n 0 := by omega
  clear hv e2
  have hml : maxLen = 9223372036854775807 := rfl
  go_enter Try.func36, Try.ntmps36
  go_wp2_with fail
  refine rWayC n f hwf w _ ?_
  rw [e]
  intro po pc w1 ho hg hf
  have hps := ho.sl
  rw [wayN_len] at hps ⊢
  clear ho
  go_wp2_with fail
  go_loopw [6, 7] (fun o i wr => ∃ (k : Nat) (ao : Option Addr) (cap : Nat) (vs : List Value), i = .int .i64 ((k + 1 : Nat) : Int) ∧ k + 1 ≤ (wide n).length ∧ o = .slice ao k cap ∧ Own wr 49 1 ao k cap vs ∧ RowsOf wr (blk ao) vs (besideN n f k) ∧ Grow w1 wr ∧ (∀ g ∈ blk ao, w1.heap.size ≤ g)) (fun _ i _ => (wide n).length - (intOf i).toNat)
  case atStart => exact ⟨0, none, 0, [], rfl, by omega, rfl, Own.none _ _ _, trivial, Grow.refl _, by simp [blk]⟩
  case round =>
    obtain ⟨m, ao, cap, vs, rfl, hk, rfl, ho, hrows, hgr, hb⟩ := hrel
    by_cases hlt : m + 1 < (wide n).length
    · obtain ⟨g, off, epo, hc⟩ := (hps.grow hgr).hat (by omega)
      subst epo
      have hpl := Sl.place hc (m + 1) (by rw [wayN_len]; omega)
      have hel : (wayN f (wide n).length)[m + 1]'(by rw [wayN_len]; omega) = (((m + 1 : Nat) : Int), ((f / 4 ^ m / 4 : Nat) : Int)) := by
        have h3 : f / 4 ^ (m + 1) = f / 4 ^ m / 4 := by rw [Nat.pow_succ, Nat.div_div_eq_div_mul]
        simp only [wayN, List.getElem_map, List.getElem_range, h3]
      rw [hel] at hpl
      have hbs := besideN_succ n f m
      obtain ⟨d, hd⟩ : ∃ d, d = f / 4 ^ m / 4 := ⟨_, rfl⟩
      rw [← hd] at hpl hbs
      clear hd hel
      have c0 := hpl 0 (by simp)
      have c1 := hpl 1 (by simp)
      simp only [List.getElem_cons_zero, List.getElem_cons_succ, Nat.add_zero] at c0 c1
      clear hpl hc
      go_wp2_with fail
      refine rKidsC n ((m + 1 : Nat) : Int) (d : Int) hwf wr _ ?_
      intro ka kc w9 hko hkg hkf
      have ho9 := ho.grow hkg
      have hr9 := hrows.grow hkg
      have hg9 := hgr.trans hkg
      have hks := hko.sl
      go_wp2_with (at_builtin; refine wpList_app TQQ rfl rfl (ho9.grow (Grow.alloc w9 _)) (Own.made (n := 1) (heap_alloc_new w9 _) rfl (by decide) (by simp [Value.oneCell'])).sl (by omega) (by omega) ?_; intro ao' cap' w10 hown _ hkeep hblk)
      have hka := (Keep.alloc (blk ao) w9 _).trans hkeep
      have hkd : ∀ g ∈ blk ka, g < w9.heap.size ∧ g ∉ blk ao := fun g hg => ⟨hko.lt g hg, fun hm => by have := hkf g hg; have := ho.lt g hm; omega⟩
      have hav : ∀ g ∈ blk ao', g ∈ blk ao ∨ w9.heap.size ≤ g := fun g h => by
        rcases hblk g h with h | h
        · exact .inl h
        · simp at h; exact .inr (by omega)
      have hr10 := RowsOf.other (av' := blk ao ++ blk ao') (fun g h => by
        rcases List.mem_append.1 h with h | h
        · exact .inl h
        · exact hav g h) (RowsOf.snoc hks hkd hr9)
      have hr11 := RowsOf.other (av' := blk ao') (fun g h => .inl (List.mem_append.2 (.inr h))) (RowsOf.keep hka (fun g hg => List.mem_append.2 (.inl hg)) hr10)
      rw [← hbs] at hr11
      have hgr10 := hg9.then hka hb
      go_roundw
      case rel => exact ⟨m + 1, ao', cap', _, by go_num, by omega, rfl, hown, hr11, hgr10, fun g h => by
        rcases hav g h with h | h
        · exact hb g h
        · have := hg9.size; omega⟩
      case measure => simp [intOf]; omega
    · have hm : (wide n).length - 1 = m := by omega
      rw [hm] at hR
      go_wp2
      exact hR _ _ _ _ ho hrows (hg.trans hgr)
end Go.Proofs.Ytoelddjmjhnbaaa
