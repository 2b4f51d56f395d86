/- paths: who stands beside the way. -/
import Derived.Test.YtoelddjmjhnbaaaWay
namespace Go.Proofs.Ytoelddjmjhnbaaa
open Go Go.RowKit

theorem TPP : ST Try.prog 62 51 1 24 := ST.mk' (z := .slice none 0 0) Try.underlying62 (by kernel_rfl) rfl (by decide)

/-- Slices of places, in none of the blocks av. -/
def RowsOf (w : World) (av : List Nat) : List Value → List (List Pl) → Prop
  | [], [] => True
  | v :: vs, l :: ls => (∃ ao c, v = .slice ao l.length c ∧ Sl w 2 ao l.length c (pk l) ∧ ∀ g ∈ blk ao, g < w.heap.size ∧ g ∉ av) ∧ RowsOf w av vs ls
  | _, _ => False
theorem RowsOf.keep {w w' : World} {av fp : List Nat} (k : Keep fp w w') (hf : ∀ g ∈ fp, g ∈ av) : ∀ {vs : List Value} {ls : List (List Pl)}, RowsOf w av vs ls → RowsOf w' av vs ls
  | [], [], _ => trivial
  | _ :: _, _ :: _, ⟨⟨ao, c, e, s, hb⟩, h⟩ => ⟨⟨ao, c, e, s.keep k fun g hg hm => (hb g hg).2 (hf g hm), fun g hg => ⟨Nat.lt_of_lt_of_le (hb g hg).1 k.size, (hb g hg).2⟩⟩, RowsOf.keep k hf h⟩
  | [], _ :: _, h => h.elim
  | _ :: _, [], h => h.elim
theorem RowsOf.grow {w w' : World} {av : List Nat} (g : Grow w w') {vs : List Value} {ls : List (List Pl)} (h : RowsOf w av vs ls) : RowsOf w' av vs ls := RowsOf.keep (Keep.of_grow [] g) (by simp) h
theorem RowsOf.other {w : World} {av av' : List Nat} (ha : ∀ g ∈ av', g ∈ av ∨ w.heap.size ≤ g) : ∀ {vs : List Value} {ls : List (List Pl)}, RowsOf w av vs ls → RowsOf w av' vs ls
  | [], [], _ => trivial
  | _ :: _, _ :: _, ⟨⟨ao, c, e, s, hb⟩, h⟩ => ⟨⟨ao, c, e, s, fun g hg => ⟨(hb g hg).1, fun hm => by
      rcases ha g hm with h | h
      · exact (hb g hg).2 h
      · have := (hb g hg).1; omega⟩⟩, RowsOf.other ha h⟩
  | [], _ :: _, h => h.elim
  | _ :: _, [], h => h.elim
theorem RowsOf.snoc {w : World} {av : List Nat} {ao : Option Addr} {c : Nat} {l : List Pl} (s : Sl w 2 ao l.length c (pk l)) (hb : ∀ g ∈ blk ao, g < w.heap.size ∧ g ∉ av) : ∀ {vs : List Value} {ls : List (List Pl)}, RowsOf w av vs ls → RowsOf w av (vs ++ [.slice ao l.length c]) (ls ++ [l])
  | [], [], _ => ⟨⟨ao, c, rfl, s, hb⟩, trivial⟩
  | _ :: _, _ :: _, ⟨h1, h⟩ => ⟨h1, RowsOf.snoc s hb h⟩
  | [], _ :: _, h => h.elim
  | _ :: _, [], h => h.elim

def besideN (n : Int) (f k : Nat) : List (List Pl) := (List.range k).map fun (i : Nat) => kids n ((i + 1 : Nat) : Int) ((f / 4 ^ i / 4 : Nat) : Int)
theorem besideN_succ (n : Int) (f k : Nat) : besideN n f (k + 1) = besideN n f k ++ [kids n ((k + 1 : Nat) : Int) ((f / 4 ^ k / 4 : Nat) : Int)] := by simp [besideN, List.range_succ]
theorem besideN_len (n : Int) (f k : Nat) : (besideN n f k).length = k := by simp [besideN]
def beside (n leaf : Int) : List (List Pl) := if leaf < 0 ∨ (wid n 0 : Int) ≤ leaf then [] else besideN n leaf.toNat ((wide n).length - 1)

set_option maxRecDepth 100000 in
set_option maxHeartbeats 1000000 in
theorem besideC (n leaf : Int) (hwf : (Lit.int .i64 n).wf = true) (w : World) (R : Ending → World → Prop)
    (hR : ∀ ao cap vs w', Own w' 51 1 ao (beside n leaf).length cap vs → RowsOf w' (blk ao) vs (beside n leaf) → Grow w w' → R (.returned (.slice ao (beside n leaf).length cap)) w') :
    Calls Try.prog 35 #[.int .i64 n, .int .i64 leaf] w R := by
  by_cases hv : leaf < 0 ∨ (wid n 0 : Int) ≤ leaf
  · have e : way n leaf = [] := by unfold way; rw [if_pos hv]
    have e2 : beside n leaf = [] := by unfold beside; rw [if_pos hv]
    rw [e2] at hR
    clear hv
    go_enter Try.func35, Try.ntmps35
    go_wp2_with fail
    refine wayC n leaf hwf w _ ?_
    rw [e]
    intro ao cap w1 ho hg hf
    go_wp2
    refine wp_loop_rounds 1 ?_; rw [rounds_succ]
    go_wp2
    exact hR _ _ _ _ (Own.none _ _ _) trivial hg
  have e : way n leaf = wayN leaf.toNat (wide n).length := by unfold way; rw [if_neg hv]
  have e2 : beside n leaf = besideN n leaf.toNat ((wide n).length - 1) := by unfold beside; rw [if_neg hv]
  rw [e2, besideN_len] at hR
  have hw0 := wid_le n 0
  have hwl := wide_len n
  obtain ⟨f, rfl⟩ : ∃ f : Nat, leaf = f := ⟨leaf.toNat, by omega⟩
  simp only [Int.toNat_natCast] at hR e
  have hL : 0 < (wide n).length := by
    rcases Nat.eq_zero_or_pos (wide n).length with h | h
    · have : wid n 0 = 0 := by
        unfold wid
        rw [if_neg (by omega), List.getD_eq_getElem?_getD, List.getElem?_eq_none (by rw [h]; exact Nat.zero_le _)]
        rfl
      omega
    · exact h
  have hf0 : f < wid n 0 := by omega
  clear hv e2
  have hml : maxLen = 9223372036854775807 := rfl
  go_enter Try.func35, Try.ntmps35
  go_wp2_with fail
  refine wayC n f hwf w _ ?_
  rw [e]
  intro po pc w1 ho hg hf
  have hps := ho.sl
  rw [wayN_len] at hps ⊢
  clear ho
  go_wp2_with fail
  go_loopw [4, 11] (fun o i wr => ∃ (k m : Nat) (ao : Option Addr) (cap : Nat) (vs : List Value), i = .int .i64 k ∧ k ≤ (wide n).length ∧ m ≤ k ∧ (k < (wide n).length → m = k) ∧ (k = (wide n).length → m = (wide n).length - 1) ∧ o = .slice ao m cap ∧ Own wr 51 1 ao m cap vs ∧ RowsOf wr (blk ao) vs (besideN n f m) ∧ Grow w1 wr ∧ (∀ g ∈ blk ao, w1.heap.size ≤ g)) (fun _ i _ => (wide n).length - (intOf i).toNat)
  case atStart => exact ⟨0, 0, none, 0, [], rfl, Nat.zero_le _, Nat.le_refl _, fun _ => rfl, fun h => by omega, rfl, Own.none _ _ _, trivial, Grow.refl _, by simp [blk]⟩
  case round =>
    obtain ⟨k, m, ao, cap, vs, rfl, hk, hm, hm1, hm2, rfl, ho, hrows, hgr, hb⟩ := hrel
    by_cases hlt : k < (wide n).length
    · obtain ⟨g, off, epo, hc⟩ := (hps.grow hgr).hat (by omega)
      subst epo
      obtain rfl := hm1 hlt
      have hpl := Sl.place hc m (by rw [wayN_len]; omega)
      have hel : (wayN f (wide n).length)[m]'(by rw [wayN_len]; omega) = ((m : Int), ((f / 4 ^ m : Nat) : Int)) := by simp [wayN]
      rw [hel] at hpl
      have hbs := besideN_succ n f m
      have hfk : f / 4 ^ m ≤ f := Nat.div_le_self _ _
      obtain ⟨d, hd⟩ : ∃ d, d = f / 4 ^ m := ⟨_, rfl⟩
      rw [← hd] at hpl hbs hfk
      clear hd hel
      have c0 := hpl 0 (by simp)
      have c1 := hpl 1 (by simp)
      simp only [List.getElem_cons_zero, List.getElem_cons_succ, Nat.add_zero] at c0 c1
      clear hpl hc
      go_wp2_with fail
      have o0 := heap_alloc_new wr (.cells #[.int .i64 m, .int .i64 d] 54 (0, 0))
      have m0 := KW.cell (fp := []) (p0 := tt) (obj_cell o0 0 rfl) (by simp)
      refine wp_region_R (segK [] (wr.alloc (.cells #[.int .i64 m, .int .i64 d] 54 (0, 0))) [3] (fun _ _ v w => vIs (.int .i64 (wide n).length) v w) (fun _ _ _ _ _ k h => vIs.st k h)) (by kernel_rfl) segK_drew ?_
      unfold segK segR
      repeat (first | (refine wpV_skp rfl rfl ?_; simp only [List.set_cons_succ, List.set_cons_zero]) | (refine wpV_look rfl rfl rfl rfl rfl (fun K hK => ?_); go_big_quiet_op; refine hK _ ?_; clear hK K))
      refine wpV_mk rfl rfl rfl [] rfl (fun _ w7 hC _ => yields_call (by kernel_rfl) ?_) (fun _ v w7 hC hV _ => ?_)
      · obtain ⟨⟨w7, hk, -⟩, rfl⟩ := hC
        refine levelsC n hwf w7 _ ?_
        intro w8 g8
        exact ⟨_, rfl, ⟨Keep.of_grow [] g8, trivial⟩, rfl⟩
      obtain rfl : v = _ := hV
      clear hC
      simp only [List.set_cons_succ, List.set_cons_zero]
      repeat (first | (refine wpV_skp rfl rfl ?_; simp only [List.set_cons_succ, List.set_cons_zero]) | (refine wpV_look rfl rfl rfl rfl rfl (fun K hK => ?_); go_big_quiet_op; refine hK _ ?_; clear hK K))
      refine wpV_nil ?_
      intro w7 hC _
      obtain ⟨⟨w7, hk7, -⟩, rfl⟩ := hC
      have o7 := hk7.obj o0 (by simp)
      have g7 := (Grow.alloc wr (.cells #[.int .i64 m, .int .i64 d] 54 (0, 0))).trans hk7.grow
      have d0 := obj_cell o7 0 rfl
      have d1 := obj_cell o7 1 rfl
      have ho7 := ho.grow g7
      have hr7 := hrows.grow g7
      have hg7 := hgr.trans g7
      clear m0 c0 c1 hk7 ho hrows
      by_cases hin : m < (wide n).length - 1
      · go_wp2_with fail
        refine upC m d (by omega) (by omega) w7 _ ?_
        intro w8 g8
        go_wp2_with fail
        refine kidsC n ((m + 1 : Nat) : Int) ((d / 4 : Nat) : Int) hwf w8 _ ?_
        intro ka kc w9 hko hkg hkf
        have g79 := g8.trans hkg
        have ho9 := ho7.grow g79
        have hr9 := hr7.grow g79
        have hg9 := hg7.trans g79
        have hks := hko.sl
        go_wp2_with (at_builtin; refine wpList_app TPP rfl rfl (ho9.grow (Grow.alloc w9 _)) (Own.made (n := 1) (heap_alloc_new w9 _) rfl (by decide) (by simp [Value.oneCell'])).sl (by omega) (by omega) ?_; intro ao' cap' w10 hown _ hkeep hblk)
        have hka := (Keep.alloc (blk ao) w9 _).trans hkeep
        have hkd : ∀ g ∈ blk ka, g < w9.heap.size ∧ g ∉ blk ao := fun g hg => ⟨hko.lt g hg, fun hm => by have := hkf g hg; have := ho7.lt g hm; have := g8.size; omega⟩
        have hav : ∀ g ∈ blk ao', g ∈ blk ao ∨ w9.heap.size ≤ g := fun g h => by
          rcases hblk g h with h | h
          · exact .inl h
          · simp at h; exact .inr (by omega)
        have hr10 := RowsOf.other (av' := blk ao ++ blk ao') (fun g h => by
          rcases List.mem_append.1 h with h | h
          · exact .inl h
          · exact hav g h) (RowsOf.snoc hks hkd hr9)
        have hr11 := RowsOf.other (av' := blk ao') (fun g h => .inl (List.mem_append.2 (.inr h))) (RowsOf.keep hka (fun g hg => List.mem_append.2 (.inl hg)) hr10)
        rw [← hbs] at hr11
        have hgr10 := hg9.then hka hb
        go_roundw
        case rel => exact ⟨m + 1, m + 1, ao', cap', _, by go_num, by omega, by omega, fun h => by omega, fun h => by omega, rfl, hown, hr11, hgr10, fun g h => by
          rcases hav g h with h | h
          · exact hb g h
          · have := hg9.size; omega⟩
        case measure => simp [intOf]; omega
      · go_wp2_with fail
        go_roundw
        case rel => exact ⟨m + 1, m, ao, cap, vs, by go_num, by omega, by omega, fun h => by omega, fun h => by omega, rfl, ho7, hr7, hg7, hb⟩
        case measure => simp [intOf]; omega
    · obtain rfl : k = (wide n).length := by omega
      obtain rfl := hm2 rfl
      go_wp2
      exact hR _ _ _ _ ho hrows (hg.trans hgr)
end Go.Proofs.Ytoelddjmjhnbaaa
