/- paths: what its functions do, and the document's. · the document's widths. · paths: places, kids, the way. · the document's kids. · paths: the way from a leaf. · paths: who stands beside the way. · the document's way, and who stands beside it. · priorylaw17.flat, same. · priorylaw17.same. · priorylaw17.awake. · The tree of fours, in plain Lean: how wide each level is, who are kids of whom, and who stands beside. -/
import Derived.Test.YtfmnkcmicbnfdaaGMem
import Derived.Test.YtfmnkcmicbnfdaaRows

namespace Go.Proofs.Ytfmnkcmicbnfdaa
open Go Go.RowKit

theorem TI : ST Try.prog 40 3 1 8 := ST.mk' (z := .int .i64 0) Try.underlying40 (by kernel_rfl) rfl (by decide)
theorem TP : ST Try.prog 130 76 2 16 := ST.mk' (z := .agg #[.int .i64 0, .int .i64 0]) Try.underlying130 (by kernel_rfl) rfl (by decide)
theorem TQ : ST Try.prog 136 78 2 16 := ST.mk' (z := .agg #[.int .i64 0, .int .i64 0]) Try.underlying136 (by kernel_rfl) rfl (by decide)

/-- How many nodes each level has. -/
def wl (n : Nat) : List Nat := if n ≤ 1 then [n] else n :: wl ((n + 3) / 4)
termination_by n
decreasing_by omega
theorem wl_one {n : Nat} (h : n ≤ 1) : wl n = [n] := by rw [wl, if_pos h]
theorem wl_more {n : Nat} (h : ¬ n ≤ 1) : wl n = n :: wl ((n + 3) / 4) := by rw [wl, if_neg h]
theorem wl_len (n : Nat) : (wl n).length ≤ n + 1 := by
  induction n using Nat.strongRecOn with
  | ind n ih =>
    by_cases h : n ≤ 1
    · rw [wl_one h]; simp
    · rw [wl_more h]
      have := ih ((n + 3) / 4) (by omega)
      simp only [List.length_cons]
      omega
theorem wl_le (n : Nat) : ∀ x ∈ wl n, x ≤ n := by
  induction n using Nat.strongRecOn with
  | ind n ih =>
    by_cases h : n ≤ 1
    · rw [wl_one h]; simp
    · rw [wl_more h]
      intro x hx
      rcases List.mem_cons.1 hx with h | h
      · omega
      · have := ih ((n + 3) / 4) (by omega) x h; omega
def wide (n : Int) : List Nat := if n < 1 ∨ 65536 < n then [] else wl n.toNat
theorem wide_len (n : Int) : (wide n).length ≤ 65537 := by
  unfold wide
  split
  · simp
  · have := wl_len n.toNat; omega
def N (k : Nat) : Value := .int .i64 (k : Int)

set_option maxHeartbeats 400000 in
theorem widthsC (n : Int) (hwf : (Lit.int .i64 n).wf = true) (w : World) (R : Ending → World → Prop) (hR : ∀ ao cap w', Own w' 3 1 ao (wide n).length cap ((wide n).map N) → Grow w w' → R (.returned (.slice ao (wide n).length cap)) w') :
    Calls Try.prog 76 #[.int .i64 n] w R := by
  have hwf' := hwf
  simp [Lit.wf, IntKind.min, IntKind.max, IntKind.signed, IntKind.bits] at hwf'
  clear hwf
  by_cases h1 : n < 1
  · have e : wide n = [] := by unfold wide; rw [if_pos (.inl h1)]
    rw [e] at hR
    go_enter Try.func76, Try.ntmps76
    go_wp2
    exact hR _ _ _ (Own.none w _ _) (Grow.refl w)
  by_cases h2 : 65536 < n
  · have e : wide n = [] := by unfold wide; rw [if_pos (.inr h2)]
    rw [e] at hR
    go_enter Try.func76, Try.ntmps76
    go_wp2
    exact hR _ _ _ (Own.none w _ _) (Grow.refl w)
  have e : wide n = wl n.toNat := by unfold wide; rw [if_neg (by omega)]
  have hlen := wl_len n.toNat
  obtain ⟨m, rfl⟩ : ∃ m : Nat, n = m := ⟨n.toNat, by omega⟩
  simp only [Int.toNat_natCast] at e hlen
  rw [e] at hR
  clear e
  have hml : maxLen = 9223372036854775807 := rfl
  go_enter Try.func76, Try.ntmps76
  go_wp2_with fail
  have o1 : Own (w.alloc (.cells #[.int .i64 m] 3)) 3 1 (some ⟨w.heap.size, 0, none⟩) 1 1 [N m] := Own.made (n := 1) (cur := #[N m]) (heap_alloc_new w _) rfl (by decide) (by simp [N, Value.oneCell'])
  go_loopw [0, 2] (fun a o wr => ∃ (k : Nat) (l : List Nat) (ao : Option Addr) (cap : Nat), a = .int .i64 k ∧ o = .slice ao (l.length + 1) cap ∧ 1 ≤ k ∧ k ≤ m ∧ wl m = l ++ wl k ∧ Own wr 3 1 ao (l.length + 1) cap ((l ++ [k]).map N) ∧ Grow w wr ∧ (∀ g ∈ blk ao, w.heap.size ≤ g)) (fun a _ _ => (intOf a).toNat)
  case atStart => exact ⟨m, [], _, _, rfl, rfl, by omega, Nat.le_refl _, rfl, o1, Grow.alloc _ _, by simp [blk]⟩
  case round =>
    clear o1
    obtain ⟨k, l, ao, cap, rfl, rfl, hk1, hkm, hwl, ho, hg, hb⟩ := hrel
    have hll : l.length + 1 ≤ m + 1 := by
      have h3 := congrArg List.length hwl
      rw [List.length_append] at h3
      have h4 : 1 ≤ (wl k).length := by
        by_cases h : k ≤ 1
        · rw [wl_one h]; simp
        · rw [wl_more h]; simp
      omega
    by_cases hk : 1 < k
    · go_wp2_with (at_builtin; refine wpList_app TI rfl rfl (ho.grow (Grow.alloc wr _)) (Own.made (n := 1) (heap_alloc_new wr _) rfl (by decide) (by simp [Value.oneCell'])).sl (by omega) (by omega) ?_; intro ao' cap' w1 hown _ hkeep hblk)
      have e4 : ((k : Int) + 4 - 1) / 4 = (((k + 3) / 4 : Nat) : Int) := by omega
      have e5 : ((k : Int) + 3) / 4 = (((k + 3) / 4 : Nat) : Int) := by omega
      simp only [e4] at hown ⊢
      clear e4 e5
      have hka := (Keep.alloc (blk ao) wr _).trans hkeep
      have hm : (l ++ [k]).map N ++ [Value.int .i64 (((k + 3) / 4 : Nat) : Int)] = ((l ++ [k]) ++ [(k + 3) / 4]).map N := by simp [N]
      rw [hm] at hown
      have hgr := hg.then hka hb
      go_roundw
      case rel => exact ⟨(k + 3) / 4, l ++ [k], ao', cap', rfl, by simp, by omega, by omega, by rw [hwl, wl_more (by omega)]; simp, by simpa using hown, hgr, fun g h => by
        rcases hblk g h with h | h
        · exact hb g h
        · have := hg.size; simp at h; omega⟩
      case measure => simp [intOf]; omega
    · obtain rfl : k = 1 := by omega
      rw [wl_one (Nat.le_refl 1)] at hwl
      rw [hwl] at hR
      simp only [List.length_append, List.length_cons, List.length_nil, Nat.zero_add] at hR
      go_wp2
      exact hR _ _ _ ho hg

/-- How many nodes a level has. -/
def wid (n level : Int) : Nat := if level < 0 then 0 else (wide n).getD level.toNat 0
theorem wid_le (n level : Int) : wid n level ≤ 65536 := by
  unfold wid
  split
  · omega
  · rw [List.getD_eq_getElem?_getD]
    cases h : (wide n)[level.toNat]? with
    | none => simp
    | some x =>
      have hx := List.mem_of_getElem? h
      unfold wide at hx
      split at hx
      · simp at hx
      · have := wl_le _ x hx; simp; omega

set_option maxHeartbeats 400000 in
theorem levelsC (n : Int) (hwf : (Lit.int .i64 n).wf = true) (w : World) (R : Ending → World → Prop) (hR : ∀ w', Grow w w' → R (.returned (.int .i64 ((wide n).length : Int))) w') :
    Calls Try.prog 43 #[.int .i64 n] w R := by
  go_enter Try.func43, Try.ntmps43
  go_wp2_with fail
  refine widthsC n hwf w _ ?_
  intro ao cap w1 ho hg
  go_wp2
  exact hg

set_option maxHeartbeats 400000 in
theorem widthC (n level : Int) (hwf : (Lit.int .i64 n).wf = true) (w : World) (R : Ending → World → Prop) (hR : ∀ w', Grow w w' → R (.returned (.int .i64 (wid n level : Int))) w') :
    Calls Try.prog 44 #[.int .i64 n, .int .i64 level] w R := by
  by_cases h0 : level < 0
  · have e : wid n level = 0 := by unfold wid; rw [if_pos h0]
    rw [e] at hR
    go_enter Try.func44, Try.ntmps44
    go_wp2_with fail
    refine widthsC n hwf w _ ?_
    intro ao cap w1 ho hg
    go_wp2
    exact hg
  by_cases h1 : ((wide n).length : Int) ≤ level
  · have e : wid n level = 0 := by unfold wid; rw [if_neg h0, List.getD_eq_getElem?_getD, List.getElem?_eq_none (by omega)]; rfl
    rw [e] at hR
    go_enter Try.func44, Try.ntmps44
    go_wp2_with fail
    refine widthsC n hwf w _ ?_
    intro ao cap w1 ho hg
    go_wp2
    exact hg
  obtain ⟨k, rfl⟩ : ∃ k : Nat, level = k := ⟨level.toNat, by omega⟩
  have hk : k < (wide n).length := by omega
  have e : wid n k = (wide n)[k] := by unfold wid; rw [if_neg h0, List.getD_eq_getElem?_getD]; simp [hk]
  rw [e] at hR
  clear e
  go_enter Try.func44, Try.ntmps44
  go_wp2_with fail
  refine widthsC n hwf w _ ?_
  intro ao cap w1 ho hg
  obtain ⟨g, off, rfl, hc⟩ := ho.sl.hat (by omega)
  have c0 := hc.at (i := k) (v := .int .i64 ((wide n)[k] : Int)) (by simp [hk, N])
  clear hc ho
  go_wp2
  exact hg
end Go.Proofs.Ytfmnkcmicbnfdaa

namespace Go.Proofs.Ytfmnkcmicbnfdaa
open Go Go.RowKit
set_option maxHeartbeats 400000 in
theorem rWidthsC (n : Int) (hwf : (Lit.int .i64 n).wf = true) (w : World) (R : Ending → World → Prop) (hR : ∀ ao cap w', Own w' 3 1 ao (wide n).length cap ((wide n).map N) → Grow w w' → R (.returned (.slice ao (wide n).length cap)) w') :
    Calls Try.prog 75 #[.int .i64 n] w R := by
  have hwf' := hwf
  simp [Lit.wf, IntKind.min, IntKind.max, IntKind.signed, IntKind.bits] at hwf'
  clear hwf
  by_cases h1 : n < 1
  · have e : wide n = [] := by unfold wide; rw [if_pos (.inl h1)]
    rw [e] at hR
    go_enter Try.func75, Try.ntmps75
    go_wp2
    exact hR _ _ _ (Own.none w _ _) (Grow.refl w)
  by_cases h2 : 65536 < n
  · have e : wide n = [] := by unfold wide; rw [if_pos (.inr h2)]
    rw [e] at hR
    go_enter Try.func75, Try.ntmps75
    go_wp2
    exact hR _ _ _ (Own.none w _ _) (Grow.refl w)
  have e : wide n = wl n.toNat := by unfold wide; rw [if_neg (by omega)]
  have hlen := wl_len n.toNat
  obtain ⟨m, rfl⟩ : ∃ m : Nat, n = m := ⟨n.toNat, by omega⟩
  simp only [Int.toNat_natCast] at e hlen
  rw [e] at hR
  clear e
  have hml : maxLen = 9223372036854775807 := rfl
  go_enter Try.func75, Try.ntmps75
  go_wp2_with fail
  have o1 : Own (w.alloc (.cells #[.int .i64 m] 3)) 3 1 (some ⟨w.heap.size, 0, none⟩) 1 1 [N m] := Own.made (n := 1) (cur := #[N m]) (heap_alloc_new w _) rfl (by decide) (by simp [N, Value.oneCell'])
  go_loopw [0, 3] (fun a o wr => ∃ (k : Nat) (l : List Nat) (ao : Option Addr) (cap : Nat), a = .int .i64 k ∧ o = .slice ao (l.length + 1) cap ∧ 1 ≤ k ∧ k ≤ m ∧ wl m = l ++ wl k ∧ Own wr 3 1 ao (l.length + 1) cap ((l ++ [k]).map N) ∧ Grow w wr ∧ (∀ g ∈ blk ao, w.heap.size ≤ g)) (fun a _ _ => (intOf a).toNat)
  case atStart => exact ⟨m, [], _, _, rfl, rfl, by omega, Nat.le_refl _, rfl, o1, Grow.alloc _ _, by simp [blk]⟩
  case round =>
    clear o1
    obtain ⟨k, l, ao, cap, rfl, rfl, hk1, hkm, hwl, ho, hg, hb⟩ := hrel
    have hll : l.length + 1 ≤ m + 1 := by
      have h3 := congrArg List.length hwl
      rw [List.length_append] at h3
      have h4 : 1 ≤ (wl k).length := by
        by_cases h : k ≤ 1
        · rw [wl_one h]; simp
        · rw [wl_more h]; simp
      omega
    by_cases hk : 1 < k
    · go_wp2_with (at_builtin; refine wpList_app TI rfl rfl (ho.grow (Grow.alloc wr _)) (Own.made (n := 1) (heap_alloc_new wr _) rfl (by decide) (by simp [Value.oneCell'])).sl (by omega) (by omega) ?_; intro ao' cap' w1 hown _ hkeep hblk)
      have e4 : ((k : Int) + 4 - 1) / 4 = (((k + 3) / 4 : Nat) : Int) := by omega
      have e5 : ((k : Int) + 3) / 4 = (((k + 3) / 4 : Nat) : Int) := by omega
      simp only [e5] at hown ⊢
      clear e4 e5
      have hka := (Keep.alloc (blk ao) wr _).trans hkeep
      have hm : (l ++ [k]).map N ++ [Value.int .i64 (((k + 3) / 4 : Nat) : Int)] = ((l ++ [k]) ++ [(k + 3) / 4]).map N := by simp [N]
      rw [hm] at hown
      have hgr := hg.then hka hb
      go_roundw
      case rel => exact ⟨(k + 3) / 4, l ++ [k], ao', cap', rfl, by simp, by omega, by omega, by rw [hwl, wl_more (by omega)]; simp, by simpa using hown, hgr, fun g h => by
        rcases hblk g h with h | h
        · exact hb g h
        · have := hg.size; simp at h; omega⟩
      case measure => simp [intOf]; omega
    · obtain rfl : k = 1 := by omega
      rw [wl_one (Nat.le_refl 1)] at hwl
      rw [hwl] at hR
      simp only [List.length_append, List.length_cons, List.length_nil, Nat.zero_add] at hR
      go_wp2
      exact hR _ _ _ ho hg
set_option maxHeartbeats 400000 in
theorem rWidthC (n level : Int) (hwf : (Lit.int .i64 n).wf = true) (w : World) (R : Ending → World → Prop) (hR : ∀ w', Grow w w' → R (.returned (.int .i64 (wid n level : Int))) w') :
    Calls Try.prog 77 #[.int .i64 n, .int .i64 level] w R := by
  by_cases h0 : level < 0
  · have e : wid n level = 0 := by unfold wid; rw [if_pos h0]
    rw [e] at hR
    go_enter Try.func77, Try.ntmps77
    go_wp2_with fail
    refine rWidthsC n hwf w _ ?_
    intro ao cap w1 ho hg
    go_wp2
    exact hg
  by_cases h1 : ((wide n).length : Int) ≤ level
  · have e : wid n level = 0 := by unfold wid; rw [if_neg h0, List.getD_eq_getElem?_getD, List.getElem?_eq_none (by omega)]; rfl
    rw [e] at hR
    go_enter Try.func77, Try.ntmps77
    go_wp2_with fail
    refine rWidthsC n hwf w _ ?_
    intro ao cap w1 ho hg
    go_wp2
    exact hg
  obtain ⟨k, rfl⟩ : ∃ k : Nat, level = k := ⟨level.toNat, by omega⟩
  have hk : k < (wide n).length := by omega
  have e : wid n k = (wide n)[k] := by unfold wid; rw [if_neg h0, List.getD_eq_getElem?_getD]; simp [hk]
  rw [e] at hR
  clear e
  go_enter Try.func77, Try.ntmps77
  go_wp2_with fail
  refine rWidthsC n hwf w _ ?_
  intro ao cap w1 ho hg
  obtain ⟨g, off, rfl, hc⟩ := ho.sl.hat (by omega)
  have c0 := hc.at (i := k) (v := .int .i64 ((wide n)[k] : Int)) (by simp [hk, N])
  clear hc ho
  go_wp2
  exact hg
end Go.Proofs.Ytfmnkcmicbnfdaa

namespace Go.Proofs.Ytfmnkcmicbnfdaa
open Go Go.RowKit

abbrev Pl := Int × Int
def pv (p : Pl) : Value := .agg #[.int .i64 p.1, .int .i64 p.2]
def pk (l : List Pl) : List Value := l.flatMap fun p => [.int .i64 p.1, .int .i64 p.2]
theorem pk_append (a b : List Pl) : pk (a ++ b) = pk a ++ pk b := by simp [pk]
theorem pk_length (l : List Pl) : (pk l).length = l.length * 2 := by
  induction l with
  | nil => rfl
  | cons t l ih => simp only [pk, List.flatMap_cons, List.length_append, List.length_cons, List.length_nil] at ih ⊢; omega
theorem pk_at (l : List Pl) : ∀ i (h : i < l.length), (pk l)[i * 2]? = some (.int .i64 l[i].1) ∧ (pk l)[i * 2 + 1]? = some (.int .i64 l[i].2) := by
  induction l with
  | nil => intro i h; simp at h
  | cons t l ih =>
    intro i h
    have e : pk (t :: l) = [.int .i64 t.1, .int .i64 t.2] ++ pk l := by simp [pk]
    rw [e]
    cases i with
    | zero => simp
    | succ i =>
      have := ih i (by simpa using h)
      simp only [List.getElem_cons_succ]
      rw [List.getElem?_append_right (by simp; omega), List.getElem?_append_right (by simp; omega)]
      simp only [List.length_cons, List.length_nil]
      rw [show (i + 1) * 2 - 2 = i * 2 by omega, show (i + 1) * 2 + 1 - 2 = i * 2 + 1 by omega]
      exact this
theorem Sl.place {w : World} {g off : Nat} {l : List Pl} (h : Cells w g off (pk l)) (i : Nat) (hi : i < l.length) : Cells w g (off + i * 2) [.int .i64 l[i].1, .int .i64 l[i].2] := by
  obtain ⟨e0, e1⟩ := pk_at l i hi
  exact h.sub fun j hj => by
    match j, hj with
    | 0, _ => exact e0
    | 1, _ => exact e1

set_option maxHeartbeats 400000 in
theorem upC (level index : Nat) (h1 : level ≤ 1000000) (h2 : index ≤ 1000000) (w : World) (R : Ending → World → Prop) (hR : ∀ w', Grow w w' → R (.returned (.agg #[.int .i64 ((level + 1 : Nat) : Int), .int .i64 ((index / 4 : Nat) : Int)])) w') :
    Calls Try.prog 97 #[.agg #[.int .i64 (level : Int), .int .i64 (index : Int)]] w R := by
  go_enter Try.func97, Try.ntmps97
  go_wp2
  refine bodyPost_ret (v := .agg #[.int .i64 ((level : Int) + 1), .int .i64 ((index : Int) / 4)]) (by simp [results, Try.results97, go_sem]) rfl ?_
  rw [show ((level : Int) + 1) = ((level + 1 : Nat) : Int) by omega, show ((index : Int) / 4) = ((index / 4 : Nat) : Int) by omega]
  exact hR _ ((Grow.alloc w _).trans (Grow.alloc _ _))

/-- The places below, the first i of four. -/
def kidN (n level index : Int) (i : Nat) : List Pl := ((List.range i).filter fun (j : Nat) => decide (4 * index + j < (wid n (level - 1) : Int))).map fun (j : Nat) => (level - 1, 4 * index + j)
theorem kidN_succ (n level index : Int) (i : Nat) : kidN n level index (i + 1) = kidN n level index i ++ if 4 * index + i < (wid n (level - 1) : Int) then [(level - 1, 4 * index + i)] else [] := by
  unfold kidN
  rw [List.range_succ, List.filter_append, List.map_append]
  congr 1
  by_cases h : 4 * index + (i : Int) < (wid n (level - 1) : Int) <;> simp [h]
theorem kidN_len (n level index : Int) (i : Nat) : (kidN n level index i).length ≤ i := by
  induction i with
  | zero => simp [kidN]
  | succ i ih => rw [kidN_succ, List.length_append]; split <;> simp <;> omega
def kids (n level index : Int) : List Pl := if index < 0 ∨ (wid n level : Int) ≤ index ∨ level = 0 then [] else kidN n level index 4
theorem kids_len (n level index : Int) : (kids n level index).length ≤ 4 := by
  unfold kids; split
  · simp
  · exact kidN_len _ _ _ _
theorem wid_level {n level : Int} (h : 0 < wid n level) : 0 ≤ level ∧ level < 65537 := by
  unfold wid at h
  split at h
  · omega
  · rw [List.getD_eq_getElem?_getD] at h
    by_cases hl : level.toNat < (wide n).length
    · have := wide_len n; omega
    · rw [List.getElem?_eq_none (by omega)] at h; simp at h

set_option maxRecDepth 100000 in
set_option maxHeartbeats 1000000 in
theorem kidsC (n level index : Int) (hwf : (Lit.int .i64 n).wf = true) (w : World) (R : Ending → World → Prop)
    (hR : ∀ ao cap w', Own w' 76 2 ao (kids n level index).length cap (pk (kids n level index)) → Grow w w' → Fr (blk ao) w → R (.returned (.slice ao (kids n level index).length cap)) w') :
    Calls Try.prog 96 #[.int .i64 n, .agg #[.int .i64 level, .int .i64 index]] w R := by
  have o0 := heap_alloc_new w (.cells #[.int .i64 level, .int .i64 index] 76 (0, 0))
  have m0 := KW.cell (fp := []) (p0 := tt) (obj_cell o0 0 rfl) (by simp)
  have m1 := KW.cell (fp := []) (p0 := tt) (obj_cell o0 1 rfl) (by simp)
  by_cases h0 : index < 0
  · have e : kids n level index = [] := by unfold kids; rw [if_pos (.inl h0)]
    rw [e] at hR
    go_enter Try.func96, Try.ntmps96
    go_wp2_with fail
    refine wp_region_R (segL (w.alloc (.cells #[.int .i64 level, .int .i64 index] 76 (0, 0)))) (by kernel_rfl) segL_drew ?_
    unfold segL segK segR
    repeat (first | (refine wpV_skp rfl rfl ?_; simp only [List.set_cons_succ, List.set_cons_zero]) | (refine wpV_look rfl rfl rfl rfl rfl (fun K hK => ?_); go_big_quiet_op; refine hK _ ?_; clear hK K))
    refine wpV_nil ?_
    intro w7 hC _
    obtain ⟨⟨w7, hk7, -⟩, rfl⟩ := hC
    go_wp2
    exact hR _ _ _ (Own.none _ _ _) ((Grow.alloc w _).trans hk7.grow) (by simp [Fr, blk])
  have hd0 : decide (index < 0) = false := by simp; omega
  by_cases h1 : (wid n level : Int) ≤ index
  · have e : kids n level index = [] := by unfold kids; rw [if_pos (.inr (.inl h1))]
    rw [e] at hR
    go_enter Try.func96, Try.ntmps96
    go_wp2_with fail
    refine wp_region_R (segK [] (w.alloc (.cells #[.int .i64 level, .int .i64 index] 76 (0, 0))) [9] (fun _ _ v w => vIs (.int .i64 (wid n level)) v w) (fun _ _ _ _ _ k h => vIs.st k h)) (by kernel_rfl) segK_drew ?_
    unfold segK segR
    repeat (first | (refine wpV_skp rfl rfl ?_; simp only [List.set_cons_succ, List.set_cons_zero]) | (refine wpV_look rfl rfl rfl rfl rfl (fun K hK => ?_); go_big_quiet_op; refine hK _ ?_; clear hK K))
    refine wpV_mk rfl rfl rfl [] rfl (fun vs w7 hC _ => yields_call (by kernel_rfl) ?_) (fun vs v w7 hC hV _ => ?_)
    · obtain ⟨⟨w7, hk, -⟩, rfl⟩ := hC
      refine widthC n level hwf w7 _ ?_
      intro w8 g8
      exact ⟨_, rfl, ⟨Keep.of_grow [] g8, trivial⟩, rfl⟩
    obtain rfl : v = _ := hV
    clear hC
    simp only [List.set_cons_succ, List.set_cons_zero]
    repeat (first | (refine wpV_skp rfl rfl ?_; simp only [List.set_cons_succ, List.set_cons_zero]) | (refine wpV_look rfl rfl rfl rfl rfl (fun K hK => ?_); go_big_quiet_op; refine hK _ ?_; clear hK K))
    refine wpV_nil ?_
    intro w7 hC _
    obtain ⟨⟨w7, hk7, -⟩, rfl⟩ := hC
    go_wp2
    exact hR _ _ _ (Own.none _ _ _) ((Grow.alloc w _).trans hk7.grow) (by simp [Fr, blk])
  have hd1 : decide ((wid n level : Int) ≤ index) = false := by simp; omega
  by_cases h2 : level = 0
  · have e : kids n level index = [] := by unfold kids; rw [if_pos (.inr (.inr h2))]
    rw [e] at hR
    subst h2
    go_enter Try.func96, Try.ntmps96
    go_wp2_with fail
    refine wp_region_R (segK [] (w.alloc (.cells #[.int .i64 0, .int .i64 index] 76 (0, 0))) [9] (fun _ _ v w => vIs (.int .i64 (wid n 0)) v w) (fun _ _ _ _ _ k h => vIs.st k h)) (by kernel_rfl) segK_drew ?_
    unfold segK segR
    repeat (first | (refine wpV_skp rfl rfl ?_; simp only [List.set_cons_succ, List.set_cons_zero]) | (refine wpV_look rfl rfl rfl rfl rfl (fun K hK => ?_); go_big_quiet_op; refine hK _ ?_; clear hK K))
    refine wpV_mk rfl rfl rfl [] rfl (fun vs w7 hC _ => yields_call (by kernel_rfl) ?_) (fun vs v w7 hC hV _ => ?_)
    · obtain ⟨⟨w7, hk, -⟩, rfl⟩ := hC
      refine widthC n 0 hwf w7 _ ?_
      intro w8 g8
      exact ⟨_, rfl, ⟨Keep.of_grow [] g8, trivial⟩, rfl⟩
    obtain rfl : v = _ := hV
    clear hC
    simp only [List.set_cons_succ, List.set_cons_zero]
    repeat (first | (refine wpV_skp rfl rfl ?_; simp only [List.set_cons_succ, List.set_cons_zero]) | (refine wpV_look rfl rfl rfl rfl rfl (fun K hK => ?_); go_big_quiet_op; refine hK _ ?_; clear hK K))
    refine wpV_nil ?_
    intro w7 hC _
    obtain ⟨⟨w7, hk7, -⟩, rfl⟩ := hC
    go_wp2
    exact hR _ _ _ (Own.none _ _ _) ((Grow.alloc w _).trans hk7.grow) (by simp [Fr, blk])
  have hd2 : (level == 0) = false := by simp [h2]
  have e : kids n level index = kidN n level index 4 := by unfold kids; rw [if_neg (by omega)]
  rw [e] at hR
  clear e
  have hml : maxLen = 9223372036854775807 := rfl
  have hlv := wid_level (n := n) (level := level) (by omega)
  have hwl := wid_le n level
  go_enter Try.func96, Try.ntmps96
  go_wp2_with fail
  refine wp_region_R (segK [] (w.alloc (.cells #[.int .i64 level, .int .i64 index] 76 (0, 0))) [9] (fun _ _ v w => vIs (.int .i64 (wid n level)) v w) (fun _ _ _ _ _ k h => vIs.st k h)) (by kernel_rfl) segK_drew ?_
  unfold segK segR
  repeat (first | (refine wpV_skp rfl rfl ?_; simp only [List.set_cons_succ, List.set_cons_zero]) | (refine wpV_look rfl rfl rfl rfl rfl (fun K hK => ?_); go_big_quiet_op; refine hK _ ?_; clear hK K))
  refine wpV_mk rfl rfl rfl [] rfl (fun vs w7 hC _ => yields_call (by kernel_rfl) ?_) (fun vs v w7 hC hV _ => ?_)
  · obtain ⟨⟨w7, hk, -⟩, rfl⟩ := hC
    refine widthC n level hwf w7 _ ?_
    intro w8 g8
    exact ⟨_, rfl, ⟨Keep.of_grow [] g8, trivial⟩, rfl⟩
  obtain rfl : v = _ := hV
  clear hC
  simp only [List.set_cons_succ, List.set_cons_zero]
  repeat (first | (refine wpV_skp rfl rfl ?_; simp only [List.set_cons_succ, List.set_cons_zero]) | (refine wpV_look rfl rfl rfl rfl rfl (fun K hK => ?_); go_big_quiet_op; refine hK _ ?_; clear hK K))
  refine wpV_nil ?_
  intro w7 hC _
  obtain ⟨⟨w7, hk7, -⟩, rfl⟩ := hC
  have g7 : Grow w w7 := (Grow.alloc w _).trans hk7.grow
  have c0 := hk7.cell (obj_cell o0 0 rfl) (by simp)
  have c1 := hk7.cell (obj_cell o0 1 rfl) (by simp)
  have zg := g7.size
  clear m0 m1 o0 hk7
  go_wp2_with fail
  go_loopw [4, 24] (fun o i wr => ∃ (k : Nat) (ao : Option Addr) (cap : Nat), i = .int .i64 k ∧ k ≤ 4 ∧ o = .slice ao (kidN n level index k).length cap ∧ Own wr 76 2 ao (kidN n level index k).length cap (pk (kidN n level index k)) ∧ Grow w7 wr ∧ (∀ g ∈ blk ao, w7.heap.size ≤ g)) (fun _ i _ => 4 - (intOf i).toNat)
  case atStart => exact ⟨0, none, 0, rfl, by omega, rfl, Own.none _ _ _, Grow.refl _, by simp [blk]⟩
  case round =>
    obtain ⟨k, ao, cap, rfl, hk4, rfl, ho, hg, hb⟩ := hrel
    have d0 := hg.cell c0
    have d1 := hg.cell c1
    by_cases hlt : k < 4
    · have hkl := kidN_len n level index k
      have hks := kidN_succ n level index k
      go_wp2_with fail
      refine widthC n (level - 1) hwf wr _ ?_
      intro w8 g8
      have f0 := g8.cell d0
      have f1 := g8.cell d1
      have ho8 := ho.grow g8
      have hg8 := hg.trans g8
      by_cases hin : 4 * index + (k : Int) < (wid n (level - 1) : Int)
      · rw [if_pos hin] at hks
        go_wp2_with (at_builtin; refine wpList_app TP rfl rfl (ho8.grow (Grow.alloc w8 _)) (Own.made (n := 1) (heap_alloc_new w8 _) rfl (by decide) (by simp [Value.oneCell'])).sl (by omega) (by omega) ?_; intro ao' cap' w9 hown _ hkeep hblk)
        have hka := (Keep.alloc (blk ao) w8 _).trans hkeep
        have hgr := hg8.then hka hb
        go_roundw
        case rel =>
          refine ⟨k + 1, ao', cap', by go_num, by omega, ?_, ?_, hgr, fun g h => ?_⟩
          · rw [hks]; simp
          · rw [hks, pk_append]; simpa [pk] using hown
          · rcases hblk g h with h | h
            · exact hb g h
            · have := hg8.size; simp at h; omega
        case measure => simp [intOf]; omega
      · rw [if_neg hin, List.append_nil] at hks
        go_wp2_with fail
        go_roundw
        case rel => exact ⟨k + 1, ao, cap, by go_num, by omega, by rw [hks], by rw [hks]; exact ho8, hg8, hb⟩
        case measure => simp [intOf]; omega
    · obtain rfl : k = 4 := by omega
      go_wp2
      exact hR _ _ _ ho (g7.trans hg) (fun g h => by have := hb g h; omega)
end Go.Proofs.Ytfmnkcmicbnfdaa

namespace Go.Proofs.Ytfmnkcmicbnfdaa
open Go Go.RowKit

theorem kidN_stop {n level index : Int} {k : Nat} (h : (wid n (level - 1) : Int) ≤ 4 * index + k) : ∀ d, kidN n level index (k + d) = kidN n level index k := by
  intro d
  induction d with
  | zero => rfl
  | succ d ih => rw [← Nat.add_assoc, kidN_succ, ih, if_neg (by omega), List.append_nil]

set_option maxRecDepth 100000 in
set_option maxHeartbeats 1000000 in
theorem rKidsC (n level index : Int) (hwf : (Lit.int .i64 n).wf = true) (w : World) (R : Ending → World → Prop)
    (hR : ∀ ao cap w', Own w' 78 2 ao (kids n level index).length cap (pk (kids n level index)) → Grow w w' → Fr (blk ao) w → R (.returned (.slice ao (kids n level index).length cap)) w') :
    Calls Try.prog 78 #[.int .i64 n, .agg #[.int .i64 level, .int .i64 index]] w R := by
  have o0 := heap_alloc_new w (.cells #[.int .i64 level, .int .i64 index] 78 (0, 0))
  have m0 := KW.cell (fp := []) (p0 := tt) (obj_cell o0 0 rfl) (by simp)
  have m1 := KW.cell (fp := []) (p0 := tt) (obj_cell o0 1 rfl) (by simp)
  by_cases hl : level < 1
  · have e : kids n level index = [] := by
      unfold kids
      by_cases h : level = 0
      · rw [if_pos (.inr (.inr h))]
      · have : wid n level = 0 := by unfold wid; rw [if_pos (by omega)]
        rw [if_pos (by omega)]
    rw [e] at hR
    go_enter Try.func78, Try.ntmps78
    go_wp2_with fail
    refine wp_region_R (segL (w.alloc (.cells #[.int .i64 level, .int .i64 index] 78 (0, 0)))) (by kernel_rfl) segL_drew ?_
    unfold segL segK segR
    repeat (first | (refine wpV_skp rfl rfl ?_; simp only [List.set_cons_succ, List.set_cons_zero]) | (refine wpV_look rfl rfl rfl rfl rfl (fun K hK => ?_); go_big_quiet_op; refine hK _ ?_; clear hK K))
    refine wpV_nil ?_
    intro w7 hC _
    obtain ⟨⟨w7, hk7, -⟩, rfl⟩ := hC
    go_wp2
    exact hR _ _ _ (Own.none _ _ _) ((Grow.alloc w _).trans hk7.grow) (by simp [Fr, blk])
  have hdl : decide (level < 1) = false := by simp; omega
  by_cases h0 : index < 0
  · have e : kids n level index = [] := by unfold kids; rw [if_pos (.inl h0)]
    rw [e] at hR
    go_enter Try.func78, Try.ntmps78
    go_wp2_with fail
    refine wp_region_R (segL (w.alloc (.cells #[.int .i64 level, .int .i64 index] 78 (0, 0)))) (by kernel_rfl) segL_drew ?_
    unfold segL segK segR
    repeat (first | (refine wpV_skp rfl rfl ?_; simp only [List.set_cons_succ, List.set_cons_zero]) | (refine wpV_look rfl rfl rfl rfl rfl (fun K hK => ?_); go_big_quiet_op; refine hK _ ?_; clear hK K))
    refine wpV_nil ?_
    intro w7 hC _
    obtain ⟨⟨w7, hk7, -⟩, rfl⟩ := hC
    go_wp2
    exact hR _ _ _ (Own.none _ _ _) ((Grow.alloc w _).trans hk7.grow) (by simp [Fr, blk])
  have hd0 : decide (index < 0) = false := by simp; omega
  by_cases h1 : (wid n level : Int) ≤ index
  · have e : kids n level index = [] := by unfold kids; rw [if_pos (.inr (.inl h1))]
    rw [e] at hR
    go_enter Try.func78, Try.ntmps78
    go_wp2_with fail
    refine wp_region_R (segK [] (w.alloc (.cells #[.int .i64 level, .int .i64 index] 78 (0, 0))) [14] (fun _ _ v w => vIs (.int .i64 (wid n level)) v w) (fun _ _ _ _ _ k h => vIs.st k h)) (by kernel_rfl) segK_drew ?_
    unfold segK segR
    repeat (first | (refine wpV_skp rfl rfl ?_; simp only [List.set_cons_succ, List.set_cons_zero]) | (refine wpV_look rfl rfl rfl rfl rfl (fun K hK => ?_); go_big_quiet_op; refine hK _ ?_; clear hK K))
    refine wpV_mk rfl rfl rfl [] rfl (fun _ w7 hC _ => yields_call (by kernel_rfl) ?_) (fun _ v w7 hC hV _ => ?_)
    · obtain ⟨⟨w7, hk, -⟩, rfl⟩ := hC
      refine rWidthC n level hwf w7 _ ?_
      intro w8 g8
      exact ⟨_, rfl, ⟨Keep.of_grow [] g8, trivial⟩, rfl⟩
    obtain rfl : v = _ := hV
    clear hC
    simp only [List.set_cons_succ, List.set_cons_zero]
    repeat (first | (refine wpV_skp rfl rfl ?_; simp only [List.set_cons_succ, List.set_cons_zero]) | (refine wpV_look rfl rfl rfl rfl rfl (fun K hK => ?_); go_big_quiet_op; refine hK _ ?_; clear hK K))
    refine wpV_nil ?_
    intro w7 hC _
    obtain ⟨⟨w7, hk7, -⟩, rfl⟩ := hC
    go_wp2
    exact hR _ _ _ (Own.none _ _ _) ((Grow.alloc w _).trans hk7.grow) (by simp [Fr, blk])
  have hd1 : decide ((wid n level : Int) ≤ index) = false := by simp; omega
  have e : kids n level index = kidN n level index 4 := by unfold kids; rw [if_neg (by omega)]
  rw [e] at hR
  clear e
  have hml : maxLen = 9223372036854775807 := rfl
  have hlv := wid_level (n := n) (level := level) (by omega)
  have hwl := wid_le n level
  go_enter Try.func78, Try.ntmps78
  go_wp2_with fail
  refine wp_region_R (segK [] (w.alloc (.cells #[.int .i64 level, .int .i64 index] 78 (0, 0))) [14] (fun _ _ v w => vIs (.int .i64 (wid n level)) v w) (fun _ _ _ _ _ k h => vIs.st k h)) (by kernel_rfl) segK_drew ?_
  unfold segK segR
  repeat (first | (refine wpV_skp rfl rfl ?_; simp only [List.set_cons_succ, List.set_cons_zero]) | (refine wpV_look rfl rfl rfl rfl rfl (fun K hK => ?_); go_big_quiet_op; refine hK _ ?_; clear hK K))
  refine wpV_mk rfl rfl rfl [] rfl (fun _ w7 hC _ => yields_call (by kernel_rfl) ?_) (fun _ v w7 hC hV _ => ?_)
  · obtain ⟨⟨w7, hk, -⟩, rfl⟩ := hC
    refine rWidthC n level hwf w7 _ ?_
    intro w8 g8
    exact ⟨_, rfl, ⟨Keep.of_grow [] g8, trivial⟩, rfl⟩
  obtain rfl : v = _ := hV
  clear hC
  simp only [List.set_cons_succ, List.set_cons_zero]
  repeat (first | (refine wpV_skp rfl rfl ?_; simp only [List.set_cons_succ, List.set_cons_zero]) | (refine wpV_look rfl rfl rfl rfl rfl (fun K hK => ?_); go_big_quiet_op; refine hK _ ?_; clear hK K))
  refine wpV_nil ?_
  intro w7 hC _
  obtain ⟨⟨w7, hk7, -⟩, rfl⟩ := hC
  have g7 : Grow w w7 := (Grow.alloc w _).trans hk7.grow
  have c0 := hk7.cell (obj_cell o0 0 rfl) (by simp)
  have c1 := hk7.cell (obj_cell o0 1 rfl) (by simp)
  have zg := g7.size
  clear m0 m1 o0 hk7
  go_wp2_with fail
  go_loopw [5, 6] (fun o i wr => ∃ (k : Nat) (ao : Option Addr) (cap : Nat), i = .int .i64 (4 * index + k) ∧ k ≤ 4 ∧ o = .slice ao (kidN n level index k).length cap ∧ Own wr 78 2 ao (kidN n level index k).length cap (pk (kidN n level index k)) ∧ Grow w7 wr ∧ (∀ g ∈ blk ao, w7.heap.size ≤ g)) (fun _ i _ => (4 * index + 4 - intOf i).toNat)
  case atStart => exact ⟨0, none, 0, by simp, by omega, rfl, Own.none _ _ _, Grow.refl _, by simp [blk]⟩
  case round =>
    obtain ⟨k, ao, cap, rfl, hk4, rfl, ho, hg, hb⟩ := hrel
    have d0 := hg.cell c0
    have d1 := hg.cell c1
    by_cases hlt : k < 4
    · have hkl := kidN_len n level index k
      have hks := kidN_succ n level index k
      have hcmp : 4 * index + (k : Int) < 4 * index + 4 := by omega
      go_wp2_with fail
      refine rWidthC n (level - 1) hwf wr _ ?_
      intro w8 g8
      have f0 := g8.cell d0
      have f1 := g8.cell d1
      have ho8 := ho.grow g8
      have hg8 := hg.trans g8
      by_cases hin : 4 * index + (k : Int) < (wid n (level - 1) : Int)
      · rw [if_pos hin] at hks
        go_wp2_with (at_builtin; refine wpList_app TQ rfl rfl (ho8.grow (Grow.alloc w8 _)) (Own.made (n := 1) (heap_alloc_new w8 _) rfl (by decide) (by simp [Value.oneCell'])).sl (by omega) (by omega) ?_; intro ao' cap' w9 hown _ hkeep hblk)
        have hka := (Keep.alloc (blk ao) w8 _).trans hkeep
        have hgr := hg8.then hka hb
        go_roundw
        case rel =>
          refine ⟨k + 1, ao', cap', by go_num, by omega, ?_, ?_, hgr, fun g h => ?_⟩
          · rw [hks]; simp
          · rw [hks, pk_append]; simpa [pk] using hown
          · rcases hblk g h with h | h
            · exact hb g h
            · have := hg8.size; simp at h; omega
        case measure => simp [intOf]; omega
      · have hst := kidN_stop (n := n) (level := level) (index := index) (k := k) (by omega) (4 - k)
        rw [Nat.add_sub_cancel' hk4] at hst
        rw [hst] at hR
        go_wp2
        exact hR _ _ _ ho8 (g7.trans hg8) (fun g h => by have := hb g h; omega)
    · obtain rfl : k = 4 := by omega
      go_wp2
      exact hR _ _ _ ho (g7.trans hg) (fun g h => by have := hb g h; omega)
end Go.Proofs.Ytfmnkcmicbnfdaa

namespace Go.Proofs.Ytfmnkcmicbnfdaa
open Go Go.RowKit

def wayN (f k : Nat) : List Pl := (List.range k).map fun j => (((j : Nat) : Int), ((f / 4 ^ j : Nat) : Int))
theorem wayN_succ (f k : Nat) : wayN f (k + 1) = wayN f k ++ [((k : Int), ((f / 4 ^ k : Nat) : Int))] := by simp [wayN, List.range_succ]
theorem wayN_len (f k : Nat) : (wayN f k).length = k := by simp [wayN]
def way (n leaf : Int) : List Pl := if leaf < 0 ∨ (wid n 0 : Int) ≤ leaf then [] else wayN leaf.toNat (wide n).length

set_option maxRecDepth 100000 in
set_option maxHeartbeats 1000000 in
theorem wayC (n leaf : Int) (hwf : (Lit.int .i64 n).wf = true) (w : World) (R : Ending → World → Prop)
    (hR : ∀ ao cap w', Own w' 76 2 ao (way n leaf).length cap (pk (way n leaf)) → Grow w w' → Fr (blk ao) w → R (.returned (.slice ao (way n leaf).length cap)) w') :
    Calls Try.prog 69 #[.int .i64 n, .int .i64 leaf] w R := by
  by_cases h0 : leaf < 0
  · have e : way n leaf = [] := by unfold way; rw [if_pos (.inl h0)]
    rw [e] at hR
    go_enter Try.func69, Try.ntmps69
    go_wp2
    exact hR _ _ _ (Own.none _ _ _) (Grow.refl _) (by simp [Fr, blk])
  have hd0 : decide (leaf < 0) = false := by simp; omega
  by_cases h1 : (wid n 0 : Int) ≤ leaf
  · have e : way n leaf = [] := by unfold way; rw [if_pos (.inr h1)]
    rw [e] at hR
    go_enter Try.func69, Try.ntmps69
    go_wp2_with fail
    refine widthC n 0 hwf w _ ?_
    intro w8 g8
    go_wp2
    exact hR _ _ _ (Own.none _ _ _) g8 (by simp [Fr, blk])
  have hd1 : decide ((wid n 0 : Int) ≤ leaf) = false := by simp; omega
  have e : way n leaf = wayN leaf.toNat (wide n).length := by unfold way; rw [if_neg (by omega)]
  rw [e, wayN_len] at hR
  clear e
  have hml : maxLen = 9223372036854775807 := rfl
  have hw0 := wid_le n 0
  have hwl := wide_len n
  obtain ⟨f, rfl⟩ : ∃ f : Nat, leaf = f := ⟨leaf.toNat, by omega⟩
  simp only [Int.toNat_natCast] at hR
  go_enter Try.func69, Try.ntmps69
  go_wp2_with fail
  refine widthC n 0 hwf w _ ?_
  intro w8 g8
  go_wp2_with fail
  refine levelsC n hwf _ _ ?_
  intro w7 g7
  have o8 := heap_alloc_new w8 (.cells #[.int .i64 0, .int .i64 f] 76 (0, 0))
  have o7 := g7.block o8
  have z8 := g8.size
  have z7 := g7.size
  have gw7 := (g8.trans (Grow.alloc w8 _)).trans g7
  go_wp2_with fail
  go_loopw [4, 18] (fun o i wr => ∃ (k : Nat) (ao : Option Addr) (cap : Nat), i = .int .i64 k ∧ k ≤ (wide n).length ∧ o = .slice ao k cap ∧ Own wr 76 2 ao k cap (pk (wayN f k)) ∧ wr.heap[w8.heap.size]? = some (.cells #[.int .i64 k, .int .i64 ((f / 4 ^ k : Nat) : Int)] 76 (0, 0)) ∧ Keep [w8.heap.size] w7 wr ∧ (∀ g ∈ blk ao, w7.heap.size ≤ g)) (fun _ i _ => (wide n).length - (intOf i).toNat)
  case atStart => exact ⟨0, none, 0, rfl, Nat.zero_le _, rfl, Own.none _ _ _, by simpa using o7, Keep.refl _ _, by simp [blk]⟩
  case round =>
    obtain ⟨k, ao, cap, rfl, hk, rfl, ho, hp, hg, hb⟩ := hrel
    by_cases hlt : k < (wide n).length
    · have hfk : f / 4 ^ k ≤ f := Nat.div_le_self _ _
      have hfs : f / 4 ^ (k + 1) = f / 4 ^ k / 4 := by rw [Nat.pow_succ, Nat.div_div_eq_div_mul]
      have hws := wayN_succ f k
      obtain ⟨d, hd⟩ : ∃ d, d = f / 4 ^ k := ⟨_, rfl⟩
      rw [← hd] at hp hfk hfs hws
      clear hd
      have c0 := obj_cell hp 0 rfl
      have c1 := obj_cell hp 1 rfl
      have hps : w8.heap.size < w7.heap.size := by simp at z7; omega
      have hpb : w8.heap.size ∉ blk ao := fun h => by have := hb _ h; omega
      have hgs := hg.size
      go_wp2_with (at_builtin; refine wpList_app TP rfl rfl (ho.grow (Grow.alloc wr _)) (Own.made (n := 1) (heap_alloc_new wr _) rfl (by decide) (by simp [Value.oneCell'])).sl (by omega) (by omega) ?_; intro ao' cap' w9 hown _ hkeep hblk; have hka := (Keep.alloc (blk ao) wr _).trans hkeep; have h9 := hka.obj hp hpb; have d0 := obj_cell h9 0 rfl; have d1 := obj_cell h9 1 rfl)
      refine upC k d (by omega) (by omega) w9 _ ?_
      intro w10 g10
      have h10 := g10.block h9
      have e0 := obj_cell h10 0 rfl
      have e1 := obj_cell h10 1 rfl
      have y0 := obj_free h10 0
      have y1 := obj_free h10 1
      have hs10 := obj_set (obj_set h10 0 (.int .i64 ((k + 1 : Nat) : Int))) 1 (.int .i64 ((d / 4 : Nat) : Int))
      have k10 : Keep [w8.heap.size] w10 ((w10.setCell ⟨w8.heap.size, 0, none⟩ (.int .i64 ((k + 1 : Nat) : Int))).setCell ⟨w8.heap.size, 1, none⟩ (.int .i64 ((d / 4 : Nat) : Int))) := (Keep.setCell w10 ⟨w8.heap.size, 0, none⟩ (by simp) _).trans (Keep.setCell _ ⟨w8.heap.size, 1, none⟩ (by simp) _)
      go_wp2_with fail
      have hz : wr.heap.size ≤ (wr.alloc (.cells #[] 3)).heap.size := by simp
      have hpb' : w8.heap.size ∉ blk ao' := fun h => by
        rcases hblk _ h with h | h
        · exact hpb h
        · simp at h; omega
      have hb' : ∀ g ∈ blk ao', w7.heap.size ≤ g := fun g h => by
        rcases hblk g h with h | h
        · exact hb g h
        · simp at h; omega
      have hk79 : Keep [w8.heap.size] w7 w9 := hg.trans' hka (fun i hi => .inr (hb i hi))
      rw [show ((k : Int) + 1) = ((k + 1 : Nat) : Int) by omega, show ((d : Int) / 4) = ((d / 4 : Nat) : Int) by omega]
      refine ⟨⟨k + 1, ao', cap', rfl, by omega, rfl, ?_, ?_, hk79.trans ((Keep.of_grow _ g10).trans k10), hb'⟩, by simp [intOf]; omega⟩
      · rw [hws, pk_append]
        have := (hown.grow g10).keep k10 (fun g hg hm => by simp at hm; subst hm; exact hpb' hg)
        simpa [pk] using this
      · rw [hfs]
        simpa using hs10
    · obtain rfl : k = (wide n).length := by omega
      go_wp2
      exact hR _ _ _ ho (gw7.then hg (fun g h => by have := List.mem_singleton.1 h; omega)) (fun g h => by have := hb g h; have := gw7.size; omega)
end Go.Proofs.Ytfmnkcmicbnfdaa

namespace Go.Proofs.Ytfmnkcmicbnfdaa
open Go Go.RowKit

theorem TPP : ST Try.prog 128 130 1 24 := ST.mk' (z := .slice none 0 0) Try.underlying128 (by kernel_rfl) rfl (by decide)

/-- Slices of places, in none of the blocks av. -/
def RowsOf (w : World) (av : List Nat) : List Value → List (List Pl) → Prop
  | [], [] => True
  | v :: vs, l :: ls => (∃ ao c, v = .slice ao l.length c ∧ Sl w 2 ao l.length c (pk l) ∧ ∀ g ∈ blk ao, g < w.heap.size ∧ g ∉ av) ∧ RowsOf w av vs ls
  | _, _ => False
theorem RowsOf.keep {w w' : World} {av fp : List Nat} (k : Keep fp w w') (hf : ∀ g ∈ fp, g ∈ av) : ∀ {vs : List Value} {ls : List (List Pl)}, RowsOf w av vs ls → RowsOf w' av vs ls
  | [], [], _ => trivial
  | _ :: _, _ :: _, ⟨⟨ao, c, e, s, hb⟩, h⟩ => ⟨⟨ao, c, e, s.keep k fun g hg hm => (hb g hg).2 (hf g hm), fun g hg => ⟨Nat.lt_of_lt_of_le (hb g hg).1 k.size, (hb g hg).2⟩⟩, RowsOf.keep k hf h⟩
  | [], _ :: _, h => h.elim
  | _ :: _, [], h => h.elim
theorem RowsOf.grow {w w' : World} {av : List Nat} (g : Grow w w') {vs : List Value} {ls : List (List Pl)} (h : RowsOf w av vs ls) : RowsOf w' av vs ls := RowsOf.keep (Keep.of_grow [] g) (by simp) h
theorem RowsOf.other {w : World} {av av' : List Nat} (ha : ∀ g ∈ av', g ∈ av ∨ w.heap.size ≤ g) : ∀ {vs : List Value} {ls : List (List Pl)}, RowsOf w av vs ls → RowsOf w av' vs ls
  | [], [], _ => trivial
  | _ :: _, _ :: _, ⟨⟨ao, c, e, s, hb⟩, h⟩ => ⟨⟨ao, c, e, s, fun g hg => ⟨(hb g hg).1, fun hm => by
      rcases ha g hm with h | h
      · exact (hb g hg).2 h
      · have := (hb g hg).1; omega⟩⟩, RowsOf.other ha h⟩
  | [], _ :: _, h => h.elim
  | _ :: _, [], h => h.elim
theorem RowsOf.snoc {w : World} {av : List Nat} {ao : Option Addr} {c : Nat} {l : List Pl} (s : Sl w 2 ao l.length c (pk l)) (hb : ∀ g ∈ blk ao, g < w.heap.size ∧ g ∉ av) : ∀ {vs : List Value} {ls : List (List Pl)}, RowsOf w av vs ls → RowsOf w av (vs ++ [.slice ao l.length c]) (ls ++ [l])
  | [], [], _ => ⟨⟨ao, c, rfl, s, hb⟩, trivial⟩
  | _ :: _, _ :: _, ⟨h1, h⟩ => ⟨h1, RowsOf.snoc s hb h⟩
  | [], _ :: _, h => h.elim
  | _ :: _, [], h => h.elim

def besideN (n : Int) (f k : Nat) : List (List Pl) := (List.range k).map fun (i : Nat) => kids n ((i + 1 : Nat) : Int) ((f / 4 ^ i / 4 : Nat) : Int)
theorem besideN_succ (n : Int) (f k : Nat) : besideN n f (k + 1) = besideN n f k ++ [kids n ((k + 1 : Nat) : Int) ((f / 4 ^ k / 4 : Nat) : Int)] := by simp [besideN, List.range_succ]
theorem besideN_len (n : Int) (f k : Nat) : (besideN n f k).length = k := by simp [besideN]
def beside (n leaf : Int) : List (List Pl) := if leaf < 0 ∨ (wid n 0 : Int) ≤ leaf then [] else besideN n leaf.toNat ((wide n).length - 1)

set_option maxRecDepth 100000 in
set_option maxHeartbeats 1000000 in
theorem besideC (n leaf : Int) (hwf : (Lit.int .i64 n).wf = true) (w : World) (R : Ending → World → Prop)
    (hR : ∀ ao cap vs w', Own w' 130 1 ao (beside n leaf).length cap vs → RowsOf w' (blk ao) vs (beside n leaf) → Grow w w' → R (.returned (.slice ao (beside n leaf).length cap)) w') :
    Calls Try.prog 68 #[.int .i64 n, .int .i64 leaf] w R := by
  by_cases hv : leaf < 0 ∨ (wid n 0 : Int) ≤ leaf
  · have e : way n leaf = [] := by unfold way; rw [if_pos hv]
    have e2 : beside n leaf = [] := by unfold beside; rw [if_pos hv]
    rw [e2] at hR
    clear hv
    go_enter Try.func68, Try.ntmps68
    go_wp2_with fail
    refine wayC n leaf hwf w _ ?_
    rw [e]
    intro ao cap w1 ho hg hf
    go_wp2
    refine wp_loop_rounds 1 ?_; rw [rounds_succ]
    go_wp2
    exact hR _ _ _ _ (Own.none _ _ _) trivial hg
  have e : way n leaf = wayN leaf.toNat (wide n).length := by unfold way; rw [if_neg hv]
  have e2 : beside n leaf = besideN n leaf.toNat ((wide n).length - 1) := by unfold beside; rw [if_neg hv]
  rw [e2, besideN_len] at hR
  have hw0 := wid_le n 0
  have hwl := wide_len n
  obtain ⟨f, rfl⟩ : ∃ f : Nat, leaf = f := ⟨leaf.toNat, by omega⟩
  simp only [Int.toNat_natCast] at hR e
  have hL : 0 < (wide n).length := by
    rcases Nat.eq_zero_or_pos (wide n).length with h | h
    · have : wid n 0 = 0 := by
        unfold wid
        rw [if_neg (by omega), List.getD_eq_getElem?_getD, List.getElem?_eq_none (by rw [h]; exact Nat.zero_le _)]
        rfl
      omega
    · exact h
  have hf0 : f < wid n 0 := by omega
  clear hv e2
  have hml : maxLen = 9223372036854775807 := rfl
  go_enter Try.func68, Try.ntmps68
  go_wp2_with fail
  refine wayC n f hwf w _ ?_
  rw [e]
  intro po pc w1 ho hg hf
  have hps := ho.sl
  rw [wayN_len] at hps ⊢
  clear ho
  go_wp2_with fail
  go_loopw [4, 11] (fun o i wr => ∃ (k m : Nat) (ao : Option Addr) (cap : Nat) (vs : List Value), i = .int .i64 k ∧ k ≤ (wide n).length ∧ m ≤ k ∧ (k < (wide n).length → m = k) ∧ (k = (wide n).length → m = (wide n).length - 1) ∧ o = .slice ao m cap ∧ Own wr 130 1 ao m cap vs ∧ RowsOf wr (blk ao) vs (besideN n f m) ∧ Grow w1 wr ∧ (∀ g ∈ blk ao, w1.heap.size ≤ g)) (fun _ i _ => (wide n).length - (intOf i).toNat)
  case atStart => exact ⟨0, 0, none, 0, [], rfl, Nat.zero_le _, Nat.le_refl _, fun _ => rfl, fun h => by omega, rfl, Own.none _ _ _, trivial, Grow.refl _, by simp [blk]⟩
  case round =>
    obtain ⟨k, m, ao, cap, vs, rfl, hk, hm, hm1, hm2, rfl, ho, hrows, hgr, hb⟩ := hrel
    by_cases hlt : k < (wide n).length
    · obtain ⟨g, off, epo, hc⟩ := (hps.grow hgr).hat (by omega)
      subst epo
      obtain rfl := hm1 hlt
      have hpl := Sl.place hc m (by rw [wayN_len]; omega)
      have hel : (wayN f (wide n).length)[m]'(by rw [wayN_len]; omega) = ((m : Int), ((f / 4 ^ m : Nat) : Int)) := by simp [wayN]
      rw [hel] at hpl
      have hbs := besideN_succ n f m
      have hfk : f / 4 ^ m ≤ f := Nat.div_le_self _ _
      obtain ⟨d, hd⟩ : ∃ d, d = f / 4 ^ m := ⟨_, rfl⟩
      rw [← hd] at hpl hbs hfk
      clear hd hel
      have c0 := hpl 0 (by simp)
      have c1 := hpl 1 (by simp)
      simp only [List.getElem_cons_zero, List.getElem_cons_succ, Nat.add_zero] at c0 c1
      clear hpl hc
      go_wp2_with fail
      have o0 := heap_alloc_new wr (.cells #[.int .i64 m, .int .i64 d] 76 (0, 0))
      have m0 := KW.cell (fp := []) (p0 := tt) (obj_cell o0 0 rfl) (by simp)
      refine wp_region_R (segK [] (wr.alloc (.cells #[.int .i64 m, .int .i64 d] 76 (0, 0))) [3] (fun _ _ v w => vIs (.int .i64 (wide n).length) v w) (fun _ _ _ _ _ k h => vIs.st k h)) (by kernel_rfl) segK_drew ?_
      unfold segK segR
      repeat (first | (refine wpV_skp rfl rfl ?_; simp only [List.set_cons_succ, List.set_cons_zero]) | (refine wpV_look rfl rfl rfl rfl rfl (fun K hK => ?_); go_big_quiet_op; refine hK _ ?_; clear hK K))
      refine wpV_mk rfl rfl rfl [] rfl (fun _ w7 hC _ => yields_call (by kernel_rfl) ?_) (fun _ v w7 hC hV _ => ?_)
      · obtain ⟨⟨w7, hk, -⟩, rfl⟩ := hC
        refine levelsC n hwf w7 _ ?_
        intro w8 g8
        exact ⟨_, rfl, ⟨Keep.of_grow [] g8, trivial⟩, rfl⟩
      obtain rfl : v = _ := hV
      clear hC
      simp only [List.set_cons_succ, List.set_cons_zero]
      repeat (first | (refine wpV_skp rfl rfl ?_; simp only [List.set_cons_succ, List.set_cons_zero]) | (refine wpV_look rfl rfl rfl rfl rfl (fun K hK => ?_); go_big_quiet_op; refine hK _ ?_; clear hK K))
      refine wpV_nil ?_
      intro w7 hC _
      obtain ⟨⟨w7, hk7, -⟩, rfl⟩ := hC
      have o7 := hk7.obj o0 (by simp)
      have g7 := (Grow.alloc wr (.cells #[.int .i64 m, .int .i64 d] 76 (0, 0))).trans hk7.grow
      have d0 := obj_cell o7 0 rfl
      have d1 := obj_cell o7 1 rfl
      have ho7 := ho.grow g7
      have hr7 := hrows.grow g7
      have hg7 := hgr.trans g7
      clear m0 c0 c1 hk7 ho hrows
      by_cases hin : m < (wide n).length - 1
      · go_wp2_with fail
        refine upC m d (by omega) (by omega) w7 _ ?_
        intro w8 g8
        go_wp2_with fail
        refine kidsC n ((m + 1 : Nat) : Int) ((d / 4 : Nat) : Int) hwf w8 _ ?_
        intro ka kc w9 hko hkg hkf
        have g79 := g8.trans hkg
        have ho9 := ho7.grow g79
        have hr9 := hr7.grow g79
        have hg9 := hg7.trans g79
        have hks := hko.sl
        go_wp2_with (at_builtin; refine wpList_app TPP rfl rfl (ho9.grow (Grow.alloc w9 _)) (Own.made (n := 1) (heap_alloc_new w9 _) rfl (by decide) (by simp [Value.oneCell'])).sl (by omega) (by omega) ?_; intro ao' cap' w10 hown _ hkeep hblk)
        have hka := (Keep.alloc (blk ao) w9 _).trans hkeep
        have hkd : ∀ g ∈ blk ka, g < w9.heap.size ∧ g ∉ blk ao := fun g hg => ⟨hko.lt g hg, fun hm => by have := hkf g hg; have := ho7.lt g hm; have := g8.size; omega⟩
        have hav : ∀ g ∈ blk ao', g ∈ blk ao ∨ w9.heap.size ≤ g := fun g h => by
          rcases hblk g h with h | h
          · exact .inl h
          · simp at h; exact .inr (by omega)
        have hr10 := RowsOf.other (av' := blk ao ++ blk ao') (fun g h => by
          rcases List.mem_append.1 h with h | h
          · exact .inl h
          · exact hav g h) (RowsOf.snoc hks hkd hr9)
        have hr11 := RowsOf.other (av' := blk ao') (fun g h => .inl (List.mem_append.2 (.inr h))) (RowsOf.keep hka (fun g hg => List.mem_append.2 (.inl hg)) hr10)
        rw [← hbs] at hr11
        have hgr10 := hg9.then hka hb
        go_roundw
        case rel => exact ⟨m + 1, m + 1, ao', cap', _, by go_num, by omega, by omega, fun h => by omega, fun h => by omega, rfl, hown, hr11, hgr10, fun g h => by
          rcases hav g h with h | h
          · exact hb g h
          · have := hg9.size; omega⟩
        case measure => simp [intOf]; omega
      · go_wp2_with fail
        go_roundw
        case rel => exact ⟨m + 1, m, ao, cap, vs, by go_num, by omega, by omega, fun h => by omega, fun h => by omega, rfl, ho7, hr7, hg7, hb⟩
        case measure => simp [intOf]; omega
    · obtain rfl : k = (wide n).length := by omega
      obtain rfl := hm2 rfl
      go_wp2
      exact hR _ _ _ _ ho hrows (hg.trans hgr)
end Go.Proofs.Ytfmnkcmicbnfdaa

namespace Go.Proofs.Ytfmnkcmicbnfdaa
open Go Go.RowKit

set_option maxRecDepth 100000 in
set_option maxHeartbeats 1000000 in
theorem rWayC (n leaf : Int) (hwf : (Lit.int .i64 n).wf = true) (w : World) (R : Ending → World → Prop)
    (hR : ∀ ao cap w', Own w' 78 2 ao (way n leaf).length cap (pk (way n leaf)) → Grow w w' → Fr (blk ao) w → R (.returned (.slice ao (way n leaf).length cap)) w') :
    Calls Try.prog 74 #[.int .i64 n, .int .i64 leaf] w R := by
  by_cases h0 : leaf < 0
  · have e : way n leaf = [] := by unfold way; rw [if_pos (.inl h0)]
    rw [e] at hR
    go_enter Try.func74, Try.ntmps74
    go_wp2
    exact hR _ _ _ (Own.none _ _ _) (Grow.refl _) (by simp [Fr, blk])
  have hd0 : decide (leaf < 0) = false := by simp; omega
  by_cases h1 : (wid n 0 : Int) ≤ leaf
  · have e : way n leaf = [] := by unfold way; rw [if_pos (.inr h1)]
    rw [e] at hR
    go_enter Try.func74, Try.ntmps74
    go_wp2_with fail
    refine rWidthC n 0 hwf w _ ?_
    intro w8 g8
    go_wp2
    exact hR _ _ _ (Own.none _ _ _) g8 (by simp [Fr, blk])
  have hd1 : decide ((wid n 0 : Int) ≤ leaf) = false := by simp; omega
  have e : way n leaf = wayN leaf.toNat (wide n).length := by unfold way; rw [if_neg (by omega)]
  rw [e, wayN_len] at hR
  clear e
  have hml : maxLen = 9223372036854775807 := rfl
  have hw0 := wid_le n 0
  have hwl := wide_len n
  obtain ⟨f, rfl⟩ : ∃ f : Nat, leaf = f := ⟨leaf.toNat, by omega⟩
  simp only [Int.toNat_natCast] at hR
  go_enter Try.func74, Try.ntmps74
  go_wp2_with fail
  refine rWidthC n 0 hwf w _ ?_
  intro w7 g7
  go_wp2_with fail
  go_loopw [1, 5, 6] (fun lf o i wr => ∃ (k d : Nat) (ao : Option Addr) (cap : Nat), lf = .int .i64 d ∧ d = f / 4 ^ k ∧ i = .int .i64 k ∧ k ≤ (wide n).length ∧ o = .slice ao k cap ∧ Own wr 78 2 ao k cap (pk (wayN f k)) ∧ Grow w7 wr ∧ (∀ g ∈ blk ao, w7.heap.size ≤ g)) (fun _ _ i _ => (wide n).length - (intOf i).toNat)
  case atStart => exact ⟨0, f, none, 0, rfl, by simp, rfl, Nat.zero_le _, rfl, Own.none _ _ _, Grow.refl _, by simp [blk]⟩
  case round =>
    obtain ⟨k, d, ao, cap, rfl, hd, rfl, hk, rfl, ho, hg, hb⟩ := hrel
    have hfk : f / 4 ^ k ≤ f := Nat.div_le_self _ _
    have hfs : f / 4 ^ (k + 1) = f / 4 ^ k / 4 := by rw [Nat.pow_succ, Nat.div_div_eq_div_mul]
    have hws := wayN_succ f k
    rw [← hd] at hfk hfs hws
    clear hd
    by_cases hlt : k < (wide n).length
    · go_wp2_with fail
      refine rWidthsC n hwf wr _ ?_
      intro xo xc w8 _ g8
      have ho8 := ho.grow g8
      have hg8 := hg.trans g8
      go_wp2_with (at_builtin; refine wpList_app TQ rfl rfl (ho8.grow (Grow.alloc w8 _)) (Own.made (n := 1) (heap_alloc_new w8 _) rfl (by decide) (by simp [Value.oneCell'])).sl (by omega) (by omega) ?_; intro ao' cap' w9 hown _ hkeep hblk)
      have hka := (Keep.alloc (blk ao) w8 _).trans hkeep
      have hgr := hg8.then hka hb
      go_roundw
      case rel =>
        refine ⟨.int .i64 ((d : Int) / 4), .slice ao' (k + 1) cap', .int .i64 ((k : Int) + 1), ⟨k + 1, d / 4, by simp, hfs.symm, by simp, by omega, ao', cap', rfl, ?_, hgr, fun g h => ?_⟩, rfl, rfl, rfl⟩
        · rw [hws, pk_append]; simpa [pk] using hown
        · rcases hblk g h with h | h
          · exact hb g h
          · have := hg8.size; simp at h; omega
      case measure => simp [intOf]; omega
    · obtain rfl : k = (wide n).length := by omega
      go_wp2_with fail
      refine rWidthsC n hwf wr _ ?_
      intro xo xc w8 _ g8
      go_wp2
      exact hR _ _ _ (ho.grow g8) ((g7.trans hg).trans g8) (fun g h => by have := hb g h; have := g7.size; omega)

theorem TQQ : ST Try.prog 134 136 1 24 := ST.mk' (z := .slice none 0 0) Try.underlying134 (by kernel_rfl) rfl (by decide)

set_option maxRecDepth 100000 in
set_option maxHeartbeats 1000000 in
theorem rBesideC (n leaf : Int) (hwf : (Lit.int .i64 n).wf = true) (w : World) (R : Ending → World → Prop)
    (hR : ∀ ao cap vs w', Own w' 136 1 ao (beside n leaf).length cap vs → RowsOf w' (blk ao) vs (beside n leaf) → Grow w w' → R (.returned (.slice ao (beside n leaf).length cap)) w') :
    Calls Try.prog 73 #[.int .i64 n, .int .i64 leaf] w R := by
  by_cases hv : leaf < 0 ∨ (wid n 0 : Int) ≤ leaf
  · have e : way n leaf = [] := by unfold way; rw [if_pos hv]
    have e2 : beside n leaf = [] := by unfold beside; rw [if_pos hv]
    rw [e2] at hR
    clear hv
    go_enter Try.func73, Try.ntmps73
    go_wp2_with fail
    refine rWayC n leaf hwf w _ ?_
    rw [e]
    intro ao cap w1 ho hg hf
    go_wp2
    refine wp_loop_rounds 1 ?_; rw [rounds_succ]
    go_wp2
    exact hR _ _ _ _ (Own.none _ _ _) trivial hg
  have e : way n leaf = wayN leaf.toNat (wide n).length := by unfold way; rw [if_neg hv]
  have e2 : beside n leaf = besideN n leaf.toNat ((wide n).length - 1) := by unfold beside; rw [if_neg hv]
  rw [e2, besideN_len] at hR
  have hw0 := wid_le n 0
  have hwl := wide_len n
  obtain ⟨f, rfl⟩ : ∃ f : Nat, leaf = f := ⟨leaf.toNat, by omega⟩
  simp only [Int.toNat_natCast] at hR e
  have hL : 0 < (wide n).length := by
    rcases Nat.eq_zero_or_pos (wide n).length with h | h
    · have : wid n 0 = 0 := by
        unfold wid
        rw [if_neg (by omega), List.getD_eq_getElem?_getD, List.getElem?_eq_none (by rw [h]; exact Nat.zero_le _)]
        rfl
      omega
    · exact h
  have hf0 : f < wid n 0 := by omega
  clear hv e2
  have hml : maxLen = 9223372036854775807 := rfl
  go_enter Try.func73, Try.ntmps73
  go_wp2_with fail
  refine rWayC n f hwf w _ ?_
  rw [e]
  intro po pc w1 ho hg hf
  have hps := ho.sl
  rw [wayN_len] at hps ⊢
  clear ho
  go_wp2_with fail
  go_loopw [6, 7] (fun o i wr => ∃ (k : Nat) (ao : Option Addr) (cap : Nat) (vs : List Value), i = .int .i64 ((k + 1 : Nat) : Int) ∧ k + 1 ≤ (wide n).length ∧ o = .slice ao k cap ∧ Own wr 136 1 ao k cap vs ∧ RowsOf wr (blk ao) vs (besideN n f k) ∧ Grow w1 wr ∧ (∀ g ∈ blk ao, w1.heap.size ≤ g)) (fun _ i _ => (wide n).length - (intOf i).toNat)
  case atStart => exact ⟨0, none, 0, [], rfl, by omega, rfl, Own.none _ _ _, trivial, Grow.refl _, by simp [blk]⟩
  case round =>
    obtain ⟨m, ao, cap, vs, rfl, hk, rfl, ho, hrows, hgr, hb⟩ := hrel
    by_cases hlt : m + 1 < (wide n).length
    · obtain ⟨g, off, epo, hc⟩ := (hps.grow hgr).hat (by omega)
      subst epo
      have hpl := Sl.place hc (m + 1) (by rw [wayN_len]; omega)
      have hel : (wayN f (wide n).length)[m + 1]'(by rw [wayN_len]; omega) = (((m + 1 : Nat) : Int), ((f / 4 ^ m / 4 : Nat) : Int)) := by
        have h3 : f / 4 ^ (m + 1) = f / 4 ^ m / 4 := by rw [Nat.pow_succ, Nat.div_div_eq_div_mul]
        simp only [wayN, List.getElem_map, List.getElem_range, h3]
      rw [hel] at hpl
      have hbs := besideN_succ n f m
      obtain ⟨d, hd⟩ : ∃ d, d = f / 4 ^ m / 4 := ⟨_, rfl⟩
      rw [← hd] at hpl hbs
      clear hd hel
      have c0 := hpl 0 (by simp)
      have c1 := hpl 1 (by simp)
      simp only [List.getElem_cons_zero, List.getElem_cons_succ, Nat.add_zero] at c0 c1
      clear hpl hc
      go_wp2_with fail
      refine rKidsC n ((m + 1 : Nat) : Int) (d : Int) hwf wr _ ?_
      intro ka kc w9 hko hkg hkf
      have ho9 := ho.grow hkg
      have hr9 := hrows.grow hkg
      have hg9 := hgr.trans hkg
      have hks := hko.sl
      go_wp2_with (at_builtin; refine wpList_app TQQ rfl rfl (ho9.grow (Grow.alloc w9 _)) (Own.made (n := 1) (heap_alloc_new w9 _) rfl (by decide) (by simp [Value.oneCell'])).sl (by omega) (by omega) ?_; intro ao' cap' w10 hown _ hkeep hblk)
      have hka := (Keep.alloc (blk ao) w9 _).trans hkeep
      have hkd : ∀ g ∈ blk ka, g < w9.heap.size ∧ g ∉ blk ao := fun g hg => ⟨hko.lt g hg, fun hm => by have := hkf g hg; have := ho.lt g hm; omega⟩
      have hav : ∀ g ∈ blk ao', g ∈ blk ao ∨ w9.heap.size ≤ g := fun g h => by
        rcases hblk g h with h | h
        · exact .inl h
        · simp at h; exact .inr (by omega)
      have hr10 := RowsOf.other (av' := blk ao ++ blk ao') (fun g h => by
        rcases List.mem_append.1 h with h | h
        · exact .inl h
        · exact hav g h) (RowsOf.snoc hks hkd hr9)
      have hr11 := RowsOf.other (av' := blk ao') (fun g h => .inl (List.mem_append.2 (.inr h))) (RowsOf.keep hka (fun g hg => List.mem_append.2 (.inl hg)) hr10)
      rw [← hbs] at hr11
      have hgr10 := hg9.then hka hb
      go_roundw
      case rel => exact ⟨m + 1, ao', cap', _, by go_num, by omega, rfl, hown, hr11, hgr10, fun g h => by
        rcases hav g h with h | h
        · exact hb g h
        · have := hg9.size; omega⟩
      case measure => simp [intOf]; omega
    · have hm : (wide n).length - 1 = m := by omega
      rw [hm] at hR
      go_wp2
      exact hR _ _ _ _ ho hrows (hg.trans hgr)
end Go.Proofs.Ytfmnkcmicbnfdaa

namespace Go.Proofs.Ytfmnkcmicbnfdaa
open Go Go.RowKit

end Go.Proofs.Ytfmnkcmicbnfdaa

namespace Go.Proofs.Ytfmnkcmicbnfdaa
open Go Go.RowKit
theorem neqPl (a b c d : Int) (w : World) : (binOp .neq 78 (.agg #[.int .i64 a, .int .i64 b]) (.agg #[.int .i64 c, .int .i64 d])).run Try.prog w = .ok (.bool (decide (¬ (a = c ∧ b = d)))) w := by
  by_cases h1 : a = c
  · by_cases h2 : b = d
    · subst h1 h2; go_simp
    · subst h1; go_simp
  · go_simp

end Go.Proofs.Ytfmnkcmicbnfdaa

namespace Go.Proofs.Ytfmnkcmicbnfdaa
open Go Go.RowKit
theorem wide5 : wide 5 = [5, 2, 1] := by
  have : wide 5 = wl 5 := by unfold wide; rw [if_neg (by omega)]; rfl
  rw [this, wl_more (by omega), wl_more (by omega), wl_one (by omega)]
theorem wide1 : wide 1 = [1] := by
  have : wide 1 = wl 1 := by unfold wide; rw [if_neg (by omega)]; rfl
  rw [this, wl_one (by omega)]
theorem wide0 : wide 0 = [] := by unfold wide; rw [if_pos (by omega)]
theorem wid50 : wid 5 0 = 5 := by unfold wid; rw [wide5]; rfl
theorem wid51 : wid 5 1 = 2 := by unfold wid; rw [wide5]; rfl
theorem wid53 : wid 5 3 = 0 := by unfold wid; rw [wide5]; rfl
theorem wid52 : wid 5 2 = 1 := by unfold wid; rw [wide5]; rfl
theorem way54 : way 5 4 = [(0, 4), (1, 1), (2, 0)] := by unfold way; rw [wid50, wide5]; rfl
theorem kids511 : kids 5 1 1 = [(0, 4)] := by unfold kids kidN; rw [wid51, show (1 : Int) - 1 = 0 by omega, wid50]; rfl
theorem beside50 : beside 5 0 = [[(0, 0), (0, 1), (0, 2), (0, 3)], [(1, 0), (1, 1)]] := by
  unfold beside
  rw [wid50, wide5]
  have e1 : kids 5 1 0 = [(0, 0), (0, 1), (0, 2), (0, 3)] := by unfold kids kidN; rw [wid51, show (1 : Int) - 1 = 0 by omega, wid50]; rfl
  have e2 : kids 5 2 0 = [(1, 0), (1, 1)] := by unfold kids kidN; rw [wid52, show (2 : Int) - 1 = 1 by omega, wid51]; rfl
  show [kids 5 1 0, kids 5 2 0] = _
  rw [e1, e2]

end Go.Proofs.Ytfmnkcmicbnfdaa

namespace Go.Proofs.Ytfmnkcmicbnfdaa
open Go Go.RowKit

theorem rows_len {w : World} {av : List Nat} : ∀ {vs : List Value} {ls : List (List Pl)}, RowsOf w av vs ls → vs.length = ls.length
  | [], [], _ => rfl
  | _ :: _, _ :: _, ⟨_, h⟩ => by simp [rows_len h]
  | [], _ :: _, h => h.elim
  | _ :: _, [], h => h.elim
theorem rows_at {w : World} {av : List Nat} : ∀ {vs : List Value} {ls : List (List Pl)}, RowsOf w av vs ls → ∀ i (h : i < ls.length), ∃ ao c, vs[i]? = some (.slice ao ls[i].length c) ∧ Sl w 2 ao ls[i].length c (pk ls[i])
  | [], [], _, i, h => by simp at h
  | _ :: _, _ :: _, ⟨⟨ao, c, e, s, _⟩, h⟩, i, hi => by
    cases i with
    | zero => exact ⟨ao, c, by simp [e], s⟩
    | succ i => simpa using rows_at h i (by simpa using hi)
  | [], _ :: _, h, _, _ => h.elim
  | _ :: _, [], h, _, _ => h.elim

/-- As many levels as it takes. -/
theorem lw_reach (n : Nat) (h1 : 1 ≤ n) : ∃ k, (wl n).length = k + 1 ∧ n ≤ 4 ^ k ∧ ∀ j, j < k → 4 ^ j < n := by
  induction n using Nat.strongRecOn with
  | ind n ih =>
    by_cases h : n ≤ 1
    · exact ⟨0, by rw [wl_one h]; rfl, by simpa using h, by omega⟩
    · obtain ⟨k, hk, h2, h3⟩ := ih ((n + 3) / 4) (by omega) (by omega)
      refine ⟨k + 1, by rw [wl_more h]; simp [hk], by rw [Nat.pow_succ]; omega, fun j hj => ?_⟩
      cases j with
      | zero => simp; omega
      | succ j =>
        have := h3 j (by omega)
        rw [Nat.pow_succ]; omega
/-- How wide level 'i' is. -/
def lw (n i : Nat) : Nat := (wl n).getD i 0
theorem lw_zero (n : Nat) : lw n 0 = n := by
  unfold lw
  by_cases h : n ≤ 1
  · rw [wl_one h]; rfl
  · rw [wl_more h]; rfl
theorem lw_next (n i : Nat) (h : i + 1 < (wl n).length) : lw n (i + 1) = (lw n i + 3) / 4 := by
  induction i generalizing n with
  | zero =>
    by_cases h1 : n ≤ 1
    · rw [wl_one h1] at h; simp at h
    · have := lw_zero ((n + 3) / 4)
      rw [lw_zero]
      unfold lw at this ⊢
      rw [wl_more h1]
      simpa using this
  | succ i ih =>
    by_cases h1 : n ≤ 1
    · rw [wl_one h1] at h; simp at h
    · have := ih ((n + 3) / 4) (by rw [wl_more h1] at h; simpa using h)
      unfold lw at this ⊢
      rw [wl_more h1]
      simpa using this
theorem lw_last (n : Nat) (h1 : 1 ≤ n) : lw n ((wl n).length - 1) = 1 := by
  induction n using Nat.strongRecOn with
  | ind n ih =>
    by_cases h : n ≤ 1
    · unfold lw; rw [wl_one h]; simp; omega
    · have := ih ((n + 3) / 4) (by omega) (by omega)
      have hp : 0 < (wl ((n + 3) / 4)).length := by
        by_cases h2 : (n + 3) / 4 ≤ 1
        · rw [wl_one h2]; simp
        · rw [wl_more h2]; simp
      unfold lw at this ⊢
      rw [wl_more h]
      obtain ⟨k, hk⟩ : ∃ k, (wl ((n + 3) / 4)).length = k + 1 := ⟨_, (Nat.sub_add_cancel hp).symm⟩
      rw [hk] at this
      rw [List.length_cons, hk]
      simpa using this
theorem lw_pos (n : Nat) (h1 : 1 ≤ n) : ∀ i, i < (wl n).length → 1 ≤ lw n i := by
  intro i
  induction i with
  | zero => intro _; rw [lw_zero]; exact h1
  | succ i ih => intro h; rw [lw_next n i h]; have := ih (by omega); omega
theorem lw_le (n i : Nat) : lw n i ≤ n := by
  unfold lw
  rw [List.getD_eq_getElem?_getD]
  by_cases h : i < (wl n).length
  · rw [List.getElem?_eq_getElem h]; exact wl_le n _ (List.getElem_mem h)
  · rw [List.getElem?_eq_none (by omega)]; exact Nat.zero_le _
theorem wid_lw (m l : Nat) (h1 : 1 ≤ m) (h2 : m ≤ 65536) : wid m l = lw m l := by
  unfold wid lw wide
  rw [if_neg (by omega), if_neg (by omega)]
  rfl
theorem filter_lt (a b : Int) (n : Nat) : ((List.range n).filter fun (j : Nat) => decide (a + j < b)) = List.range (min n (b - a).toNat) := by
  induction n with
  | zero => simp
  | succ n ih =>
    rw [List.range_succ, List.filter_append, ih]
    by_cases h : a + n < b
    · rw [show min n (b - a).toNat = n by omega, show min (n + 1) (b - a).toNat = n + 1 by omega, List.range_succ]
      simp [h]
    · rw [show min n (b - a).toNat = min (n + 1) (b - a).toNat by omega]
      simp [h]
theorem kids_eq (m l i : Nat) (h1 : 1 ≤ m) (h2 : m ≤ 65536) (hi : i < lw m (l + 1)) :
    kids m ((l + 1 : Nat) : Int) i = (List.range (min 4 (lw m l - 4 * i))).map fun (j : Nat) => ((l : Int), ((4 * i + j : Nat) : Int)) := by
  have e1 : wid m ((l + 1 : Nat) : Int) = lw m (l + 1) := wid_lw m (l + 1) h1 h2
  have e2 : wid m (((l + 1 : Nat) : Int) - 1) = lw m l := by rw [show ((l + 1 : Nat) : Int) - 1 = (l : Nat) by omega]; exact wid_lw m l h1 h2
  unfold kids kidN
  rw [if_neg (by rw [e1]; omega), e2, filter_lt, show ((lw m l : Int) - 4 * (i : Int)).toNat = lw m l - 4 * i by omega]
  refine List.map_congr_left fun j _ => ?_
  simp only [Prod.mk.injEq]
  omega
/-- The place of a leaf's way on level 'j'. -/
theorem way_at (m leaf : Nat) (h1 : 1 ≤ m) (h2 : m ≤ 65536) (hl : leaf < m) : way m leaf = wayN leaf (wl m).length := by
  unfold way
  rw [if_neg (by rw [show (0 : Int) = ((0 : Nat) : Int) from rfl, wid_lw m 0 h1 h2, lw_zero]; omega)]
  unfold wide
  rw [if_neg (by omega)]
  rfl
theorem beside_at (m leaf : Nat) (h1 : 1 ≤ m) (h2 : m ≤ 65536) (hl : leaf < m) : beside m leaf = besideN m leaf ((wl m).length - 1) := by
  unfold beside
  rw [if_neg (by rw [show (0 : Int) = ((0 : Nat) : Int) from rfl, wid_lw m 0 h1 h2, lw_zero]; omega)]
  unfold wide
  rw [if_neg (by omega)]
  rfl
/-- A leaf's way stays in the tree. -/
theorem way_in (m leaf : Nat) (hl : leaf < m) : ∀ j, j < (wl m).length → leaf / 4 ^ j < lw m j := by
  intro j
  induction j with
  | zero => intro _; rw [lw_zero]; simpa using hl
  | succ j ih =>
    intro h
    rw [lw_next m j h, Nat.pow_succ, ← Nat.div_div_eq_div_mul]
    have := ih (by omega)
    omega
end Go.Proofs.Ytfmnkcmicbnfdaa
