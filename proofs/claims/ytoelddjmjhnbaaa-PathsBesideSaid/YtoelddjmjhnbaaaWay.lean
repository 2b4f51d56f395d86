/- paths: the way from a leaf. -/
import Derived.Test.YtoelddjmjhnbaaaKids
namespace Go.Proofs.Ytoelddjmjhnbaaa
open Go Go.RowKit

def wayN (f k : Nat) : List Pl := (List.range k).map fun j => (((j : Nat) : Int), ((f / 4 ^ j : Nat) : Int))
theorem wayN_succ (f k : Nat) : wayN f (k + 1) = wayN f k ++ [((k : Int), ((f / 4 ^ k : Nat) : Int))] := by simp [wayN, List.range_succ]
theorem wayN_len (f k : Nat) : (wayN f k).length = k := by simp [wayN]
def way (n leaf : Int) : List Pl := if leaf < 0 ∨ (wid n 0 : Int) ≤ leaf then [] else wayN leaf.toNat (wide n).length

set_option maxRecDepth 100000 in
set_option maxHeartbeats 1000000 in
theorem wayC (n leaf : Int) (hwf : (Lit.int .i64 n).wf = true) (w : World) (R : Ending → World → Prop)
    (hR : ∀ ao cap w', Own w' 54 2 ao (way n leaf).length cap (pk (way n leaf)) → Grow w w' → Fr (blk ao) w → R (.returned (.slice ao (way n leaf).length cap)) w') :
    Calls Try.prog 33 #[.int .i64 n, .int .i64 leaf] w R := by
  by_cases h0 : leaf < 0
  · have e : way n leaf = [] := by unfold way; rw [if_pos (.inl h0)]
    rw [e] at hR
    go_enter Try.func33, Try.ntmps33
    go_wp2
    exact hR _ _ _ (Own.none _ _ _) (Grow.refl _) (by simp [Fr, blk])
  have hd0 : decide (leaf < 0) = false := by simp; omega
  by_cases h1 : (wid n 0 : Int) ≤ leaf
  · have e : way n leaf = [] := by unfold way; rw [if_pos (.inr h1)]
    rw [e] at hR
    go_enter Try.func33, Try.ntmps33
    go_wp2_with fail
    refine widthC n 0 hwf w _ ?_
    intro w8 g8
    go_wp2
    exact hR _ _ _ (Own.none _ _ _) g8 (by simp [Fr, blk])
  have hd1 : decide ((wid n 0 : Int) ≤ leaf) = false := by simp; omega
  have e : way n leaf = wayN leaf.toNat (wide n).length := by unfold way; rw [if_neg (by omega)]
  rw [e, wayN_len] at hR
  clear e
  have hml : maxLen = 9223372036854775807 := rfl
  have hw0 := wid_le n 0
  have hwl := wide_len n
  obtain ⟨f, rfl⟩ : ∃ f : Nat, leaf = f := ⟨leaf.toNat, by omega⟩
  simp only [Int.toNat_natCast] at hR
  go_enter Try.func33, Try.ntmps33
  go_wp2_with fail
  refine widthC n 0 hwf w _ ?_
  intro w8 g8
  go_wp2_with fail
  refine levelsC n hwf _ _ ?_
  intro w7 g7
  have o8 := heap_alloc_new w8 (.cells #[.int .i64 0, .int .i64 f] 54 (0, 0))
  have o7 := g7.block o8
  have z8 := g8.size
  have z7 := g7.size
  have gw7 := (g8.trans (Grow.alloc w8 _)).trans g7
  go_wp2_with fail
  go_loopw [4, 18] (fun o i wr => ∃ (k : Nat) (ao : Option Addr) (cap : Nat), i = .int .i64 k ∧ k ≤ (wide n).length ∧ o = .slice ao k cap ∧ Own wr 54 2 ao k cap (pk (wayN f k)) ∧ wr.heap[w8.heap.size]? = some (.cells #[.int .i64 k, .int .i64 ((f / 4 ^ k : Nat) : Int)] 54 (0, 0)) ∧ Keep [w8.heap.size] w7 wr ∧ (∀ g ∈ blk ao, w7.heap.size ≤ g)) (fun _ i _ => (wide n).length - (intOf i).toNat)
  case atStart => exact ⟨0, none, 0, rfl, Nat.zero_le _, rfl, Own.none _ _ _, by simpa using o7, Keep.refl _ _, by simp [blk]⟩
  case round =>
    obtain ⟨k, ao, cap, rfl, hk, rfl, ho, hp, hg, hb⟩ := hrel
    by_cases hlt : k < (wide n).length
    · have hfk : f / 4 ^ k ≤ f := Nat.div_le_self _ _
      have hfs : f / 4 ^ (k + 1) = f / 4 ^ k / 4 := by rw [Nat.pow_succ, Nat.div_div_eq_div_mul]
      have hws := wayN_succ f k
      obtain ⟨d, hd⟩ : ∃ d, d = f / 4 ^ k := ⟨_, rfl⟩
      rw [← hd] at hp hfk hfs hws
      clear hd
      have c0 := obj_cell hp 0 rfl
      have c1 := obj_cell hp 1 rfl
      have hps : w8.heap.size < w7.heap.size := by simp at z7; omega
      have hpb : w8.heap.size ∉ blk ao := fun h => by have := hb _ h; omega
      have hgs := hg.size
      go_wp2_with (at_builtin; refine wpList_app TP rfl rfl (ho.grow (Grow.alloc wr _)) (Own.made (n := 1) (heap_alloc_new wr _) rfl (by decide) (by simp [Value.oneCell'])).sl (by omega) (by omega) ?_; intro ao' cap' w9 hown _ hkeep hblk; have hka := (Keep.alloc (blk ao) wr _).trans hkeep; have h9 := hka.obj hp hpb; have d0 := obj_cell h9 0 rfl; have d1 := obj_cell h9 1 rfl)
      refine upC k d (by omega) (by omega) w9 _ ?_
      intro w10 g10
      have h10 := g10.block h9
      have e0 := obj_cell h10 0 rfl
      have e1 := obj_cell h10 1 rfl
      have y0 := obj_free h10 0
      have y1 := obj_free h10 1
      have hs10 := obj_set (obj_set h10 0 (.int .i64 ((k + 1 : Nat) : Int))) 1 (.int .i64 ((d / 4 : Nat) : Int))
      have k10 : Keep [w8.heap.size] w10 ((w10.setCell ⟨w8.heap.size, 0, none⟩ (.int .i64 ((k + 1 : Nat) : Int))).setCell ⟨w8.heap.size, 1, none⟩ (.int .i64 ((d / 4 : Nat) : Int))) := (Keep.setCell w10 ⟨w8.heap.size, 0, none⟩ (by simp) _).trans (Keep.setCell _ ⟨w8.heap.size, 1, none⟩ (by simp) _)
      go_wp2_with fail
      have hz : wr.heap.size ≤ (wr.alloc (.cells #[] 3)).heap.size := by simp
      have hpb' : w8.heap.size ∉ blk ao' := fun h => by
        rcases hblk _ h with h | h
        · exact hpb h
        · simp at h; omega
      have hb' : ∀ g ∈ blk ao', w7.heap.size ≤ g := fun g h => by
        rcases hblk g h with h | h
        · exact hb g h
        · simp at h; omega
      have hk79 : Keep [w8.heap.size] w7 w9 := hg.trans' hka (fun i hi => .inr (hb i hi))
      rw [show ((k : Int) + 1) = ((k + 1 : Nat) : Int) by omega, show ((d : Int) / 4) = ((d / 4 : Nat) : Int) by omega]
      refine ⟨⟨k + 1, ao', cap', rfl, by omega, rfl, ?_, ?_, hk79.trans ((Keep.of_grow _ g10).trans k10), hb'⟩, by simp [intOf]; omega⟩
      · rw [hws, pk_append]
        have := (hown.grow g10).keep k10 (fun g hg hm => by simp at hm; subst hm; exact hpb' hg)
        simpa [pk] using this
      · rw [hfs]
        simpa using hs10
    · obtain rfl : k = (wide n).length := by omega
      go_wp2
      exact hR _ _ _ ho (gw7.then hg (fun g h => by have := List.mem_singleton.1 h; omega)) (fun g h => by have := hb g h; have := gw7.size; omega)
end Go.Proofs.Ytoelddjmjhnbaaa
