/- slices.Clone of bytes and of marks. -/
import Derived.Test.YtgchbcopbkoomaaRp25
namespace Go.Proofs.Ytgchbcopbkoomaa
open Go Go.RowKit

theorem TBoo : ST Try.prog 36 4 1 1 := ST.mk' (z := .bool false) Try.underlying36 (by kernel_rfl) rfl (by decide)
theorem TByt : ST Try.prog 33 5 1 1 := ST.mk' (z := .int .u8 0) Try.underlying33 (by kernel_rfl) rfl (by decide)
theorem TIn : ST Try.prog 29 3 1 8 := ST.mk' (z := .int .i64 0) Try.underlying29 (by kernel_rfl) rfl (by decide)
set_option maxRecDepth 100000 in
theorem cloneBo (ao : Option Addr) (n c : Nat) (vs : List Value) (w : World) (s : Sl w 1 ao n c vs) (hn : n ≤ 1000000) (R : Ending → World → Prop)
    (hR : ∀ ao' c' w', Own w' 4 1 ao' n c' vs → Grow w w' → Fr (blk ao') w → R (.returned (.slice ao' n c')) w') :
    Calls Try.prog 17 #[.slice ao n c] w R := by
  have hml : maxLen = 9223372036854775807 := rfl
  have heq := fun w => Lib.run_eql_slice_nil (P := Try.prog) w 36 4 ao n c 0 0 Try.underlying36
  cases ao with
  | none =>
    have hc := s.hnil rfl
    have hle := s.hle
    obtain rfl : n = 0 := by omega
    subst hc
    obtain rfl : vs = [] := List.eq_nil_of_length_eq_zero (by simpa using s.hlen)
    have hf := hR none 0 w (Own.none _ _ _) (Grow.refl _) (by simp [blk, Fr])
    go_enter Try.func17, Try.ntmps17
    go_wp2_with fail
    exact hf
  | some a =>
    have o0 : Own (w.alloc (.cells #[] 4)) 4 1 (some ⟨w.heap.size, 0, none⟩) 0 0 [] := Own.made (n := 0) (heap_alloc_new w _) rfl (by decide) (by simp)
    obtain ⟨ao', cap', w', hr, own1, g1, blk1⟩ := run_app0 TBoo (w.alloc (.cells #[] 4)) 36 o0 (s.grow (Grow.alloc w _)) (by omega) (by omega)
    have hf := hR ao' cap' w' own1 ((Grow.alloc w _).trans g1) (fun g hg => by
      rcases blk1 g hg with h | h
      · simp [blk] at h; omega
      · rw [sz_al] at h; omega)
    clear hR o0 own1 g1 blk1
    go_enter Try.func17, Try.ntmps17
    go_wp2_with (at_builtin; refine wpList_appendR rfl rfl hr ?_)
    exact hf
set_option maxRecDepth 100000 in
theorem cloneBy (ao : Option Addr) (n c : Nat) (vs : List Value) (w : World) (s : Sl w 1 ao n c vs) (hn : n ≤ 1000000) (R : Ending → World → Prop)
    (hR : ∀ ao' c' w', Own w' 5 1 ao' n c' vs → Grow w w' → Fr (blk ao') w → R (.returned (.slice ao' n c')) w') :
    Calls Try.prog 18 #[.slice ao n c] w R := by
  have hml : maxLen = 9223372036854775807 := rfl
  have heq := fun w => Lib.run_eql_slice_nil (P := Try.prog) w 33 5 ao n c 0 0 Try.underlying33
  cases ao with
  | none =>
    have hc := s.hnil rfl
    have hle := s.hle
    obtain rfl : n = 0 := by omega
    subst hc
    obtain rfl : vs = [] := List.eq_nil_of_length_eq_zero (by simpa using s.hlen)
    have hf := hR none 0 w (Own.none _ _ _) (Grow.refl _) (by simp [blk, Fr])
    go_enter Try.func18, Try.ntmps18
    go_wp2_with fail
    exact hf
  | some a =>
    have o0 : Own (w.alloc (.cells #[] 5)) 5 1 (some ⟨w.heap.size, 0, none⟩) 0 0 [] := Own.made (n := 0) (heap_alloc_new w _) rfl (by decide) (by simp)
    obtain ⟨ao', cap', w', hr, own1, g1, blk1⟩ := run_app0 TByt (w.alloc (.cells #[] 5)) 33 o0 (s.grow (Grow.alloc w _)) (by omega) (by omega)
    have hf := hR ao' cap' w' own1 ((Grow.alloc w _).trans g1) (fun g hg => by
      rcases blk1 g hg with h | h
      · simp [blk] at h; omega
      · rw [sz_al] at h; omega)
    clear hR o0 own1 g1 blk1
    go_enter Try.func18, Try.ntmps18
    go_wp2_with (at_builtin; refine wpList_appendR rfl rfl hr ?_)
    exact hf
end Go.Proofs.Ytgchbcopbkoomaa
