/- A block of bytes, as far as they go. -/
import Derived.Test.YtfmnkcmicbnfdaaGTab
import Derived.Test.YtfmnkcmicbnfdaaGSha3
import Derived.Test.YtfmnkcmicbnfdaaWant
namespace Go.Proofs.Ytfmnkcmicbnfdaa
open Go Go.RowKit

/-- 16 bytes that begin with l. -/
def blockS (l : List UInt8) : List UInt8 := l.take 16 ++ List.replicate (16 - l.length) 0
theorem blockS_len (l : List UInt8) : (blockS l).length = 16 := by simp [blockS]; omega


set_option maxRecDepth 100000 in
set_option maxHeartbeats 1000000 in
theorem blkC0 (a0 : Option Addr) (N c0 q : Nat) (l : List UInt8) {c1 c2 c5 c6 c7 c8 c9 c10 c11 c12 c13 c14 c15 c16 c17 c18 c19 c20 c21 : Value} (hN : N = l.length) (w w2 : World) (s0 : Sl w 1 a0 N c0 (l.map B)) (g2 : Grow w w2) (hq : w.heap.size ≤ q) (o : Own w2 33 1 (some ⟨q, 0, none⟩) 16 16 (List.replicate 16 (.int .u8 0))) {Q : Exit → Act → World → Prop}
    (hQ : ∀ (w' : World), Own w' 33 1 (some ⟨q, 0, none⟩) 16 16 ((blockS l).map B) → Keep [q] w2 w' → ∀ {u4 u5 u6 u7 u8 u9 u10 u11 u12 u13 u14 u15 u16 u17 u18 u19 u20 : Value}, Q .normal ⟨List.toArray (.slice a0 N c0 :: c1 :: c2 :: .pointer (some ⟨q, 0, none⟩) :: u4 :: u5 :: u6 :: u7 :: u8 :: u9 :: u10 :: u11 :: u12 :: u13 :: u14 :: u15 :: u16 :: u17 :: u18 :: u19 :: u20 :: c21 :: []), []⟩ w') :
    Code.wp Try.prog (blockAt Try.f19 0) Q ⟨List.toArray (.slice a0 N c0 :: c1 :: c2 :: .pointer (some ⟨q, 0, none⟩) :: .int .i64 0 :: c5 :: c6 :: c7 :: c8 :: c9 :: c10 :: c11 :: c12 :: c13 :: c14 :: c15 :: c16 :: c17 :: c18 :: c19 :: c20 :: c21 :: []), []⟩ w2 := by
  have hml : maxLen = 9223372036854775807 := rfl
  have hm0 := s0.hcap
  have hn0 := s0.hle
  have HN := Lib.hid hN
  clear hN
  conv => arg 2; whnf
  refine wp_block ?_
  go_loopw [4] (fun vi wr => ∃ i : Nat, vi = .int .i64 (i : Int) ∧ i ≤ 16 ∧ i ≤ N ∧ Own wr 33 1 (some ⟨q, 0, none⟩) 16 16 ((l.map B).take i ++ List.replicate (16 - i) (.int .u8 0)) ∧ Keep [q] w2 wr) (fun vi _ => 16 - (intOf vi).toNat)
  case atStart => exact ⟨0, by simp, by omega, by omega, by simpa using o, Keep.refl _ _⟩
  case round =>
    clear o
    obtain ⟨i, rfl, hi, hiN, oi, ki⟩ := hrel
    by_cases hlt : i < 16
    · by_cases hlN : i < N
      · have hG : Grow w wr := g2.then ki (fun x hx => by simp at hx; omega)
        obtain ⟨g1, off, eg, hcs⟩ := (s0.grow hG).hat (by omega)
        cases eg
        have hat : (l.map B)[i]? = some (B (l[i]'(by have := HN.out; omega))) := by rw [List.getElem?_map, List.getElem?_eq_getElem (by have := HN.out; omega)]; rfl
        obtain ⟨x, hx⟩ : ∃ x : UInt8, (l.map B)[i]? = some (B x) := ⟨_, hat⟩
        have c1 := hcs.at hx
        obtain ⟨g3, v, eg, hv, hfz, hset⟩ := own_put oi (i := i) (by omega)
        cases eg
        have hn := hset (B x) rfl
        have hlm : (l.map B).length = N := by rw [List.length_map]; exact HN.out.symm
        have e : ((l.map B).take i ++ List.replicate (16 - i) (Value.int .u8 0)).set i (B x) = (l.map B).take (i + 1) ++ List.replicate (16 - (i + 1)) (Value.int .u8 0) := by
          have hil : (List.take i (l.map B)).length = i := by rw [List.length_take, hlm]; omega
          rw [List.set_append_right _ _ (by rw [hil]; exact Nat.le_refl _), List.take_add_one, hx]
          obtain ⟨k, hk⟩ : ∃ k, 16 - i = k + 1 := ⟨16 - i - 1, by omega⟩
          rw [hk, show 16 - (i + 1) = k by omega, List.replicate_succ, hil]
          simp
        rw [e] at hn
        have gn := ki.trans (Keep.setCell (fp := [q]) wr ⟨q, i, none⟩ (by simp) (B x))
        simp only [B] at c1 hn gn
        clear hset e hat hx oi ki hcs hG hlm
        go_wp2_with fail
        go_roundw
        case rel => exact ⟨i + 1, by go_num, by omega, by omega, hn, gn⟩
        case measure => simp [intOf]; omega
      · obtain rfl : i = N := by omega
        have e : (l.map B).take i ++ List.replicate (16 - i) (.int .u8 0) = (blockS l).map B := by
          have h := HN.out
          rw [List.take_of_length_le (by rw [List.length_map]; omega), blockS, List.take_of_length_le (by omega), List.map_append, List.map_replicate, h]
          rfl
        rw [e] at oi
        have hf := @hQ _ oi ki
        go_wp2_with fail
        exact hf
    · obtain rfl : i = 16 := by omega
      have e : (l.map B).take 16 ++ List.replicate (16 - 16) (.int .u8 0) = (blockS l).map B := by
        have h := HN.out
        rw [blockS, show 16 - l.length = 0 by omega, List.map_append, List.map_take]
        simp
      rw [e] at oi
      have hf := @hQ _ oi ki
      go_wp2_with fail
      exact hf

set_option maxRecDepth 100000 in
set_option maxHeartbeats 1000000 in
theorem blockC (a0 : Option Addr) (c0 : Nat) (l : List UInt8) (w : World) (s0 : Sl w 1 a0 l.length c0 (l.map B)) (R : Ending → World → Prop) (hR : ∀ w', Grow w w' → R (.returned (.agg ((blockS l).map B).toArray)) w') :
    Calls Try.prog 19 #[.slice a0 l.length c0] w R := by
  have hml : maxLen = 9223372036854775807 := rfl
  have i16 : (Try.prog.info? 33).map (·.size) = some 16 := by kernel_rfl
  obtain ⟨V2, hV2⟩ : ∃ V, V = (blockS l).map B := ⟨_, rfl⟩
  have hVl2 : V2.length = 16 := by rw [hV2, List.length_map]; exact blockS_len l
  have hV21 : ∀ v ∈ V2, v.oneCell' = true := by rw [hV2]; exact B_one _
  rw [← hV2] at hR
  obtain ⟨N, hN⟩ : ∃ N, N = l.length := ⟨_, rfl⟩
  rw [← hN] at s0 ⊢
  have o2 := own_new (t := 33) (n := 16) w (.int .u8 0) rfl (by omega)
  have gb := Grow.alloc w (.cells (List.replicate 16 (.int .u8 0)).toArray 33)
  obtain ⟨wb, hwb⟩ : ∃ wb, wb = w.alloc (.cells (List.replicate 16 (.int .u8 0)).toArray 33) := ⟨_, rfl⟩
  rw [← hwb] at o2 gb
  have o3 := own_new (t := 33) (n := 16) wb (.int .u8 0) rfl (by omega)
  have gc := Grow.alloc wb (.cells (List.replicate 16 (.int .u8 0)).toArray 33)
  obtain ⟨wc, hwc⟩ : ∃ wc, wc = wb.alloc (.cells (List.replicate 16 (.int .u8 0)).toArray 33) := ⟨_, rfl⟩
  rw [← hwc] at o3 gc
  have s2 : wb.heap.size = w.heap.size + 1 := by rw [hwb]; simp
  rw [s2] at o3
  have o2c := o2.grow gc
  have G := gb.trans gc
  have hall : wc = (w.alloc (.cells (List.replicate 16 (.int .u8 0)).toArray 33)).alloc (.cells (List.replicate 16 (.int .u8 0)).toArray 33) := by rw [hwc, hwb]
  clear hwb hwc s2 gb gc o2
  go_enter Try.func19, Try.ntmps19
  go_upto_block 0 with (fail)
  change Code.wp _ _ _ ⟨_, _⟩ ((w.alloc (.cells (List.replicate 16 (.int .u8 0)).toArray 33)).alloc (.cells (List.replicate 16 (.int .u8 0)).toArray 33))
  rw [← hall]
  obtain ⟨q, hq⟩ : ∃ q, q = w.heap.size := ⟨_, rfl⟩
  rw [← hq] at o2c o3 ⊢
  have Hq := Lib.hid hq
  clear hall
  refine blkC0 a0 N c0 (q + 1) l hN w wc s0 G (by omega) o3 ?_
  clear hq
  intro w2 oV k2
  intros
  rw [← hV2] at oV
  have o2d := o2c.keep k2 (by simp [blk])
  have g2 := G.then k2 (fun x hx => by simp at hx; have := Hq.out; omega)
  have hrg := own_range oV (by omega)
  obtain ⟨r1, r3, r4⟩ := store_arr (P := Try.prog) hVl2 hV21 o2d i16
  have hth := own_there o2d V2.toArray.size (by simpa using hVl2)
  have hsz : (Try.prog.info? 33).map (·.size) = some V2.toArray.size := by rw [List.size_toArray, hVl2]; exact i16
  have hsz2 : (Try.prog.info? 33).map (·.size) = some V2.length := by rw [hVl2]; exact i16
  have hall := one_all hV21
  have hf := hR _ (g2.then r4 (fun x hx => by simp at hx; have := Hq.out; omega))
  clear hR r1 r4 o2c o3 oV o2d k2 G g2
  go_upto_region 6 with (fail)
  refine wp_region_lit ?_
  refine wpList_load_mid rfl 33 _ rfl (q + 1) 0 rfl V2 _ hrg Try.underlying33 rfl hsz2 ?_
  refine wpList_store_mid rfl 33 _ _ rfl q 0 V2.toArray rfl rfl hth hsz hall ?_
  go_wp2_with fail
  exact bodyPost_ret (v := .agg V2.toArray) (ret_bytes Try.results19 _ _ q V2 _ _ 16 rfl r3 (by decide) Try.underlying33 rfl i16) rfl hf
end Go.Proofs.Ytfmnkcmicbnfdaa
