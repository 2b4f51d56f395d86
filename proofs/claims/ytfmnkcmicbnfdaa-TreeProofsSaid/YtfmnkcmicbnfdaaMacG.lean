/- Short, of the program and of the document; the document's Framed and Mac. -/
import Derived.Test.YtfmnkcmicbnfdaaMacF
import Derived.Test.YtfmnkcmicbnfdaaGRsL
namespace Go.Proofs.Ytfmnkcmicbnfdaa
open Go Go.RowKit

theorem shortS_len (h : List UInt8) (hl : h.length = 32) : (shortS h).length = 16 := by simp [shortS, hl]
set_option maxRecDepth 100000 in
set_option maxHeartbeats 1000000 in
theorem shortMC (h : List UInt8) (hl : h.length = 32) (w : World) (R : Ending → World → Prop) (hR : ∀ w', Grow w w' → R (.returned (.agg ((shortS h).map B).toArray)) w') :
    Calls Try.prog 63 #[.agg (h.map B).toArray] w R := by
  have hml : maxLen = 9223372036854775807 := rfl
  have i16 : (Try.prog.info? 33).map (·.size) = some 16 := by kernel_rfl
  obtain ⟨V, hV⟩ : ∃ V, V = h.map B := ⟨_, rfl⟩
  obtain ⟨V2, hV2⟩ : ∃ V, V = (shortS h).map B := ⟨_, rfl⟩
  have hVl : V.length = 32 := by rw [hV, List.length_map]; exact hl
  have hV1 : ∀ v ∈ V, v.oneCell' = true := by rw [hV]; exact B_one _
  have hVl2 : V2.length = 16 := by rw [hV2, List.length_map]; exact shortS_len h hl
  have hV21 : ∀ v ∈ V2, v.oneCell' = true := by rw [hV2]; exact B_one _
  have hVV : V2 = V.take 16 := by rw [hV2, hV, shortS, List.map_take]
  rw [← hV]
  simp only [← hV2] at hR
  clear hV hV2
  have o1 := Own.made (n := 32) (sz := 1) (heap_alloc_new w (.cells V.toArray 123)) (by simp [hVl]) (by decide) (by simpa using hV1)
  simp only [] at o1
  have ga := Grow.alloc w (.cells V.toArray 123)
  have o2 : Own ((w.alloc (.cells V.toArray 123)).alloc (.cells (List.replicate 16 (.int .u8 0)).toArray 33)) 33 1 (some ⟨w.heap.size + 1, 0, none⟩) 16 16 (List.replicate 16 (.int .u8 0)) := by
    have := own_new (t := 33) (n := 16) (w.alloc (.cells V.toArray 123)) (.int .u8 0) rfl (by omega)
    rwa [sz_al] at this
  have gb := Grow.alloc (w.alloc (.cells V.toArray 123)) (.cells (List.replicate 16 (.int .u8 0)).toArray 33)
  have o1b := o1.grow gb
  go_enter Try.func63, Try.ntmps63
  go_upto_region 1 with (fail)
  change Code.wp _ _ _ ⟨_, _⟩ ((w.alloc (.cells V.toArray 123)).alloc (.cells (List.replicate 16 (.int .u8 0)).toArray 33))
  have G := ga.trans gb
  obtain ⟨q, hq⟩ : ∃ q, q = w.heap.size := ⟨_, rfl⟩
  generalize ((w.alloc (.cells V.toArray 123)).alloc (.cells (List.replicate 16 (.int .u8 0)).toArray 33)) = w1 at *
  rw [← hq] at o1b o2 ⊢
  have Hq := Lib.hid hq
  clear hq o1 ga gb
  have hrg : w1.rangeAt q 0 V2 := fun j v hj => by
    have := own_range o1b (by omega) j v (by rw [hVV, List.getElem?_take] at hj; split at hj; exact hj; cases hj)
    exact this
  obtain ⟨r1, r3, r4⟩ := store_arr (P := Try.prog) hVl2 hV21 o2 i16
  have hth := own_there o2 V2.toArray.size (by simpa using hVl2)
  have hsz : (Try.prog.info? 33).map (·.size) = some V2.toArray.size := by rw [List.size_toArray, hVl2]; exact i16
  have hsz2 : (Try.prog.info? 33).map (·.size) = some V2.length := by rw [hVl2]; exact i16
  have hall := one_all hV21
  have hf := hR _ (G.then r4 (fun x hx => by simp at hx; have := Hq.out; omega))
  clear hR r1 r4
  have har : ∀ w', (Instr.arrayAt 33 (.slice (some ⟨q, 0, none⟩) 16 32)).run Try.prog w' = .ok (.pointer (some ⟨q, 0, none⟩)) w' := fun w' => by
    simp [Instr.arrayAt, run_underlying Try.underlying33]
  refine wp_region_lit ?_
  iterate 6 go_step
  refine wpList_load_mid rfl 33 _ rfl q 0 rfl V2 _ hrg Try.underlying33 rfl hsz2 ?_
  refine wpList_store_mid rfl 33 _ _ rfl (q + 1) 0 V2.toArray rfl rfl hth hsz hall ?_
  go_wp2_with fail
  exact bodyPost_ret (v := .agg V2.toArray) (ret_bytes Try.results63 _ _ (q + 1) V2 _ _ 16 rfl r3 (by decide) Try.underlying33 rfl i16) rfl hf


set_option maxRecDepth 100000 in
set_option maxHeartbeats 1000000 in
theorem rShort0 (p q : Nat) (V : List Value) (hVl : V.length = 32) (h1 : ∀ v ∈ V, ∃ n : Int, v = .int .u8 n) (hpq : p ≠ q) {c0 c2 c5 c6 c7 c8 c9 c10 c11 c12 c13 c14 : Value} (w : World) (o1 : Own w 123 1 (some ⟨p, 0, none⟩) 32 32 V) (o2 : Own w 33 1 (some ⟨q, 0, none⟩) 16 16 (List.replicate 16 (.int .u8 0))) {Q : Exit → Act → World → Prop}
    (hQ : ∀ (w' : World), Own w' 33 1 (some ⟨q, 0, none⟩) 16 16 (V.take 16) → Keep [q] w w' → ∀ {u4 u5 u6 u7 u8 u9 u10 u11 u12 u13 : Value}, Q .normal ⟨List.toArray (c0 :: .pointer (some ⟨p, 0, none⟩) :: c2 :: .pointer (some ⟨q, 0, none⟩) :: u4 :: u5 :: u6 :: u7 :: u8 :: u9 :: u10 :: u11 :: u12 :: u13 :: c14 :: []), []⟩ w') :
    Code.wp Try.prog (blockAt Try.f93 0) Q ⟨List.toArray (c0 :: .pointer (some ⟨p, 0, none⟩) :: c2 :: .pointer (some ⟨q, 0, none⟩) :: .int .i64 0 :: c5 :: c6 :: c7 :: c8 :: c9 :: c10 :: c11 :: c12 :: c13 :: c14 :: []), []⟩ w := by
  have hml : maxLen = 9223372036854775807 := rfl
  conv => arg 2; whnf
  refine wp_block ?_
  go_loopw [4] (fun vi wr => ∃ i : Nat, vi = .int .i64 (i : Int) ∧ i ≤ 16 ∧ Own wr 33 1 (some ⟨q, 0, none⟩) 16 16 (V.take i ++ List.replicate (16 - i) (.int .u8 0)) ∧ Keep [q] w wr) (fun vi _ => 16 - (intOf vi).toNat)
  case atStart => exact ⟨0, by simp, by omega, by simpa using o2, Keep.refl _ _⟩
  case round =>
    clear o2
    obtain ⟨i, rfl, hi, oi, ki⟩ := hrel
    by_cases hlt : i < 16
    · obtain ⟨x, hx⟩ := h1 (V[i]'(by omega)) (List.getElem_mem _)
      have hat : V[i]? = some (.int .u8 x) := by rw [List.getElem?_eq_getElem (by omega), hx]
      have c1 := (o1.keep ki (by simp [blk]; exact hpq)).rowR.cell hat
      obtain ⟨g3, v, eg, hv, hfz, hset⟩ := own_put oi (i := i) (by omega)
      cases eg
      have hn := hset (.int .u8 x) rfl
      have e : (V.take i ++ List.replicate (16 - i) (Value.int .u8 0)).set i (Value.int .u8 x) = V.take (i + 1) ++ List.replicate (16 - (i + 1)) (Value.int .u8 0) := by
        rw [List.set_append_right _ _ (by simp; omega), List.take_add_one, hat]
        obtain ⟨k, hk⟩ : ∃ k, 16 - i = k + 1 := ⟨16 - i - 1, by omega⟩
        rw [hk, show 16 - (i + 1) = k by omega, List.replicate_succ, show i - (V.take i).length = 0 by rw [List.length_take]; omega]
        simp
      rw [e] at hn
      have gn := ki.trans (Keep.setCell (fp := [q]) wr ⟨q, i, none⟩ (by simp) (.int .u8 x))
      clear hset e hat hx oi ki h1
      go_wp2_with fail
      go_roundw
      case rel => exact ⟨i + 1, by go_num, by omega, hn, gn⟩
      case measure => simp [intOf]; omega
    · obtain rfl : i = 16 := by omega
      clear o1 h1
      simp only [Nat.sub_self, List.replicate_zero, List.append_nil] at oi
      go_wp2_with fail
      exact hQ _ oi ki
set_option maxRecDepth 100000 in
set_option maxHeartbeats 1000000 in
theorem rShortC (h : List UInt8) (hl : h.length = 32) (w : World) (R : Ending → World → Prop) (hR : ∀ w', Grow w w' → R (.returned (.agg ((shortS h).map B).toArray)) w') :
    Calls Try.prog 93 #[.agg (h.map B).toArray] w R := by
  have hml : maxLen = 9223372036854775807 := rfl
  have i16 : (Try.prog.info? 33).map (·.size) = some 16 := by kernel_rfl
  obtain ⟨V, hV⟩ : ∃ V, V = h.map B := ⟨_, rfl⟩
  obtain ⟨V2, hV2⟩ : ∃ V, V = (shortS h).map B := ⟨_, rfl⟩
  have hVl : V.length = 32 := by rw [hV, List.length_map]; exact hl
  have hVn : ∀ v ∈ V, ∃ n : Int, v = .int .u8 n := by
    rw [hV]; intro v hv; obtain ⟨b, -, rfl⟩ := List.mem_map.1 hv; exact ⟨_, rfl⟩
  have hV1 : ∀ v ∈ V, v.oneCell' = true := by rw [hV]; exact B_one _
  have hVl2 : V2.length = 16 := by rw [hV2, List.length_map]; exact shortS_len h hl
  have hV21 : ∀ v ∈ V2, v.oneCell' = true := by rw [hV2]; exact B_one _
  have hVV : V.take 16 = V2 := by rw [hV2, hV, shortS, List.map_take]
  rw [← hV]
  simp only [← hV2] at hR
  clear hV hV2
  have o1 := Own.made (n := 32) (sz := 1) (heap_alloc_new w (.cells V.toArray 123)) (by simp [hVl]) (by decide) (by simpa using hV1)
  simp only [] at o1
  have ga := Grow.alloc w (.cells V.toArray 123)
  obtain ⟨wa, hwa⟩ : ∃ wa, wa = w.alloc (.cells V.toArray 123) := ⟨_, rfl⟩
  rw [← hwa] at o1 ga
  have o2 := own_new (t := 33) (n := 16) wa (.int .u8 0) rfl (by omega)
  have gb := Grow.alloc wa (.cells (List.replicate 16 (.int .u8 0)).toArray 33)
  obtain ⟨wb, hwb⟩ : ∃ wb, wb = wa.alloc (.cells (List.replicate 16 (.int .u8 0)).toArray 33) := ⟨_, rfl⟩
  rw [← hwb] at o2 gb
  have o3 := own_new (t := 33) (n := 16) wb (.int .u8 0) rfl (by omega)
  have gc := Grow.alloc wb (.cells (List.replicate 16 (.int .u8 0)).toArray 33)
  obtain ⟨wc, hwc⟩ : ∃ wc, wc = wb.alloc (.cells (List.replicate 16 (.int .u8 0)).toArray 33) := ⟨_, rfl⟩
  rw [← hwc] at o3 gc
  have s1 : wa.heap.size = w.heap.size + 1 := by rw [hwa]; simp
  have s2 : wb.heap.size = w.heap.size + 2 := by rw [hwb]; simp; omega
  have s3 : wc.heap.size = w.heap.size + 3 := by rw [hwc]; simp; omega
  rw [s1] at o2
  rw [s2] at o3
  have o1c := (o1.grow gb).grow gc
  have o2c := o2.grow gc
  have G := (ga.trans gb).trans gc
  have hall : wc = ((w.alloc (.cells V.toArray 123)).alloc (.cells (List.replicate 16 (.int .u8 0)).toArray 33)).alloc (.cells (List.replicate 16 (.int .u8 0)).toArray 33) := by rw [hwc, hwb, hwa]
  clear hwa hwb hwc s1 s2 s3 ga gb gc o1 o2
  go_enter Try.func93, Try.ntmps93
  go_upto_block 0 with (fail)
  change Code.wp _ _ _ ⟨_, _⟩ (((w.alloc (.cells V.toArray 123)).alloc (.cells (List.replicate 16 (.int .u8 0)).toArray 33)).alloc (.cells (List.replicate 16 (.int .u8 0)).toArray 33))
  rw [← hall]
  obtain ⟨q, hq⟩ : ∃ q, q = w.heap.size := ⟨_, rfl⟩
  rw [← hq] at o1c o2c o3 ⊢
  have Hq := Lib.hid hq
  clear hq hall
  refine rShort0 q (q + 2) V hVl hVn (by omega) wc o1c o3 ?_
  intro w2 oV k2
  intros
  rw [hVV] at oV
  have o2d := o2c.keep k2 (by simp [blk])
  have g2 := G.then k2 (fun x hx => by simp at hx; have := Hq.out; omega)
  have hrg := own_range oV (by omega)
  obtain ⟨r1, r3, r4⟩ := store_arr (P := Try.prog) hVl2 hV21 o2d i16
  have hth := own_there o2d V2.toArray.size (by simpa using hVl2)
  have hsz : (Try.prog.info? 33).map (·.size) = some V2.toArray.size := by rw [List.size_toArray, hVl2]; exact i16
  have hsz2 : (Try.prog.info? 33).map (·.size) = some V2.length := by rw [hVl2]; exact i16
  have hall := one_all hV21
  have hf := hR _ (g2.then r4 (fun x hx => by simp at hx; have := Hq.out; omega))
  clear hR r1 r4 o1c o2c o3 oV o2d k2 G g2 hVn
  go_upto_region 6 with (fail)
  refine wp_region_lit ?_
  refine wpList_load_mid rfl 33 _ rfl (q + 2) 0 rfl V2 _ hrg Try.underlying33 rfl hsz2 ?_
  refine wpList_store_mid rfl 33 _ _ rfl (q + 1) 0 V2.toArray rfl rfl hth hsz hall ?_
  go_wp2_with fail
  exact bodyPost_ret (v := .agg V2.toArray) (ret_bytes Try.results93 _ _ (q + 1) V2 _ _ 16 rfl r3 (by decide) Try.underlying33 rfl i16) rfl hf
end Go.Proofs.Ytfmnkcmicbnfdaa
