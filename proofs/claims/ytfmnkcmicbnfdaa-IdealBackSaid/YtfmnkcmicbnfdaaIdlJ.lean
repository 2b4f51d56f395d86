/- The ideal cipher: Pairs, Again; none at all; what is left of its tape; a block of a text. -/
import Derived.Test.YtfmnkcmicbnfdaaIdlI
namespace Go.Proofs.Ytfmnkcmicbnfdaa
open Go Go.RowKit

set_option maxRecDepth 100000 in
theorem pairsC {w : World} {p t : Nat} {fp : List Nat} {bs : List UInt8} {s : IdS} {ks : List Kv} (h : CiS w p t fp bs s ks) (R : Ending → World → Prop) (hR : R (.returned (.int .i64 (s.cnt : Int))) w) :
    Calls Try.prog 22 #[.pointer (some ⟨p, 0, none⟩)] w R := by
  obtain ⟨P, K, wf, rb, l, h1, -, -⟩ := h
  have c := obj_cell h1.obj 3 rfl
  clear h1
  go_enter Try.func22, Try.ntmps22
  go_wp2_with fail
  exact hR
set_option maxRecDepth 100000 in
theorem againC {w : World} {p t : Nat} {fp : List Nat} {bs : List UInt8} {s : IdS} {ks : List Kv} (h : CiS w p t fp bs s ks) (R : Ending → World → Prop) (hR : R (.returned (.int .i64 (s.ag : Int))) w) :
    Calls Try.prog 25 #[.pointer (some ⟨p, 0, none⟩)] w R := by
  obtain ⟨P, K, wf, rb, l, h1, -, -⟩ := h
  have c := obj_cell h1.obj 4 rfl
  clear h1
  go_enter Try.func25, Try.ntmps25
  go_wp2_with fail
  exact hR
set_option maxRecDepth 100000 in
theorem pairsNil (w : World) (R : Ending → World → Prop) (hR : R (.returned (.int .i64 0)) w) : Calls Try.prog 22 #[.pointer none] w R := by
  go_enter Try.func22, Try.ntmps22
  go_wp2_with fail
  exact hR
theorem leftCi {w : World} {p t : Nat} {fp : List Nat} {bs : List UInt8} {s : IdS} {ks : List Kv} (h : CiS w p t fp bs s ks) (hbs : bs.length ≤ 50000) (R : Ending → World → Prop) (hR : ∀ w', Grow w w' → R (.returned (.int .i64 ((bs.length - s.a : Nat) : Int))) w') :
    Calls Try.prog 20 #[.pointer (some ⟨t, 0, none⟩)] w R := by
  obtain ⟨P, K, wf, rb, l, h1, -, -⟩ := h
  obtain ⟨T, ht, -⟩ := h1.tape
  have hl : (bs.map B).length = bs.length := List.length_map ..
  refine tapeLeft t wf rb (bs.map B) s.a T w ht (by omega) R fun w' g => ?_
  rw [hl]
  exact hR w' g
set_option maxRecDepth 100000 in
set_option maxHeartbeats 1000000 in
theorem decNil (what key : ByteArray) (unit i : Int) (y : B16) (w : World) (R : Ending → World → Prop) (hR : ∀ w', Grow w w' → R (.returned (.tuple #[ekB b16z, .int .i64 9])) w') :
    Calls Try.prog 21 #[.pointer none, .string what, .string key, .int .i64 unit, .int .i64 i, ekB y] w R := by
  have hml : maxLen = 9223372036854775807 := rfl
  have hXl : (y.b.map B).length = 16 := by rw [List.length_map]; exact y.h
  have hz1 : ∀ v ∈ zB, v.oneCell' = true := fun v hv => by rw [List.eq_of_mem_replicate hv]; rfl
  have ga := Grow.alloc w (.cells (y.b.map B).toArray 33)
  obtain ⟨wa, hwa⟩ : ∃ wa, wa = w.alloc (.cells (y.b.map B).toArray 33) := ⟨_, rfl⟩
  rw [← hwa] at ga
  have z1 : wa.heap.size = w.heap.size + 1 := by rw [hwa]; simp
  have gb := Grow.alloc wa (.cells zB.toArray 33)
  have o12 : Own (wa.alloc (.cells zB.toArray 33)) 33 1 (some ⟨wa.heap.size, 0, none⟩) 16 16 zB := Own.made (n := 16) (sz := 1) (heap_alloc_new wa _) rfl (by omega) (by simp [Value.oneCell'])
  obtain ⟨wb, hwb⟩ : ∃ wb, wb = wa.alloc (.cells zB.toArray 33) := ⟨_, rfl⟩
  rw [← hwb] at gb o12
  rw [z1] at o12
  have hall : wb = (w.alloc (.cells (y.b.map B).toArray 33)).alloc (.cells zB.toArray 33) := by rw [hwb, hwa]
  have Gb := ga.trans gb
  obtain ⟨q11, hq11⟩ : ∃ q, q = w.heap.size := ⟨_, rfl⟩
  rw [← hq11] at o12
  obtain ⟨r1, r3, r4⟩ := store_arr (P := Try.prog) (X := zB) rfl hz1 o12 i16
  have hth := own_there o12 zB.toArray.size (by decide)
  have hsz : (Try.prog.info? 33).map (·.size) = some zB.toArray.size := i16
  have hall1 := one_all hz1
  have hf := hR _ (Gb.then r4 (fun g hg => by simp at hg; omega))
  have Hq := Lib.hid hq11
  clear hwa hwb z1 ga gb hR r1 r4 o12 Gb
  go_enter Try.func21, Try.ntmps21
  go_upto_region 1 with (fail)
  change Code.wp _ _ _ ⟨_, _⟩ ((w.alloc (.cells (y.b.map B).toArray 33)).alloc (.cells zB.toArray 33))
  rw [← hall, ← hq11]
  clear hall hq11
  go_wp2_with (refine wpList_store_mid rfl 33 _ _ rfl (q11 + 1) 0 zB.toArray rfl rfl hth hsz hall1 ?_)
  exact bodyPost_ret (v := .tuple #[.agg zB.toArray, .int .i64 9]) (ret_cs Try.results21 _ _ (q11 + 1) 16 zB _ rfl rfl r3 (by decide) Try.underlying33 rfl i16) rfl hf
set_option maxRecDepth 100000 in
set_option maxHeartbeats 1000000 in
theorem blockStr (s : ByteArray) (l : List UInt8) (hl : s.data.toList = l) (hm : l.length ≤ 1000000) (w : World) (R : Ending → World → Prop) (hR : ∀ w', Grow w w' → R (.returned (ekB (b16 l))) w') :
    Calls Try.prog 26 #[.string s] w R := by
  have hml : maxLen = 9223372036854775807 := rfl
  have hVl : ((blockS l).map B).length = 16 := by rw [List.length_map]; exact blockS_len l
  have hV1 := B_one (blockS l)
  have gb := Grow.alloc w (.cells zB.toArray 33)
  have o2 : Own (w.alloc (.cells zB.toArray 33)) 33 1 (some ⟨w.heap.size, 0, none⟩) 16 16 zB := Own.made (n := 16) (sz := 1) (heap_alloc_new w _) rfl (by omega) (by simp [Value.oneCell'])
  obtain ⟨wb, hwb⟩ : ∃ wb, wb = w.alloc (.cells zB.toArray 33) := ⟨_, rfl⟩
  rw [← hwb] at gb o2
  obtain ⟨c, w2, hr, s2, g2⟩ := conv_str (P := Try.prog) (src := 9) (dst := 27) (e := 5) Try.underlying9 Try.underlying27 Try.underlying5 s l hl hm wb
  have o22 := o2.grow g2
  have hc := blockC _ c l w2 s2
  obtain ⟨q, hq⟩ : ∃ q, q = w.heap.size := ⟨_, rfl⟩
  rw [← hq] at o22
  obtain ⟨V, hV⟩ : ∃ V, V = (blockS l).map B := ⟨_, rfl⟩
  rw [← hV] at hVl hV1 hc
  have hR2 : ∀ w', Grow w w' → R (.returned (.agg V.toArray)) w' := by rw [hV]; exact hR
  obtain ⟨n, hn⟩ : ∃ n, n = l.length := ⟨_, rfl⟩
  rw [← hn] at hr hc
  have Hq := Lib.hid hq
  clear o2 s2 hV hn hR hl hm
  go_enter Try.func26, Try.ntmps26
  go_upto_region 1 with (fail)
  change Code.wp _ _ _ ⟨_, _⟩ (w.alloc (.cells zB.toArray 33))
  rw [← hwb, ← hq]
  clear hwb hq
  go_wp2_with fail
  refine hc _ ?_
  clear hc hr
  intro w3 g3
  have o23 := o22.grow g3
  obtain ⟨r1, r3, r4⟩ := store_arr (P := Try.prog) hVl hV1 o23 i16
  have hth := own_there o23 V.toArray.size (by simpa using hVl)
  have hsz : (Try.prog.info? 33).map (·.size) = some V.toArray.size := by rw [List.size_toArray, hVl]; exact i16
  have hall := one_all hV1
  have hf := hR2 _ (((gb.trans g2).trans g3).then r4 (fun g hg => by simp at hg; have := Hq.out; omega))
  clear r1 r4 o23 o22 hR2
  go_wp2_with (refine wpList_store_mid rfl 33 _ _ rfl q 0 V.toArray rfl rfl hth hsz hall ?_)
  exact bodyPost_ret (v := .agg V.toArray) (ret_bytes Try.results26 _ _ q V _ _ 16 rfl r3 (by decide) Try.underlying33 rfl i16) rfl hf
end Go.Proofs.Ytfmnkcmicbnfdaa
