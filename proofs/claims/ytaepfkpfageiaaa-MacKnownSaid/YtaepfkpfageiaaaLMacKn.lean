/- The walk of MacKnown. -/
import Derived.Test.YtaepfkpfageiaaaMacAw
import Derived.Test.YtaepfkpfageiaaaTabE
import Derived.Test.YtaepfkpfageiaaaRound
namespace Go.Proofs.Ytaepfkpfageiaaa
open Go Go.RowKit

theorem fill_next (n i : Nat) (hi : i < n) (x : Value) : (List.replicate i x ++ List.replicate (n - i) (Value.int .u8 0)).set i x = List.replicate (i + 1) x ++ List.replicate (n - (i + 1)) (Value.int .u8 0) := by
  rw [List.set_append_right _ _ (by simp)]
  obtain ⟨k, hk⟩ : ∃ k, n - i = k + 1 := ⟨n - i - 1, by omega⟩
  rw [hk, show n - (i + 1) = k by omega, List.replicate_succ, List.length_replicate, Nat.sub_self, List.set_cons_zero, List.replicate_succ' (n := i)]
  simp


set_option maxRecDepth 100000 in
set_option maxHeartbeats 1000000 in
theorem kn0L (q : Nat) {c0 c1 c2 c5 c6 c7 c8 c9 c10 c11 c12 c13 c14 c15 c16 c17 c18 c19 c20 c21 c22 c23 c24 c25 c26 c27 c28 c29 c30 c31 c32 c33 c34 c35 c36 c37 c38 c39 c40 c41 c42 c43 c44 c45 c46 c47 c48 c49 c50 c51 c52 c53 c54 c55 c56 c57 c58 c59 c60 : Value} (w : World) (o : Own w 5 1 (some ⟨q, 0, none⟩) 131 131 (List.replicate 131 (.int .u8 0))) {Q : Exit → Act → World → Prop}
    (hQ : ∀ w' : World, Own w' 5 1 (some ⟨q, 0, none⟩) 131 131 (List.replicate 131 (.int .u8 170)) → Keep [q] w w' → ∀ {u4 u12 u13 u14 u15 u16 u17 u18 : Value}, Q .normal ⟨List.toArray (c0 :: c1 :: c2 :: .slice (some ⟨q, 0, none⟩) 131 131 :: u4 :: c5 :: c6 :: c7 :: c8 :: c9 :: c10 :: c11 :: u12 :: u13 :: u14 :: u15 :: u16 :: u17 :: u18 :: c19 :: c20 :: c21 :: c22 :: c23 :: c24 :: c25 :: c26 :: c27 :: c28 :: c29 :: c30 :: c31 :: c32 :: c33 :: c34 :: c35 :: c36 :: c37 :: c38 :: c39 :: c40 :: c41 :: c42 :: c43 :: c44 :: c45 :: c46 :: c47 :: c48 :: c49 :: c50 :: c51 :: c52 :: c53 :: c54 :: c55 :: c56 :: c57 :: c58 :: c59 :: c60 :: []), []⟩ w') :
    Code.wp Try.prog (blockAt Try.f8 0) Q ⟨List.toArray (c0 :: c1 :: c2 :: .slice (some ⟨q, 0, none⟩) 131 131 :: .int .i64 0 :: c5 :: c6 :: c7 :: c8 :: c9 :: c10 :: c11 :: c12 :: c13 :: c14 :: c15 :: c16 :: c17 :: c18 :: c19 :: c20 :: c21 :: c22 :: c23 :: c24 :: c25 :: c26 :: c27 :: c28 :: c29 :: c30 :: c31 :: c32 :: c33 :: c34 :: c35 :: c36 :: c37 :: c38 :: c39 :: c40 :: c41 :: c42 :: c43 :: c44 :: c45 :: c46 :: c47 :: c48 :: c49 :: c50 :: c51 :: c52 :: c53 :: c54 :: c55 :: c56 :: c57 :: c58 :: c59 :: c60 :: []), []⟩ w := by
  have hml : maxLen = 9223372036854775807 := rfl
  conv => arg 2; whnf
  refine wp_block ?_
  go_loopw [4] (fun vi wr => ∃ i : Nat, vi = .int .i64 (i : Int) ∧ i ≤ 131 ∧ Own wr 5 1 (some ⟨q, 0, none⟩) 131 131 (List.replicate i (.int .u8 170) ++ List.replicate (131 - i) (.int .u8 0)) ∧ Keep [q] w wr) (fun vi _ => 131 - (intOf vi).toNat)
  case atStart => exact ⟨0, by simp, by omega, by rw [List.replicate_zero, List.nil_append]; exact o, Keep.refl _ _⟩
  case round =>
    clear o
    obtain ⟨i, rfl, hi, oi, ki⟩ := hrel
    by_cases hlt : i < 131
    · obtain ⟨g3, v, eg, hv, hfz, hset⟩ := own_put oi (i := i) (by omega)
      cases eg
      have hn := hset (.int .u8 170) rfl
      rw [fill_next 131 i hlt] at hn
      have gn := ki.trans (Keep.setCell (fp := [q]) wr ⟨q, i, none⟩ (by simp) (.int .u8 170))
      clear hset oi ki hQ
      go_wp2_with fail
      exact ⟨⟨i + 1, by go_num, by omega, hn, gn⟩, by simp [intOf]; omega⟩
    · obtain rfl : i = 131 := by omega
      rw [Nat.sub_self, List.replicate_zero, List.append_nil] at oi
      go_wp2_with fail
      exact hQ _ oi ki


set_option maxRecDepth 100000 in
set_option maxHeartbeats 1000000 in
theorem kn2L (q : Nat) {c0 c1 c2 c3 c4 c5 c8 c9 c10 c11 c12 c13 c14 c15 c16 c17 c18 c19 c20 c21 c22 c23 c24 c25 c26 c27 c28 c29 c30 c31 c32 c33 c34 c35 c36 c37 c38 c39 c40 c41 c42 c43 c44 c45 c46 c47 c48 c49 c50 c51 c52 c53 c54 c55 c56 c57 c58 c59 c60 : Value} (w : World) (o : Own w 5 1 (some ⟨q, 0, none⟩) 50 50 (List.replicate 50 (.int .u8 0))) {Q : Exit → Act → World → Prop}
    (hQ : ∀ w' : World, Own w' 5 1 (some ⟨q, 0, none⟩) 50 50 (List.replicate 50 (.int .u8 221)) → Keep [q] w w' → ∀ {u7 u26 u27 u28 u29 u30 u31 u32 : Value}, Q .normal ⟨List.toArray (c0 :: c1 :: c2 :: c3 :: c4 :: c5 :: .slice (some ⟨q, 0, none⟩) 50 50 :: u7 :: c8 :: c9 :: c10 :: c11 :: c12 :: c13 :: c14 :: c15 :: c16 :: c17 :: c18 :: c19 :: c20 :: c21 :: c22 :: c23 :: c24 :: c25 :: u26 :: u27 :: u28 :: u29 :: u30 :: u31 :: u32 :: c33 :: c34 :: c35 :: c36 :: c37 :: c38 :: c39 :: c40 :: c41 :: c42 :: c43 :: c44 :: c45 :: c46 :: c47 :: c48 :: c49 :: c50 :: c51 :: c52 :: c53 :: c54 :: c55 :: c56 :: c57 :: c58 :: c59 :: c60 :: []), []⟩ w') :
    Code.wp Try.prog (blockAt Try.f8 2) Q ⟨List.toArray (c0 :: c1 :: c2 :: c3 :: c4 :: c5 :: .slice (some ⟨q, 0, none⟩) 50 50 :: .int .i64 0 :: c8 :: c9 :: c10 :: c11 :: c12 :: c13 :: c14 :: c15 :: c16 :: c17 :: c18 :: c19 :: c20 :: c21 :: c22 :: c23 :: c24 :: c25 :: c26 :: c27 :: c28 :: c29 :: c30 :: c31 :: c32 :: c33 :: c34 :: c35 :: c36 :: c37 :: c38 :: c39 :: c40 :: c41 :: c42 :: c43 :: c44 :: c45 :: c46 :: c47 :: c48 :: c49 :: c50 :: c51 :: c52 :: c53 :: c54 :: c55 :: c56 :: c57 :: c58 :: c59 :: c60 :: []), []⟩ w := by
  have hml : maxLen = 9223372036854775807 := rfl
  conv => arg 2; whnf
  refine wp_block ?_
  go_loopw [7] (fun vi wr => ∃ i : Nat, vi = .int .i64 (i : Int) ∧ i ≤ 50 ∧ Own wr 5 1 (some ⟨q, 0, none⟩) 50 50 (List.replicate i (.int .u8 221) ++ List.replicate (50 - i) (.int .u8 0)) ∧ Keep [q] w wr) (fun vi _ => 50 - (intOf vi).toNat)
  case atStart => exact ⟨0, by simp, by omega, by rw [List.replicate_zero, List.nil_append]; exact o, Keep.refl _ _⟩
  case round =>
    clear o
    obtain ⟨i, rfl, hi, oi, ki⟩ := hrel
    by_cases hlt : i < 50
    · obtain ⟨g3, v, eg, hv, hfz, hset⟩ := own_put oi (i := i) (by omega)
      cases eg
      have hn := hset (.int .u8 221) rfl
      rw [fill_next 50 i hlt] at hn
      have gn := ki.trans (Keep.setCell (fp := [q]) wr ⟨q, i, none⟩ (by simp) (.int .u8 221))
      clear hset oi ki hQ
      go_wp2_with fail
      exact ⟨⟨i + 1, by go_num, by omega, hn, gn⟩, by simp [intOf]; omega⟩
    · obtain rfl : i = 50 := by omega
      rw [Nat.sub_self, List.replicate_zero, List.append_nil] at oi
      go_wp2_with fail
      exact hQ _ oi ki

set_option maxRecDepth 100000 in
set_option maxHeartbeats 2000000 in
theorem macKnW (a0 : Int) (w : World) (_ : (Lit.int IntKind.i64 a0).wf = true) (R : Ending → World → Prop) (hR : ∀ w', Grow w w' → R (.returned (.bool true)) w') :
    Calls Try.prog 8 #[.int .i64 a0] w R := by
  have hml : maxLen = 9223372036854775807 := rfl
  have haw := awakeC
  have hrl := rnd_lt a0 3 (by decide)
  have hrc := roundC a0 3 (by decide) (by decide)
  obtain ⟨i, hi⟩ : ∃ i, i = rnd a0 3 := ⟨_, rfl⟩
  rw [← hi] at hrl hrc
  clear hi
  obtain ⟨Z, hZ⟩ : ∃ Z, Z = List.replicate 131 (Value.int .u8 0) := ⟨_, rfl⟩
  obtain ⟨Y, hY⟩ : ∃ Z, Z = List.replicate 50 (Value.int .u8 0) := ⟨_, rfl⟩
  have mk1 : ∀ w : World, (Instr.makeSlice 22 (.int .i64 131) (.int .i64 131)).run Try.prog w = .ok (.slice (some ⟨w.heap.size, 0, none⟩) 131 131) (w.alloc (.cells Z.toArray 5)) := by rw [hZ]; exact make_bytes 131 (by decide)
  have mk2 : ∀ w : World, (Instr.makeSlice 22 (.int .i64 50) (.int .i64 50)).run Try.prog w = .ok (.slice (some ⟨w.heap.size, 0, none⟩) 50 50) (w.alloc (.cells Y.toArray 5)) := by rw [hY]; exact make_bytes 50 (by decide)
  have o1 : Own (w.alloc (.cells Z.toArray 5)) 5 1 (some ⟨w.heap.size, 0, none⟩) 131 131 (List.replicate 131 (.int .u8 0)) := by rw [hZ]; exact own_new (t := 5) (n := 131) w (.int .u8 0) rfl (by decide)
  have o2 : ∀ w : World, Own (w.alloc (.cells Y.toArray 5)) 5 1 (some ⟨w.heap.size, 0, none⟩) 50 50 (List.replicate 50 (.int .u8 0)) := by rw [hY]; exact fun w => own_new (t := 5) (n := 50) w (.int .u8 0) rfl (by decide)
  have g1 := Grow.alloc w (.cells Z.toArray 5)
  clear hZ hY
  have kc := fun (w : World) (C : Array Value) (n c : Nat) => Lib.run_convert_bytes_const (P := Try.prog) w 22 5 C n c Try.underlying22 Try.underlying5
  have kc2 : ∀ (w : World) (o : Obj) (C : Array Value) (n c : Nat), (convert 22 22 (.slice (some ⟨w.heap.size + 1, 0, none⟩) n c)).run Try.prog ((w.alloc o).alloc (.cells C 5)) = .ok (.slice (some ⟨w.heap.size + 1, 0, none⟩) n c) ((w.alloc o).alloc (.cells C 5 (C.size, C.size + 1))) := fun w o C n c => by
    have := kc (w.alloc o) C n c
    rwa [sz_al] at this
  go_enter Try.func8, Try.ntmps8
  go_upto_block 0 with (fail)
  obtain ⟨q, hq⟩ : ∃ q, q = w.heap.size := ⟨_, rfl⟩
  generalize w.alloc (.cells Z.toArray 5) = w1 at *
  rw [← hq] at o1 ⊢
  refine kn0L q w1 o1 ?_
  intro w2 oL kL
  intros
  have G2 : Grow w w2 := g1.then kL (fun x hx => by simp at hx; omega)
  clear o1 kL g1 hq mk1
  have sL := oL.sl
  rw [show List.replicate 131 (Value.int .u8 170) = mK3.map B by rw [mK3, List.map_replicate]; rfl] at sL
  obtain ⟨so, sc, hcut, sk, -⟩ := run_cut0 TBy sL (20 : Int) 20 rfl (by omega)
  rw [Nat.mul_one, ← List.map_take, show mK3.take 20 = mK2 by rw [mK3, mK2, List.take_replicate]; rfl] at sk
  clear oL
  go_upto_region 7 with (fail)
  change Code.wp _ _ _ ⟨_, _⟩ ((w2.alloc (.cells (mK1.map B).toArray 5 (4, 5))).alloc (.cells #[.slice (some ⟨w2.heap.size, 0, none⟩) 4 4, .slice so 20 sc, .slice (some ⟨q, 0, none⟩) 131 131] 22))
  have sJ0 := sl_obj (C := mK1.map B) (alloc_new w2 (.cells (mK1.map B).toArray 5 (4, 5))) 4 rfl (by omega) (B_one _)
  have gA := Grow.alloc w2 (.cells (mK1.map B).toArray 5 (4, 5))
  have gB := Grow.alloc (w2.alloc (.cells (mK1.map B).toArray 5 (4, 5))) (.cells #[.slice (some ⟨w2.heap.size, 0, none⟩) 4 4, .slice so 20 sc, .slice (some ⟨q, 0, none⟩) 131 131] 22)
  have bK := alloc_new (w2.alloc (.cells (mK1.map B).toArray 5 (4, 5))) (.cells #[.slice (some ⟨w2.heap.size, 0, none⟩) 4 4, .slice so 20 sc, .slice (some ⟨q, 0, none⟩) 131 131] 22)
  rw [sz_al] at bK
  have gAB := gA.trans gB
  have sJ := sJ0.grow gB
  have sL3 := sL.grow gAB
  have sk3 := sk.grow gAB
  have G3 := G2.trans gAB
  clear sJ0 gA gB gAB G2 sL sk hcut
  obtain ⟨qj, hqj⟩ : ∃ q, q = w2.heap.size := ⟨_, rfl⟩
  generalize (w2.alloc (.cells (mK1.map B).toArray 5 (4, 5))).alloc (.cells #[.slice (some ⟨w2.heap.size, 0, none⟩) 4 4, .slice so 20 sc, .slice (some ⟨q, 0, none⟩) 131 131] 22) = w3 at *
  rw [← hqj] at bK sJ ⊢
  clear hqj
  have oD := o2 w3
  have gD := Grow.alloc w3 (.cells Y.toArray 5)
  go_upto_block 2 with (fail)
  obtain ⟨qd, hqd⟩ : ∃ q, q = w3.heap.size := ⟨_, rfl⟩
  generalize w3.alloc (.cells Y.toArray 5) = w4 at *
  rw [← hqd] at oD ⊢
  refine kn2L qd w4 oD ?_
  intro w5 oD5 kD
  intros
  have G5 : Grow w3 w5 := gD.then kD (fun x hx => by simp at hx; omega)
  have sD := oD5.sl
  rw [show List.replicate 50 (Value.int .u8 221) = mT2.map B by rw [mT2, List.map_replicate]; rfl] at sD
  have bK5 := G5.block bK
  have sJ5 := sJ.grow G5
  have sL5 := sL3.grow G5
  have sk5 := sk3.grow G5
  have G5' := G3.trans G5
  clear oD oD5 kD gD hqd mk2 o2 bK sJ sL3 sk3 G3 G5
  obtain ⟨sa, sb, gab⟩ := lits2 w5 mT1 mT3 28 54 rfl rfl (by decide) (by decide) (28, 29) (54, 55)
  have gC := Grow.alloc ((w5.alloc (.cells (mT1.map B).toArray 5 (28, 29))).alloc (.cells (mT3.map B).toArray 5 (54, 55))) (.cells #[.slice (some ⟨w5.heap.size, 0, none⟩) 28 28, .slice (some ⟨qd, 0, none⟩) 50 50, .slice (some ⟨w5.heap.size + 1, 0, none⟩) 54 54] 22)
  have bT := alloc_new ((w5.alloc (.cells (mT1.map B).toArray 5 (28, 29))).alloc (.cells (mT3.map B).toArray 5 (54, 55))) (.cells #[.slice (some ⟨w5.heap.size, 0, none⟩) 28 28, .slice (some ⟨qd, 0, none⟩) 50 50, .slice (some ⟨w5.heap.size + 1, 0, none⟩) 54 54] 22)
  rw [sz_al, sz_al] at bT
  go_upto_region 13 with (fail)
  change Code.wp _ _ _ ⟨_, _⟩ (((w5.alloc (.cells (mT1.map B).toArray 5 (28, 29))).alloc (.cells (mT3.map B).toArray 5 (54, 55))).alloc (.cells #[.slice (some ⟨w5.heap.size, 0, none⟩) 28 28, .slice (some ⟨qd, 0, none⟩) 50 50, .slice (some ⟨w5.heap.size + 1, 0, none⟩) 54 54] 22))
  have g6 := gab.trans gC
  have sa6 := sa.grow gC
  have sb6 := sb.grow gC
  have bK6 := g6.block bK5
  have sJ6 := sJ5.grow g6
  have sL6 := sL5.grow g6
  have sk6 := sk5.grow g6
  have sD6 := sD.grow g6
  have G6 := G5'.trans g6
  clear sa sb gab gC g6 bK5 sJ5 sL5 sk5 sD G5'
  obtain ⟨qt, hqt⟩ : ∃ q, q = w5.heap.size := ⟨_, rfl⟩
  generalize ((w5.alloc (.cells (mT1.map B).toArray 5 (28, 29))).alloc (.cells (mT3.map B).toArray 5 (54, 55))).alloc (.cells #[.slice (some ⟨w5.heap.size, 0, none⟩) 28 28, .slice (some ⟨qd, 0, none⟩) 50 50, .slice (some ⟨w5.heap.size + 1, 0, none⟩) 54 54] 22) = w6 at *
  rw [← hqt] at sa6 sb6 bT ⊢
  clear hqt
  have gW := Grow.alloc w6 (.cells #[.string ⟨mX1.toArray⟩, .string ⟨mX2.toArray⟩, .string ⟨mX3.toArray⟩] 9)
  have bW := alloc_new w6 (.cells #[.string ⟨mX1.toArray⟩, .string ⟨mX2.toArray⟩, .string ⟨mX3.toArray⟩] 9)
  go_upto_region 14 with (fail)
  change Code.wp _ _ _ ⟨_, _⟩ (w6.alloc (.cells #[.string ⟨mX1.toArray⟩, .string ⟨mX2.toArray⟩, .string ⟨mX3.toArray⟩] 9))
  have bK7 := gW.block bK6
  have bT7 := gW.block bT
  have sJ7 := sJ6.grow gW
  have sL7 := sL6.grow gW
  have sk7 := sk6.grow gW
  have sD7 := sD6.grow gW
  have sa7 := sa6.grow gW
  have sb7 := sb6.grow gW
  have G7 := G6.trans gW
  clear bK6 bT sJ6 sL6 sk6 sD6 sa6 sb6 G6 gW
  obtain ⟨qw, hqw⟩ : ∃ q, q = w6.heap.size := ⟨_, rfl⟩
  generalize w6.alloc (.cells #[.string ⟨mX1.toArray⟩, .string ⟨mX2.toArray⟩, .string ⟨mX3.toArray⟩] 9) = w7 at *
  rw [← hqw] at bW ⊢
  clear hqw
  have hall : ∃ (ko : Option Addr) (kn kc : Nat) (tto : Option Addr) (tn tc : Nat) (key text S X : List UInt8), w7.cell? ⟨qj + 1, i, none⟩ = some (.slice ko kn kc) ∧ w7.cell? ⟨qt + 1 + 1, i, none⟩ = some (.slice tto tn tc) ∧ w7.cell? ⟨qw, i, none⟩ = some (.string ⟨X.toArray⟩) ∧ Sl w7 1 ko kn kc (key.map B) ∧ Sl w7 1 tto tn tc (text.map B) ∧ key.length = kn ∧ text.length = tn ∧ macS key text = S ∧ textS S = X ∧ kn ≤ 200 ∧ tn ≤ 200 ∧ S.length = 32 := by
    have hc : i = 0 ∨ i = 1 ∨ i = 2 := by omega
    rcases hc with rfl | rfl | rfl
    · exact ⟨_, _, _, _, _, _, mK1, mT1, mS1, mX1, obj_cell bK7 0 rfl, obj_cell bT7 0 rfl, obj_cell bW 0 rfl, sJ7, sa7, rfl, rfl, mn1, mx1, by decide, by decide, rfl⟩
    · exact ⟨_, _, _, _, _, _, mK2, mT2, mS2, mX2, obj_cell bK7 1 rfl, obj_cell bT7 1 rfl, obj_cell bW 1 rfl, sk7, sD7, rfl, rfl, mn2, mx2, by decide, by decide, rfl⟩
    · exact ⟨_, _, _, _, _, _, mK3, mT3, mS3, mX3, obj_cell bK7 2 rfl, obj_cell bT7 2 rfl, obj_cell bW 2 rfl, sL7, sb7, rfl, rfl, mn3, mx3, by decide, by decide, rfl⟩
  clear bK7 bT7 bW sJ7 sL7 sk7 sD7 sa7 sb7
  obtain ⟨ko, kn, kc', tto, tn, tc, key, text, S, X, d1, d2, d3, sk, st, hkn, htn, hS, hX, hk2, ht2, hS32⟩ := hall
  have hmac := fun w' sk' bo d vs s pt => macTop ko kc' key bo d vs [text] w' sk' (by omega) s pt (by simp) (by simp; omega)
  simp only [List.flatten_cons, List.flatten_nil, List.append_nil, List.length_cons, List.length_nil, Nat.zero_add, hkn, hS] at hmac
  have ht := rTextC S hS32
  rw [hX] at ht
  have e1 := KW.cell (fp := []) (p0 := tt) d1 (by simp)
  have e2 := KW.cell (fp := []) (p0 := tt) d2 (by simp)
  have e3 := KW.cell (fp := []) (p0 := tt) d3 (by simp)
  have hx1 : (str X).toList = X := str_toList X
  have hx2 : (⟨X.toArray⟩ : ByteArray).toList = X := str_toList X
  have hxx : (X == X) = true := by simp
  obtain ⟨A, hA⟩ : ∃ A, A = (S.map B).toArray := ⟨_, rfl⟩
  simp only [← hA] at hmac ht
  clear hA hS hX hS32 d1 d2 d3 hkn htn kc kc2
  go_upto_region 15 with (go_at_call 31; refine hrc _ _ ?_)
  clear hrc
  refine wp_region_R (segT w7 [(8, pPt [text]), (9, pIs (.agg A)), (10, pIs (.string (str X))), (17, pIs (.bool true))]) (by kernel_rfl) segT_drew ?_
  unfold segT segK segR
  repeat (first | (refine wpV_skp rfl rfl ?_; simp only [List.set_cons_succ, List.set_cons_zero]) | (refine wpV_look rfl rfl rfl rfl rfl (fun K hK => ?_); go_big_quiet_op; refine hK _ ?_; clear hK K))
  refine wpV_mk rfl rfl rfl [] rfl (fun vs w7 hC _ => ?_) (fun vs v w7 hC hV hF => ?_)
  · obtain ⟨⟨w7, hk, -⟩, rfl⟩ := hC
    unfold yields
    go_simp
    exact ⟨⟨Keep.of_grow [] (Grow.alloc w7 _), trivial⟩, pPt_one (st.keep hk (by simp))⟩
  obtain ⟨bo, d, vs7, rfl, -, -⟩ := hV
  clear hC hF w7
  simp only [List.set_cons_succ, List.set_cons_zero]
  refine wpV_mk rfl rfl rfl [8] (by kernel_rfl) (fun vs w9 hC hF => yields_call (by kernel_rfl) ?_) (fun vs v w9 hC hV hF => ?_)
  · obtain ⟨bo, d, vs7, e, hs, hp⟩ := (hF 8 (by simp)).2 rfl
    cases e
    obtain ⟨⟨w9, hk, -⟩, rfl⟩ := hC
    exact hmac w9 (sk.keep hk (by simp)) _ _ _ hs hp _ (fun w8 g8 => ⟨_, rfl, ⟨Keep.of_grow [] g8, trivial⟩, rfl⟩)
  obtain rfl := hV
  clear hC hF w9
  simp only [List.set_cons_succ, List.set_cons_zero]
  refine wpV_mk rfl rfl rfl [] rfl (fun vs w7 hC _ => yields_call (by kernel_rfl) ?_) (fun vs v w7 hC hV hF => ?_)
  · obtain ⟨⟨w7, hk, -⟩, rfl⟩ := hC
    exact ht w7 _ (fun w8 g8 => ⟨_, rfl, ⟨Keep.of_grow [] g8, trivial⟩, rfl⟩)
  obtain rfl := hV
  clear hC hF w7
  simp only [List.set_cons_succ, List.set_cons_zero]
  repeat (first | (refine wpV_skp rfl rfl ?_; simp only [List.set_cons_succ, List.set_cons_zero]) | (refine wpV_look rfl rfl rfl rfl rfl (fun K hK => ?_); go_big_quiet_op; refine hK _ ?_; clear hK K))
  refine wpV_mk rfl rfl rfl [] rfl (fun vs w7 hC _ => yields_call (by kernel_rfl) ?_) (fun vs v w7 hC hV hF => ?_)
  · obtain ⟨⟨w7, hk, -⟩, rfl⟩ := hC
    exact haw w7 _ (fun w8 g8 => ⟨_, rfl, ⟨Keep.of_grow [] g8, trivial⟩, rfl⟩)
  obtain rfl := hV
  clear hC hF w7
  simp only [List.set_cons_succ, List.set_cons_zero]
  repeat (first | (refine wpV_skp rfl rfl ?_; simp only [List.set_cons_succ, List.set_cons_zero]) | (refine wpV_look rfl rfl rfl rfl rfl (fun K hK => ?_); go_big_quiet_op; refine hK _ ?_; clear hK K))
  refine wpV_nil ?_
  intro w9 hC hF
  obtain ⟨⟨w9, hkw9, -⟩, rfl⟩ := hC
  clear hF
  have hf := hR _ (G7.trans hkw9.grow)
  clear hR
  go_wp2_with fail
  exact hf
end Go.Proofs.Ytaepfkpfageiaaa
