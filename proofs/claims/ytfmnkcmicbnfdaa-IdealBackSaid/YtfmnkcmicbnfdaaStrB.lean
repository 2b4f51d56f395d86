/- stretch: a block of a key. -/
import Derived.Test.YtfmnkcmicbnfdaaStrP
import Derived.Test.YtfmnkcmicbnfdaaTag
namespace Go.Proofs.Ytfmnkcmicbnfdaa
open Go Go.RowKit


set_option maxRecDepth 100000 in
set_option maxHeartbeats 1000000 in
theorem strX (qu qt : Nat) (hne : qu ≠ qt) (U T : List UInt8) (hU : U.length = 32) (hT : T.length = 32) {c0 c1 c2 c3 c4 c5 c6 c7 c8 c11 c12 c13 c14 c15 c16 c17 c18 c19 c20 c21 c22 c23 c24 c25 c26 c27 c28 c29 c30 c31 c32 c33 c34 c35 c36 c38 c39 c40 c41 c42 c43 c44 c45 c46 c47 c48 c49 c50 : Value} (w : World) (ou : Own w 123 1 (some ⟨qu, 0, none⟩) 32 32 (U.map B)) (ot : Own w 123 1 (some ⟨qt, 0, none⟩) 32 32 (T.map B)) {Q : Exit → Act → World → Prop}
    (hQ : ∀ (w' : World), Own w' 123 1 (some ⟨qt, 0, none⟩) 32 32 ((xorL T U).map B) → Keep [qt] w w' → ∀ {u11 u37 u38 u39 u40 u41 u42 u43 u44 u45 u46 u47 u48 : Value}, Q .normal ⟨List.toArray (c0 :: c1 :: c2 :: c3 :: c4 :: c5 :: c6 :: c7 :: c8 :: .pointer (some ⟨qu, 0, none⟩) :: .pointer (some ⟨qt, 0, none⟩) :: u11 :: c12 :: c13 :: c14 :: c15 :: c16 :: c17 :: c18 :: c19 :: c20 :: c21 :: c22 :: c23 :: c24 :: c25 :: c26 :: c27 :: c28 :: c29 :: c30 :: c31 :: c32 :: c33 :: c34 :: c35 :: c36 :: u37 :: u38 :: u39 :: u40 :: u41 :: u42 :: u43 :: u44 :: u45 :: u46 :: u47 :: u48 :: c49 :: c50 :: []), []⟩ w') :
    Code.wp Try.prog (blockAt Try.f88 2) Q ⟨List.toArray (c0 :: c1 :: c2 :: c3 :: c4 :: c5 :: c6 :: c7 :: c8 :: .pointer (some ⟨qu, 0, none⟩) :: .pointer (some ⟨qt, 0, none⟩) :: c11 :: c12 :: c13 :: c14 :: c15 :: c16 :: c17 :: c18 :: c19 :: c20 :: c21 :: c22 :: c23 :: c24 :: c25 :: c26 :: c27 :: c28 :: c29 :: c30 :: c31 :: c32 :: c33 :: c34 :: c35 :: c36 :: .int .i64 0 :: c38 :: c39 :: c40 :: c41 :: c42 :: c43 :: c44 :: c45 :: c46 :: c47 :: c48 :: c49 :: c50 :: []), []⟩ w := by
  have hml : maxLen = 9223372036854775807 := rfl
  conv => arg 2; whnf
  refine wp_block ?_
  go_loopw [37] (fun vi wr => ∃ i : Nat, vi = .int .i64 (i : Int) ∧ i ≤ 32 ∧ Own wr 123 1 (some ⟨qt, 0, none⟩) 32 32 ((mixL T U i).map B) ∧ Keep [qt] w wr) (fun vi _ => 32 - (intOf vi).toNat)
  case atStart => exact ⟨0, by simp, by omega, by rw [mixL_zero]; exact ot, Keep.refl _ _⟩
  case round =>
    clear ot
    obtain ⟨i, rfl, hi, oi, ki⟩ := hrel
    by_cases hlt : i < 32
    · obtain ⟨x, hx⟩ : ∃ x, T[i]? = some x := ⟨_, List.getElem?_eq_getElem (by omega)⟩
      obtain ⟨y, hy⟩ : ∃ y, U[i]? = some y := ⟨_, List.getElem?_eq_getElem (by omega)⟩
      have hat := mixL_at T U i hT hU hlt
      rw [hx] at hat
      have hset2 := mixL_set T U i x y hT hU hlt hx hy
      have c1 : wr.cell? ⟨qt, i, none⟩ = some (.int .u8 (x.toNat : Int)) := oi.rowR.cell (by rw [List.getElem?_map, hat]; rfl)
      have c2 : wr.cell? ⟨qu, i, none⟩ = some (.int .u8 (y.toNat : Int)) := (ou.keep ki (by simp [blk]; exact hne)).rowR.cell (by rw [List.getElem?_map, hy]; rfl)
      have e1 := KW.cell (fp := []) (p0 := tt) c1 (by simp)
      have e2 := KW.cell (fp := []) (p0 := tt) c2 (by simp)
      have ex := xor_val2 x y
      have Hs2 := Lib.hid hset2
      obtain ⟨xn, hxn⟩ : ∃ n, n = x.toNat := ⟨_, rfl⟩
      obtain ⟨yn, hyn⟩ : ∃ n, n = y.toNat := ⟨_, rfl⟩
      obtain ⟨z, hz⟩ : ∃ z, z = x ^^^ y := ⟨_, rfl⟩
      rw [← hxn] at e1 ex
      rw [← hyn] at e2 ex
      rw [← hz] at ex Hs2
      clear hat hx hy c1 c2 hset2 hxn hyn hz hQ
      go_upto_region 9 with (fail)
      refine wp_region_R (segT wr []) (by kernel_rfl) segT_drew ?_
      unfold segT segK segR
      repeat (first | (refine wpV_skp rfl rfl ?_; simp only [List.set_cons_succ, List.set_cons_zero]) | (refine wpV_look rfl rfl rfl rfl rfl (fun K hK => ?_); go_big_quiet_op; refine hK _ ?_; clear hK K))
      refine wpV_end0 rfl rfl (by kernel_rfl) (fun w7 hC hF => ?_)
      obtain ⟨⟨w7, hk, -⟩, rfl⟩ := hC
      obtain ⟨g3, v, eg, hv, hfz, hset⟩ := own_put (oi.keep hk (by simp)) (i := i) (by omega)
      cases eg
      have o2 := hset (B z) rfl
      rw [← List.map_set, Hs2.out] at o2
      have k2 := (ki.trans (Keep.of_nil hk)).trans (Keep.setCell (fp := [qt]) w7 ⟨qt, i, none⟩ (by simp) (B z))
      clear hF e1 e2 hset oi ki hk Hs2
      unfold yields
      go_simp
      simp only [yUpon]
      rw [show Value.int IntKind.u8 ((z.toNat : Nat) : Int) = B z from rfl]
      generalize w7.setCell ⟨qt, i, none⟩ (B z) = w8 at *
      clear hv hfz ex
      go_wp2_with fail
      go_roundw
      case rel => exact ⟨i + 1, by go_num, by omega, o2, k2⟩
      case measure => simp [intOf]; omega
    · obtain rfl : i = 32 := by omega
      rw [mixL_all T U hT hU] at oi
      clear ou
      go_wp2_with fail
      exact hQ _ oi ki


theorem num4_B (k : Nat) (a b c d : Int) (ha : a = (k / 16777216 % 256 : Nat)) (hb : b = (k / 65536 % 256 : Nat)) (hc : c = (k / 256 % 256 : Nat)) (hd : d = (k % 256 : Nat)) : [Value.int .u8 a, .int .u8 b, .int .u8 c, .int .u8 d] = (num4 k).map B := by
  subst ha hb hc hd
  simp [num4, B, UInt8.toNat_ofNat']
theorem num4_new (w : World) (k : Nat) (a b c d : Int) (ha : a = (k / 16777216 % 256 : Nat)) (hb : b = (k / 65536 % 256 : Nat)) (hc : c = (k / 256 % 256 : Nat)) (hd : d = (k % 256 : Nat)) (e : TypeId) :
    Sl (w.alloc (.cells #[.int .u8 a, .int .u8 b, .int .u8 c, .int .u8 d] e)) 1 (some ⟨w.heap.size, 0, none⟩) 4 4 ((num4 k).map B) := by
  rw [← num4_B k a b c d ha hb hc hd]
  exact sl_obj (C := [.int .u8 a, .int .u8 b, .int .u8 c, .int .u8 d]) (alloc_new w _) 4 rfl (by decide) (by simp [Value.oneCell'])
theorem num4_pt (w : World) (so : Option Addr) (sn sc : Nat) (salt : List UInt8) (s : Sl w 1 so sn sc (salt.map B)) (k : Nat) (a b c d : Int) (e e2 : TypeId) (ha : a = (k / 16777216 % 256 : Nat)) (hb : b = (k / 65536 % 256 : Nat)) (hc : c = (k / 256 % 256 : Nat)) (hd : d = (k % 256 : Nat)) :
    Grow w ((w.alloc (.cells #[.int .u8 a, .int .u8 b, .int .u8 c, .int .u8 d] e)).alloc (.cells #[.slice so sn sc, .slice (some ⟨w.heap.size, 0, none⟩) 4 4] e2)) ∧
    Sl ((w.alloc (.cells #[.int .u8 a, .int .u8 b, .int .u8 c, .int .u8 d] e)).alloc (.cells #[.slice so sn sc, .slice (some ⟨w.heap.size, 0, none⟩) 4 4] e2)) 1 (some ⟨w.heap.size + 1, 0, none⟩) 2 2 [.slice so sn sc, .slice (some ⟨w.heap.size, 0, none⟩) 4 4] ∧
    Pt ((w.alloc (.cells #[.int .u8 a, .int .u8 b, .int .u8 c, .int .u8 d] e)).alloc (.cells #[.slice so sn sc, .slice (some ⟨w.heap.size, 0, none⟩) 4 4] e2)) [.slice so sn sc, .slice (some ⟨w.heap.size, 0, none⟩) 4 4] [salt, num4 k] := by
  have g1 := Grow.alloc w (.cells #[.int .u8 a, .int .u8 b, .int .u8 c, .int .u8 d] e)
  have g2 := Grow.alloc (w.alloc (.cells #[.int .u8 a, .int .u8 b, .int .u8 c, .int .u8 d] e)) (.cells #[.slice so sn sc, .slice (some ⟨w.heap.size, 0, none⟩) 4 4] e2)
  have sn4 := num4_new w k a b c d ha hb hc hd e
  have hn := alloc_new (w.alloc (.cells #[.int .u8 a, .int .u8 b, .int .u8 c, .int .u8 d] e)) (.cells #[.slice so sn sc, .slice (some ⟨w.heap.size, 0, none⟩) 4 4] e2)
  rw [sz_al] at hn
  refine ⟨g1.trans g2, sl_obj (C := [.slice so sn sc, .slice (some ⟨w.heap.size, 0, none⟩) 4 4]) hn 2 rfl (by decide) (by simp [Value.oneCell']), ?_⟩
  obtain rfl : sn = salt.length := by have := s.hlen; simpa using this.symm
  exact two_parts ((s.grow g1).grow g2) (sn4.grow g2)


set_option maxRecDepth 100000 in
set_option maxHeartbeats 1000000 in
theorem strL (pk qu qt n : Nat) (pass salt : List UInt8) (i : Nat) (hn : n ≤ 10000) (hne : qu ≠ qt) {c1 c2 c3 c4 c5 c6 c7 c8 c11 c12 c13 c14 c15 c16 c17 c18 c19 c20 c21 c22 c23 c24 c25 c26 c27 c28 c29 c32 c33 c34 c35 c36 c37 c38 c39 c40 c41 c42 c43 c44 c45 c46 c47 c48 c49 c50 : Value} (w0 w : World) (hk : Kd w0 pk pass) (g0 : Grow w0 w) (hqu : w0.heap.size ≤ qu) (hqt : w0.heap.size ≤ qt)
    (ou : Own w 123 1 (some ⟨qu, 0, none⟩) 32 32 ((uS pass salt i 0).map B)) (ot : Own w 123 1 (some ⟨qt, 0, none⟩) 32 32 ((tS pass salt i 0).map B)) {Q : Exit → Act → World → Prop}
    (hQ : ∀ (w' : World), Own w' 123 1 (some ⟨qt, 0, none⟩) 32 32 ((tS pass salt i n).map B) → Grow w0 w' → ∀ {u11 u31 u32 u33 u34 u35 u36 u37 u38 u39 u40 u41 u42 u43 u44 u45 u46 u47 u48 u49 : Value}, Q .normal ⟨List.toArray (.pointer (some ⟨pk, 0, none⟩) :: c1 :: c2 :: c3 :: c4 :: c5 :: c6 :: c7 :: c8 :: .pointer (some ⟨qu, 0, none⟩) :: .pointer (some ⟨qt, 0, none⟩) :: u11 :: c12 :: c13 :: c14 :: c15 :: c16 :: c17 :: c18 :: c19 :: c20 :: c21 :: c22 :: c23 :: c24 :: c25 :: c26 :: c27 :: c28 :: c29 :: .int .i64 (n : Int) :: u31 :: u32 :: u33 :: u34 :: u35 :: u36 :: u37 :: u38 :: u39 :: u40 :: u41 :: u42 :: u43 :: u44 :: u45 :: u46 :: u47 :: u48 :: u49 :: c50 :: []), []⟩ w') :
    Code.wp Try.prog (blockAt Try.f88 0) Q ⟨List.toArray (.pointer (some ⟨pk, 0, none⟩) :: c1 :: c2 :: c3 :: c4 :: c5 :: c6 :: c7 :: c8 :: .pointer (some ⟨qu, 0, none⟩) :: .pointer (some ⟨qt, 0, none⟩) :: c11 :: c12 :: c13 :: c14 :: c15 :: c16 :: c17 :: c18 :: c19 :: c20 :: c21 :: c22 :: c23 :: c24 :: c25 :: c26 :: c27 :: c28 :: c29 :: .int .i64 (n : Int) :: .int .i64 0 :: c32 :: c33 :: c34 :: c35 :: c36 :: c37 :: c38 :: c39 :: c40 :: c41 :: c42 :: c43 :: c44 :: c45 :: c46 :: c47 :: c48 :: c49 :: c50 :: []), []⟩ w := by
  have hml : maxLen = 9223372036854775807 := rfl
  have htag := fun U (hU : U.length = 32) lo cap vs w' k s pt => tagC pk pass lo cap vs [U] w' k s pt (by simp) (by simp [hU])
  simp only [List.flatten_cons, List.flatten_nil, List.append_nil, List.length_cons, List.length_nil, Nat.zero_add] at htag
  have i32 : (Try.prog.info? 123).map (·.size) = some 32 := by kernel_rfl
  conv => arg 2; whnf
  refine wp_block ?_
  go_loopw [31] (fun vi wr => ∃ j : Nat, vi = .int .i64 (j : Int) ∧ j ≤ n ∧ Own wr 123 1 (some ⟨qu, 0, none⟩) 32 32 ((uS pass salt i j).map B) ∧ Own wr 123 1 (some ⟨qt, 0, none⟩) 32 32 ((tS pass salt i j).map B) ∧ Grow w0 wr) (fun vi _ => n - (intOf vi).toNat)
  case atStart => exact ⟨0, by simp, by omega, ou, ot, g0⟩
  case round =>
    clear ou ot g0
    obtain ⟨j, rfl, hj, ou, ot, g⟩ := hrel
    by_cases hlt : j < n
    · have hc := htag (uS pass salt i j) (uS_len _ _ _ _)
      rw [show macS pass (uS pass salt i j) = uS pass salt i (j + 1) from rfl] at hc
      have hts : tS pass salt i (j + 1) = xorL (tS pass salt i j) (uS pass salt i (j + 1)) := rfl
      have hTl := tS_len pass salt i j
      have hUl := uS_len pass salt i (j + 1)
      obtain ⟨T, hT⟩ : ∃ T, T = tS pass salt i j := ⟨_, rfl⟩
      obtain ⟨U, hU⟩ : ∃ U, U = uS pass salt i (j + 1) := ⟨_, rfl⟩
      rw [← hT] at hts ot hTl
      rw [← hU] at hts hc hUl
      have Hts := Lib.hid hts
      have HU := Lib.hid hU
      obtain ⟨V, hV⟩ : ∃ V, V = U.map B := ⟨_, rfl⟩
      have hVl : V.length = 32 := by rw [hV, List.length_map]; exact hUl
      have hV1 : ∀ v ∈ V, v.oneCell' = true := by rw [hV]; exact B_one _
      simp only [← hV] at hc
      have HV := Lib.hid hV
      have ga := Grow.alloc wr (.cells #[.slice (some ⟨qu, 0, none⟩) 32 32] 27)
      have bA := alloc_new wr (.cells #[.slice (some ⟨qu, 0, none⟩) 32 32] 27)
      have hcc := hc _ _ _ _ (hk.grow (g.trans ga)) (sl_obj (C := [.slice (some ⟨qu, 0, none⟩) 32 32]) bA 1 rfl (by decide) (by simp [Value.oneCell'])) (pt1 (ou.sl.grow ga))
      have hUU := ou.grow ga
      have hTT := ot.grow ga
      have gg := g.trans ga
      clear htag hc hts hT hU hV bA ou ot g ga hQ
      go_wp2_with fail
      refine hcc _ ?_
      clear hcc
      intro w5 g5
      have ou5 := hUU.grow g5
      have ot5 := hTT.grow g5
      have G5 := gg.trans g5
      clear hUU hTT gg g5
      obtain ⟨r1, r3, r4⟩ := store_arr (P := Try.prog) hVl hV1 ou5 i32
      have hth := own_there ou5 V.toArray.size (by simpa using hVl)
      have hsz : (Try.prog.info? 123).map (·.size) = some V.toArray.size := by rw [List.size_toArray, hVl]; exact i32
      have hall := one_all hV1
      have ot6 := ot5.keep r4 (by simp [blk]; exact fun e => hne e.symm)
      have G6 := G5.then r4 (fun x hx => by simp at hx; omega)
      clear r1 r4 ot5 ou5 G5
      go_upto_block 2 with (refine wpList_store_mid rfl 123 _ _ rfl qu 0 V.toArray rfl rfl hth hsz hall ?_)
      change Code.wp _ _ _ _ (w5.setCells qu 0 V)
      clear hth hsz hall
      generalize w5.setCells qu 0 V = w6 at *
      rw [HV.out] at r3
      refine strX qu qt hne U T hUl hTl w6 r3 ot6 ?_
      intro w7 o7 k7
      intros
      have ou7 := r3.keep k7 (by simp [blk]; exact hne)
      have G7 := G6.then k7 (fun x hx => by simp at hx; omega)
      rw [← Hts.out] at o7
      rw [HU.out] at ou7
      clear r3 ot6 G6 k7 Hts HU HV
      go_wp2_with fail
      go_roundw
      case rel => exact ⟨j + 1, by go_num, by omega, ou7, o7, G7⟩
      case measure => simp [intOf]; omega
    · obtain rfl : j = n := by omega
      clear ou htag
      go_wp2_with fail
      exact hQ _ ot g

set_option maxRecDepth 100000 in
set_option maxHeartbeats 1000000 in
theorem strBlkC (pk : Nat) (pass : List UInt8) (so : Option Addr) (sn sc : Nat) (salt : List UInt8) (n i : Nat) (w : World) (hk : Kd w pk pass) (s : Sl w 1 so sn sc (salt.map B)) (hs : sn ≤ 1000) (hi : i ≤ 2147483647) (hn : n ≤ 10000)
    (R : Ending → World → Prop) (hR : ∀ w', Grow w w' → R (.returned (.agg ((tS pass salt i n).map B).toArray)) w') :
    Calls Try.prog 88 #[.pointer (some ⟨pk, 0, none⟩), .slice so sn sc, .int .i64 ((n : Int) + 1), .int .i64 (i : Int)] w R := by
  have hml : maxLen = 9223372036854775807 := rfl
  have hsn : sn = salt.length := by have := s.hlen; simpa using this.symm
  have htag := fun lo cap vs w' k s pt => tagC pk pass lo cap vs [salt, num4 i] w' k s pt (by simp) (by simp [num4_len, ← hsn]; omega)
  simp only [List.flatten_cons, List.flatten_nil, List.append_nil, List.length_cons, List.length_nil, Nat.zero_add, Nat.reduceAdd] at htag
  have hu0 : macS pass (salt ++ num4 i) = uS pass salt i 0 := rfl
  rw [hu0] at htag
  have ht0 : uS pass salt i 0 = tS pass salt i 0 := rfl
  have Ht0 := Lib.hid ht0
  have hVl : ((uS pass salt i 0).map B).length = 32 := by rw [List.length_map]; exact uS_len _ _ _ _
  have hWl : ((tS pass salt i n).map B).length = 32 := by rw [List.length_map]; exact tS_len _ _ _ _
  obtain ⟨V, hV⟩ : ∃ V, V = (uS pass salt i 0).map B := ⟨_, rfl⟩
  obtain ⟨W, hW⟩ : ∃ V, V = (tS pass salt i n).map B := ⟨_, rfl⟩
  have hV1 : ∀ v ∈ V, v.oneCell' = true := by rw [hV]; exact B_one _
  have hW1 : ∀ v ∈ W, v.oneCell' = true := by rw [hW]; exact B_one _
  have i32 : (Try.prog.info? 123).map (·.size) = some 32 := by kernel_rfl
  rw [← hV] at hVl
  rw [← hW] at hWl
  simp only [← hV] at htag
  simp only [← hW] at hR
  have HV := Lib.hid hV
  have HW := Lib.hid hW
  have o8 : Own (w.alloc (.cells (List.replicate 32 (.int .u8 0)).toArray 123)) 123 1 (some ⟨w.heap.size, 0, none⟩) 32 32 (List.replicate 32 (.int .u8 0)) := own_new w _ rfl (by omega)
  have ga := Grow.alloc w (.cells (List.replicate 32 (.int .u8 0)).toArray 123)
  clear hu0 ht0 hV hW hsn
  go_enter Try.func88, Try.ntmps88
  go_upto_region 1 with (fail)
  change Code.wp _ _ _ ⟨_, _⟩ (w.alloc (.cells (List.replicate 32 (.int .u8 0)).toArray 123))
  have hk1 := hk.grow ga
  have s1 := s.grow ga
  obtain ⟨q8, hq8⟩ : ∃ q, q = w.heap.size := ⟨_, rfl⟩
  generalize w.alloc (.cells (List.replicate 32 (.int .u8 0)).toArray 123) = w1 at *
  rw [← hq8] at o8 ⊢
  have Hq8 := Lib.hid hq8
  clear hq8 hk s
  obtain ⟨gN, sN, pN⟩ := num4_pt w1 so sn sc salt s1 i ((i : Int) / 16777216) ((i : Int) / 65536 % 256) ((i : Int) / 256 % 256) ((i : Int) % 256) 5 27 (by omega) (by omega) (by omega) (by omega)
  have hcc := htag _ _ _ _ (hk1.grow gN) sN pN
  clear htag sN pN s1
  go_wp2_with fail
  refine hcc _ ?_
  clear hcc
  intro w5 g5
  have G5 := gN.trans g5
  have hs5 := G5.size
  clear gN g5
  obtain ⟨ou, ga1, th1, al1⟩ := newvar (t := 123) w5 (.int .u8 0) rfl (by omega) hVl hV1
  have hszF : (Try.prog.info? 123).map (·.size) = some V.toArray.size := by rw [List.size_toArray, hVl]; exact i32
  have hszL : (Try.prog.info? 123).map (·.size) = some V.length := by rw [hVl]; exact i32
  go_upto_region 2 with (refine wpList_store_mid rfl 123 _ _ rfl w5.heap.size 0 V.toArray rfl rfl th1 hszF al1 ?_)
  change Code.wp _ _ _ ⟨_, _⟩ ((w5.alloc (.cells (List.replicate 32 (.int .u8 0)).toArray 123)).setCells w5.heap.size 0 V)
  have G6 := G5.trans ga1
  have hq1 : w1.heap.size ≤ w5.heap.size := hs5
  have hltU := ou.lt w5.heap.size (by simp [blk])
  obtain ⟨qu, hqu⟩ : ∃ q, q = w5.heap.size := ⟨_, rfl⟩
  generalize (w5.alloc (.cells (List.replicate 32 (.int .u8 0)).toArray 123)).setCells w5.heap.size 0 V = w6 at *
  rw [← hqu] at ou hltU hq1 ⊢
  clear hqu th1 al1 ga1 G5 hs5
  obtain ⟨ot, gb1, th2, al2⟩ := newvar (t := 123) w6 (.int .u8 0) rfl (by omega) hVl hV1
  have hrg := own_range ou (by omega)
  go_upto_region 3 with (first | (refine wpList_load_mid rfl 123 _ rfl qu 0 rfl V _ hrg Try.underlying123 rfl hszL ?_) | (refine wpList_store_mid rfl 123 _ _ rfl w6.heap.size 0 V.toArray rfl rfl th2 hszF al2 ?_))
  change Code.wp _ _ _ ⟨_, _⟩ ((w6.alloc (.cells (List.replicate 32 (.int .u8 0)).toArray 123)).setCells w6.heap.size 0 V)
  have G7 := G6.trans gb1
  have ou7 := ou.grow gb1
  obtain ⟨qt, hqt⟩ : ∃ q, q = w6.heap.size := ⟨_, rfl⟩
  generalize (w6.alloc (.cells (List.replicate 32 (.int .u8 0)).toArray 123)).setCells w6.heap.size 0 V = w7 at *
  rw [← hqt] at ot hltU ⊢
  clear hqt th2 al2 gb1 G6 ou hrg hszF hszL
  rw [HV.out] at ou7 ot
  rw [Ht0.out] at ot
  go_upto_block 0 with (fail)
  refine strL pk qu qt n pass salt i hn (by omega) w1 w7 hk1 G7 hq1 (by omega) ou7 ot ?_
  intro w8 o10 G8
  intros
  rw [← HW.out] at o10
  obtain ⟨r1, r3, r4⟩ := store_arr (P := Try.prog) hWl hW1 (o8.grow G8) i32
  have hf := hR _ ((ga.trans G8).then r4 (fun x hx => by simp at hx; have := Hq8.out; omega))
  have hth := own_there (o8.grow G8) W.toArray.size (by simpa using hWl)
  have hsz : (Try.prog.info? 123).map (·.size) = some W.toArray.size := by rw [List.size_toArray, hWl]; exact i32
  have hszL : (Try.prog.info? 123).map (·.size) = some W.length := by rw [hWl]; exact i32
  have hall := one_all hW1
  have hrg := own_range o10 (by omega)
  clear hR r1 r4 ou7 ot G7 hk1 ga o10
  go_upto_region 12 with (fail)
  refine wp_region_lit ?_
  refine wpList_load_mid rfl 123 _ rfl qt 0 rfl W _ hrg Try.underlying123 rfl hszL ?_
  refine wpList_store_mid rfl 123 _ _ rfl q8 0 W.toArray rfl rfl hth hsz hall ?_
  go_wp2_with fail
  exact bodyPost_ret (v := .agg W.toArray) (ret_bytes Try.results88 _ _ q8 W _ _ 32 rfl r3 (by decide) Try.underlying123 rfl i32) rfl hf
end Go.Proofs.Ytfmnkcmicbnfdaa
