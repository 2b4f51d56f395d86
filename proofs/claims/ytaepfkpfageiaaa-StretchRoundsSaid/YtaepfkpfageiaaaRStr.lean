/- The document's Block and Key. -/
import Derived.Test.YtaepfkpfageiaaaStrK
import Derived.Test.YtaepfkpfageiaaaRMac
namespace Go.Proofs.Ytaepfkpfageiaaa
open Go Go.RowKit


set_option maxRecDepth 100000 in
set_option maxHeartbeats 1000000 in
theorem rStrX (qu qt : Nat) (hne : qu ≠ qt) (U T : List UInt8) (hU : U.length = 32) (hT : T.length = 32) {c0 c1 c2 c3 c4 c5 c6 c7 c8 c9 c10 c11 c14 c16 c17 c18 c19 c20 c21 c22 c23 c24 c25 c26 c27 c28 c29 c30 c31 c32 c33 c34 c35 c36 c37 c38 c39 c40 c41 c42 c43 c44 c45 c46 c47 c48 c49 c50 c51 c52 c53 c54 c55 c56 c57 c58 c59 : Value} (w : World) (ou : Own w 27 1 (some ⟨qu, 0, none⟩) 32 32 (U.map B)) (ot : Own w 27 1 (some ⟨qt, 0, none⟩) 32 32 (T.map B)) {Q : Exit → Act → World → Prop}
    (hQ : ∀ (w' : World), Own w' 27 1 (some ⟨qt, 0, none⟩) 32 32 ((xorL T U).map B) → Keep [qt] w w' → ∀ {u15 u46 u47 u48 u49 u50 u51 u52 u53 u54 u55 u56 u57 u58 : Value}, Q .normal ⟨List.toArray (c0 :: c1 :: c2 :: c3 :: c4 :: c5 :: c6 :: c7 :: c8 :: c9 :: c10 :: c11 :: .pointer (some ⟨qu, 0, none⟩) :: .pointer (some ⟨qt, 0, none⟩) :: c14 :: u15 :: c16 :: c17 :: c18 :: c19 :: c20 :: c21 :: c22 :: c23 :: c24 :: c25 :: c26 :: c27 :: c28 :: c29 :: c30 :: c31 :: c32 :: c33 :: c34 :: c35 :: c36 :: c37 :: c38 :: c39 :: c40 :: c41 :: c42 :: c43 :: c44 :: c45 :: u46 :: u47 :: u48 :: u49 :: u50 :: u51 :: u52 :: u53 :: u54 :: u55 :: u56 :: u57 :: u58 :: c59 :: []), []⟩ w') :
    Code.wp Try.prog (blockAt Try.f41 2) Q ⟨List.toArray (c0 :: c1 :: c2 :: c3 :: c4 :: c5 :: c6 :: c7 :: c8 :: c9 :: c10 :: c11 :: .pointer (some ⟨qu, 0, none⟩) :: .pointer (some ⟨qt, 0, none⟩) :: c14 :: .int .i64 0 :: c16 :: c17 :: c18 :: c19 :: c20 :: c21 :: c22 :: c23 :: c24 :: c25 :: c26 :: c27 :: c28 :: c29 :: c30 :: c31 :: c32 :: c33 :: c34 :: c35 :: c36 :: c37 :: c38 :: c39 :: c40 :: c41 :: c42 :: c43 :: c44 :: c45 :: c46 :: c47 :: c48 :: c49 :: c50 :: c51 :: c52 :: c53 :: c54 :: c55 :: c56 :: c57 :: c58 :: c59 :: []), []⟩ w := by
  have hml : maxLen = 9223372036854775807 := rfl
  conv => arg 2; whnf
  refine wp_block ?_
  go_loopw [15] (fun vi wr => ∃ i : Nat, vi = .int .i64 (i : Int) ∧ i ≤ 32 ∧ Own wr 27 1 (some ⟨qt, 0, none⟩) 32 32 ((mixL T U i).map B) ∧ Keep [qt] w wr) (fun vi _ => 32 - (intOf vi).toNat)
  case atStart => exact ⟨0, by simp, by omega, by rw [mixL_zero]; exact ot, Keep.refl _ _⟩
  case round =>
    clear ot
    obtain ⟨i, rfl, hi, oi, ki⟩ := hrel
    by_cases hlt : i < 32
    · obtain ⟨x, hx⟩ : ∃ x, T[i]? = some x := ⟨_, List.getElem?_eq_getElem (by omega)⟩
      obtain ⟨y, hy⟩ : ∃ y, U[i]? = some y := ⟨_, List.getElem?_eq_getElem (by omega)⟩
      have hat := mixL_at T U i hT hU hlt
      rw [hx] at hat
      have hset2 := mixL_set T U i x y hT hU hlt hx hy
      have c1 : wr.cell? ⟨qt, i, none⟩ = some (.int .u8 (x.toNat : Int)) := oi.rowR.cell (by rw [List.getElem?_map, hat]; rfl)
      have c2 : wr.cell? ⟨qu, i, none⟩ = some (.int .u8 (y.toNat : Int)) := (ou.keep ki (by simp [blk]; exact hne)).rowR.cell (by rw [List.getElem?_map, hy]; rfl)
      have e1 := KW.cell (fp := []) (p0 := tt) c1 (by simp)
      have e2 := KW.cell (fp := []) (p0 := tt) c2 (by simp)
      have ex := xor_val2 x y
      have Hs2 := Lib.hid hset2
      obtain ⟨xn, hxn⟩ : ∃ n, n = x.toNat := ⟨_, rfl⟩
      obtain ⟨yn, hyn⟩ : ∃ n, n = y.toNat := ⟨_, rfl⟩
      obtain ⟨z, hz⟩ : ∃ z, z = x ^^^ y := ⟨_, rfl⟩
      rw [← hxn] at e1 ex
      rw [← hyn] at e2 ex
      rw [← hz] at ex Hs2
      clear hat hx hy c1 c2 hset2 hxn hyn hz hQ
      go_upto_region 11 with (fail)
      refine wp_region_R (segT wr []) (by kernel_rfl) segT_drew ?_
      unfold segT segK segR
      repeat (first | (refine wpV_skp rfl rfl ?_; simp only [List.set_cons_succ, List.set_cons_zero]) | (refine wpV_look rfl rfl rfl rfl rfl (fun K hK => ?_); go_big_quiet_op; refine hK _ ?_; clear hK K))
      refine wpV_end0 rfl rfl (by kernel_rfl) (fun w7 hC hF => ?_)
      obtain ⟨⟨w7, hk, -⟩, rfl⟩ := hC
      obtain ⟨g3, v, eg, hv, hfz, hset⟩ := own_put (oi.keep hk (by simp)) (i := i) (by omega)
      cases eg
      have o2 := hset (B z) rfl
      rw [← List.map_set, Hs2.out] at o2
      have k2 := (ki.trans (Keep.of_nil hk)).trans (Keep.setCell (fp := [qt]) w7 ⟨qt, i, none⟩ (by simp) (B z))
      clear hF e1 e2 hset oi ki hk Hs2
      unfold yields
      go_simp
      simp only [yUpon]
      rw [show Value.int IntKind.u8 ((z.toNat : Nat) : Int) = B z from rfl]
      generalize w7.setCell ⟨qt, i, none⟩ (B z) = w8 at *
      clear hv hfz ex
      go_wp2_with fail
      go_roundw
      case rel => exact ⟨i + 1, by go_num, by omega, o2, k2⟩
      case measure => simp [intOf]; omega
    · obtain rfl : i = 32 := by omega
      rw [mixL_all T U hT hU] at oi
      clear ou
      go_wp2_with fail
      exact hQ _ oi ki



set_option maxRecDepth 100000 in
set_option maxHeartbeats 1000000 in
theorem rStrL (p qu qt n : Nat) (ko : Option Addr) (kn kc : Nat) (pass salt : List UInt8) (i : Nat) (hn : n ≤ 10000) (hne : qu ≠ qt) {c2 c4 c5 c6 c7 c8 c9 c10 c11 c15 c16 c17 c18 c19 c20 c21 c22 c23 c24 c25 c26 c27 c28 c29 c30 c31 c32 c33 c34 c35 c36 c37 c38 c39 c40 c41 c42 c43 c44 c45 c46 c47 c48 c49 c50 c51 c52 c53 c54 c55 c56 c57 c58 c59 : Value} (w0 w : World) (sm : Sm w0 p Hs Ks) (sk : Sl w0 1 ko kn kc (pass.map B)) (Hkn : Hid (kn = pass.length)) (hkl : kn ≤ 900000) (g0 : Grow w0 w) (hqu : w0.heap.size ≤ qu) (hqt : w0.heap.size ≤ qt)
    (ou : Own w 27 1 (some ⟨qu, 0, none⟩) 32 32 ((uS pass salt i 0).map B)) (ot : Own w 27 1 (some ⟨qt, 0, none⟩) 32 32 ((tS pass salt i 0).map B)) {Q : Exit → Act → World → Prop}
    (hQ : ∀ (w' : World), Own w' 27 1 (some ⟨qt, 0, none⟩) 32 32 ((tS pass salt i n).map B) → Grow w0 w' → ∀ {u14 u15 u37 u38 u39 u40 u41 u42 u43 u44 u45 u46 u47 u48 u49 u50 u51 u52 u53 u54 u55 u56 u57 u58 : Value}, Q .normal ⟨List.toArray (.pointer (some ⟨p, 0, none⟩) :: .slice ko kn kc :: c2 :: .int .i64 ((n : Int) + 1) :: c4 :: c5 :: c6 :: c7 :: c8 :: c9 :: c10 :: c11 :: .pointer (some ⟨qu, 0, none⟩) :: .pointer (some ⟨qt, 0, none⟩) :: u14 :: u15 :: c16 :: c17 :: c18 :: c19 :: c20 :: c21 :: c22 :: c23 :: c24 :: c25 :: c26 :: c27 :: c28 :: c29 :: c30 :: c31 :: c32 :: c33 :: c34 :: c35 :: c36 :: u37 :: u38 :: u39 :: u40 :: u41 :: u42 :: u43 :: u44 :: u45 :: u46 :: u47 :: u48 :: u49 :: u50 :: u51 :: u52 :: u53 :: u54 :: u55 :: u56 :: u57 :: u58 :: c59 :: []), []⟩ w') :
    Code.wp Try.prog (blockAt Try.f41 0) Q ⟨List.toArray (.pointer (some ⟨p, 0, none⟩) :: .slice ko kn kc :: c2 :: .int .i64 ((n : Int) + 1) :: c4 :: c5 :: c6 :: c7 :: c8 :: c9 :: c10 :: c11 :: .pointer (some ⟨qu, 0, none⟩) :: .pointer (some ⟨qt, 0, none⟩) :: .int .i64 1 :: c15 :: c16 :: c17 :: c18 :: c19 :: c20 :: c21 :: c22 :: c23 :: c24 :: c25 :: c26 :: c27 :: c28 :: c29 :: c30 :: c31 :: c32 :: c33 :: c34 :: c35 :: c36 :: c37 :: c38 :: c39 :: c40 :: c41 :: c42 :: c43 :: c44 :: c45 :: c46 :: c47 :: c48 :: c49 :: c50 :: c51 :: c52 :: c53 :: c54 :: c55 :: c56 :: c57 :: c58 :: c59 :: []), []⟩ w := by
  have hml : maxLen = 9223372036854775807 := rfl
  rw [Hkn.out] at sk hkl
  have htag := fun U (hU : U.length = 32) w' (g : Grow w0 w') bo c sb => rMacC p w' ⟨sm.1.keep (Keep.of_grow [] g) (by simp), sm.2⟩ ko kc pass (sk.grow g) hkl bo c U sb (by omega)
  have i32 : (Try.prog.info? 27).map (·.size) = some 32 := by kernel_rfl
  generalize Hs = H at *
  generalize Ks = K at *
  simp only [← Hkn.out] at htag
  have hpl := smlt sm
  clear sm sk hkl
  conv => arg 2; whnf
  refine wp_block ?_
  go_loopw [14] (fun vi wr => ∃ j : Nat, vi = .int .i64 ((j : Int) + 1) ∧ j ≤ n ∧ Own wr 27 1 (some ⟨qu, 0, none⟩) 32 32 ((uS pass salt i j).map B) ∧ Own wr 27 1 (some ⟨qt, 0, none⟩) 32 32 ((tS pass salt i j).map B) ∧ Grow w0 wr) (fun vi _ => n + 1 - (intOf vi).toNat)
  case atStart => exact ⟨0, by simp, by omega, ou, ot, g0⟩
  case round =>
    clear ou ot g0
    obtain ⟨j, rfl, hj, ou, ot, g⟩ := hrel
    by_cases hlt : j < n
    · have hul := uS_len pass salt i j
      have hc := htag (uS pass salt i j) hul wr g (some ⟨qu, 0, none⟩) 32
      rw [show macS pass (uS pass salt i j) = uS pass salt i (j + 1) from rfl, hul] at hc
      have hts : tS pass salt i (j + 1) = xorL (tS pass salt i j) (uS pass salt i (j + 1)) := rfl
      have hTl := tS_len pass salt i j
      have hUl := uS_len pass salt i (j + 1)
      obtain ⟨T, hT⟩ : ∃ T, T = tS pass salt i j := ⟨_, rfl⟩
      obtain ⟨U, hU⟩ : ∃ U, U = uS pass salt i (j + 1) := ⟨_, rfl⟩
      rw [← hT] at hts ot hTl
      rw [← hU] at hts hc hUl
      have Hts := Lib.hid hts
      have HU := Lib.hid hU
      obtain ⟨V, hV⟩ : ∃ V, V = U.map B := ⟨_, rfl⟩
      have hVl : V.length = 32 := by rw [hV, List.length_map]; exact hUl
      have hV1 : ∀ v ∈ V, v.oneCell' = true := by rw [hV]; exact B_one _
      simp only [← hV] at hc
      have HV := Lib.hid hV
      have hcc := hc ou.sl
      clear htag hc hts hT hU hV hQ hul
      go_wp2_with fail
      refine hcc _ ?_
      clear hcc
      intro w5 g5
      have ou5 := ou.grow g5
      have ot5 := ot.grow g5
      have G5 := g.trans g5
      clear ou ot g g5
      obtain ⟨r1, r3, r4⟩ := store_arr (P := Try.prog) hVl hV1 ou5 i32
      have hth := own_there ou5 V.toArray.size (by simpa using hVl)
      have hsz : (Try.prog.info? 27).map (·.size) = some V.toArray.size := by rw [List.size_toArray, hVl]; exact i32
      have hall := one_all hV1
      have ot6 := ot5.keep r4 (by simp [blk]; exact fun e => hne e.symm)
      have G6 := G5.then r4 (fun x hx => by simp at hx; omega)
      clear r1 r4 ot5 ou5 G5
      go_upto_block 2 with (refine wpList_store_mid rfl 27 _ _ rfl qu 0 V.toArray rfl rfl hth hsz hall ?_)
      change Code.wp _ _ _ _ (w5.setCells qu 0 V)
      clear hth hsz hall
      generalize w5.setCells qu 0 V = w6 at *
      rw [HV.out] at r3
      refine rStrX qu qt hne U T hUl hTl w6 r3 ot6 ?_
      intro w7 o7 k7
      intros
      have ou7 := r3.keep k7 (by simp [blk]; exact hne)
      have G7 := G6.then k7 (fun x hx => by simp at hx; omega)
      rw [← Hts.out] at o7
      rw [HU.out] at ou7
      clear r3 ot6 G6 k7 Hts HU HV
      go_wp2_with fail
      go_roundw
      case rel => exact ⟨j + 1, by go_num, by omega, ou7, o7, G7⟩
      case measure => simp [intOf]; omega
    · obtain rfl : j = n := by omega
      clear ou htag
      go_wp2_with fail
      exact hQ _ ot g

set_option maxRecDepth 100000 in
set_option maxHeartbeats 1000000 in
theorem rBlkC (p : Nat) (ko : Option Addr) (kc : Nat) (pass : List UInt8) (so : Option Addr) (sn sc : Nat) (salt : List UInt8) (n i : Nat) (w : World) (sm : Sm w p Hs Ks) (sk : Sl w 1 ko pass.length kc (pass.map B)) (hkl : pass.length ≤ 900000) (s : Sl w 1 so sn sc (salt.map B)) (hs : sn ≤ 1000) (hi : i ≤ 2147483647) (hn : n ≤ 10000)
    (R : Ending → World → Prop) (hR : ∀ w', Grow w w' → R (.returned (.agg ((tS pass salt i n).map B).toArray)) w') :
    Calls Try.prog 41 #[.pointer (some ⟨p, 0, none⟩), .slice ko pass.length kc, .slice so sn sc, .int .i64 ((n : Int) + 1), .int .i64 (i : Int)] w R := by
  have hml : maxLen = 9223372036854775807 := rfl
  have hsn : sn = salt.length := by have := s.hlen; simpa using this.symm
  have htag := fun w' (g : Grow w w') bo c sb => rMacC p w' ⟨sm.1.keep (Keep.of_grow [] g) (by simp), sm.2⟩ ko kc pass (sk.grow g) hkl bo c (salt ++ num4 i) sb (by simp [num4_len, ← hsn]; omega)
  have hu0 : macS pass (salt ++ num4 i) = uS pass salt i 0 := rfl
  rw [hu0] at htag
  have htl : (salt ++ num4 i).length = sn + 4 := by simp [num4_len, ← hsn]
  rw [htl] at htag
  have ht0 : uS pass salt i 0 = tS pass salt i 0 := rfl
  have Ht0 := Lib.hid ht0
  have hVl : ((uS pass salt i 0).map B).length = 32 := by rw [List.length_map]; exact uS_len _ _ _ _
  have hWl : ((tS pass salt i n).map B).length = 32 := by rw [List.length_map]; exact tS_len _ _ _ _
  obtain ⟨V, hV⟩ : ∃ V, V = (uS pass salt i 0).map B := ⟨_, rfl⟩
  obtain ⟨W, hW⟩ : ∃ V, V = (tS pass salt i n).map B := ⟨_, rfl⟩
  have hV1 : ∀ v ∈ V, v.oneCell' = true := by rw [hV]; exact B_one _
  have hW1 : ∀ v ∈ W, v.oneCell' = true := by rw [hW]; exact B_one _
  have i32 : (Try.prog.info? 27).map (·.size) = some 32 := by kernel_rfl
  rw [← hV] at hVl
  rw [← hW] at hWl
  simp only [← hV] at htag
  simp only [← hW] at hR
  have HV := Lib.hid hV
  have HW := Lib.hid hW
  have Hsm := Lib.hid sm
  obtain ⟨kn, hkn⟩ : ∃ n, n = pass.length := ⟨_, rfl⟩
  simp only [← hkn] at htag sk hkl ⊢
  have Hkn := Lib.hid hkn
  have Hsk := Lib.hid sk
  have o8 : Own (w.alloc (.cells (List.replicate 32 (.int .u8 0)).toArray 27)) 27 1 (some ⟨w.heap.size, 0, none⟩) 32 32 (List.replicate 32 (.int .u8 0)) := own_new w _ rfl (by omega)
  have ga := Grow.alloc w (.cells (List.replicate 32 (.int .u8 0)).toArray 27)
  clear hu0 ht0 hV hW hsn htl sk hkn sm
  go_enter Try.func41, Try.ntmps41
  go_upto_region 1 with (fail)
  change Code.wp _ _ _ ⟨_, _⟩ (w.alloc (.cells (List.replicate 32 (.int .u8 0)).toArray 27))
  have s1 := s.grow ga
  obtain ⟨q8, hq8⟩ : ∃ q, q = w.heap.size := ⟨_, rfl⟩
  generalize w.alloc (.cells (List.replicate 32 (.int .u8 0)).toArray 27) = w1 at *
  rw [← hq8] at o8 ⊢
  have Hq8 := Lib.hid hq8
  clear hq8 s
  have o0 : Own (w1.alloc (.cells #[] 5)) 5 1 (some ⟨w1.heap.size, 0, none⟩) 0 0 [] := Own.made (n := 0) (heap_alloc_new w1 _) rfl (by decide) (by simp)
  have g0 := Grow.alloc w1 (.cells #[] 5)
  have hsz1 : w1.heap.size ≤ w1.heap.size := Nat.le_refl _
  go_wp2_with (first
    | (at_builtin
       refine wpList_app TBy rfl rfl o0 (s1.grow g0) (by omega) (by omega) ?_
       intro ao1 cap1 w2 o7 _ kp blk1
       simp only [Nat.zero_add, List.nil_append] at o7
       have f7 : Fr (blk ao1) w1 := fun y hy => by
         rcases blk1 y hy with h | h
         · simp [blk] at h; omega
         · simp at h; omega
       have g2 : Grow w1 w2 := g0.then kp (fun y hy => by simp [blk] at hy; omega)
       have gN := Grow.alloc w2 (.cells #[.int .u8 ((i : Int) / 16777216), .int .u8 ((i : Int) / 65536 % 256), .int .u8 ((i : Int) / 256 % 256), .int .u8 ((i : Int) % 256)] 5)
       have sN := num4_new w2 i ((i : Int) / 16777216) ((i : Int) / 65536 % 256) ((i : Int) / 256 % 256) ((i : Int) % 256) (by omega) (by omega) (by omega) (by omega) 5
       have o7N := o7.grow gN
       clear o0 g0 kp blk1 o7 s1)
    | (at_builtin
       refine wpList_app TBy rfl rfl o7N sN (by omega) (by omega) ?_
       intro ao2 cap2 w3 o9 _ kp2 blk2
       rw [← List.map_append] at o9))
  have g3 : Grow w1 w3 := (g2.trans gN).then kp2 f7
  have hcc := htag w3 (ga.trans g3) ao2 cap2 o9.sl
  clear htag o7N sN gN kp2 blk2 f7 g2 o9 hsz1
  refine hcc _ ?_
  clear hcc
  intro w5 g5
  have G5 := g3.trans g5
  have hs5 := G5.size
  clear g3 g5
  obtain ⟨ou, ga1, th1, al1⟩ := newvar (t := 27) w5 (.int .u8 0) rfl (by omega) hVl hV1
  have hszF : (Try.prog.info? 27).map (·.size) = some V.toArray.size := by rw [List.size_toArray, hVl]; exact i32
  have hszL : (Try.prog.info? 27).map (·.size) = some V.length := by rw [hVl]; exact i32
  go_upto_region 3 with (refine wpList_store_mid rfl 27 _ _ rfl w5.heap.size 0 V.toArray rfl rfl th1 hszF al1 ?_)
  change Code.wp _ _ _ ⟨_, _⟩ ((w5.alloc (.cells (List.replicate 32 (.int .u8 0)).toArray 27)).setCells w5.heap.size 0 V)
  have G6 := G5.trans ga1
  have hq1 : w1.heap.size ≤ w5.heap.size := hs5
  have hltU := ou.lt w5.heap.size (by simp [blk])
  obtain ⟨qu, hqu⟩ : ∃ q, q = w5.heap.size := ⟨_, rfl⟩
  generalize (w5.alloc (.cells (List.replicate 32 (.int .u8 0)).toArray 27)).setCells w5.heap.size 0 V = w6 at *
  rw [← hqu] at ou hltU hq1 ⊢
  clear hqu th1 al1 ga1 G5 hs5
  obtain ⟨ot, gb1, th2, al2⟩ := newvar (t := 27) w6 (.int .u8 0) rfl (by omega) hVl hV1
  have hrg := own_range ou (by omega)
  go_upto_region 4 with (first | (refine wpList_load_mid rfl 27 _ rfl qu 0 rfl V _ hrg Try.underlying27 rfl hszL ?_) | (refine wpList_store_mid rfl 27 _ _ rfl w6.heap.size 0 V.toArray rfl rfl th2 hszF al2 ?_))
  change Code.wp _ _ _ ⟨_, _⟩ ((w6.alloc (.cells (List.replicate 32 (.int .u8 0)).toArray 27)).setCells w6.heap.size 0 V)
  have G7 := G6.trans gb1
  have ou7 := ou.grow gb1
  obtain ⟨qt, hqt⟩ : ∃ q, q = w6.heap.size := ⟨_, rfl⟩
  generalize (w6.alloc (.cells (List.replicate 32 (.int .u8 0)).toArray 27)).setCells w6.heap.size 0 V = w7 at *
  rw [← hqt] at ot hltU ⊢
  clear hqt th2 al2 gb1 G6 ou hrg hszF hszL
  rw [HV.out] at ou7 ot
  rw [Ht0.out] at ot
  go_upto_block 0 with (fail)
  refine rStrL p qu qt n ko kn kc pass salt i hn (by omega) w1 w7 ⟨Hsm.out.1.keep (Keep.of_grow [] ga) (by simp), Hsm.out.2⟩ (Hsk.out.grow ga) Hkn hkl G7 hq1 (by omega) ou7 ot ?_
  intro w8 o10 G8
  intros
  rw [← HW.out] at o10
  obtain ⟨r1, r3, r4⟩ := store_arr (P := Try.prog) hWl hW1 (o8.grow G8) i32
  have hf := hR _ ((ga.trans G8).then r4 (fun x hx => by simp at hx; have := Hq8.out; omega))
  have hth := own_there (o8.grow G8) W.toArray.size (by simpa using hWl)
  have hsz : (Try.prog.info? 27).map (·.size) = some W.toArray.size := by rw [List.size_toArray, hWl]; exact i32
  have hszL : (Try.prog.info? 27).map (·.size) = some W.length := by rw [hWl]; exact i32
  have hall := one_all hW1
  have hrg := own_range o10 (by omega)
  clear hR r1 r4 ou7 ot G7 ga o10
  go_upto_region 12 with (fail)
  refine wp_region_lit ?_
  refine wpList_load_mid rfl 27 _ rfl qt 0 rfl W _ hrg Try.underlying27 rfl hszL ?_
  refine wpList_store_mid rfl 27 _ _ rfl q8 0 W.toArray rfl rfl hth hsz hall ?_
  go_wp2_with fail
  exact bodyPost_ret (v := .agg W.toArray) (ret_bytes Try.results41 _ _ q8 W _ _ 32 rfl r3 (by decide) Try.underlying27 rfl i32) rfl hf


set_option maxRecDepth 100000 in
set_option maxHeartbeats 1000000 in
theorem rKeyL (pk : Nat) (ko : Option Addr) (kn kc : Nat) (pass : List UInt8) (so : Option Addr) (sn sc : Nat) (salt : List UInt8) (rn n : Nat) {c5 c6 c7 c8 c9 c10 c13 c14 c15 c16 c17 c18 c19 c20 c21 c22 c23 c24 c25 c26 c27 c28 c29 c30 c31 : Value} (w : World) (sm : Sm w pk Hs Ks) (sk : Sl w 1 ko kn kc (pass.map B)) (Hkn : Hid (kn = pass.length)) (hkl : kn ≤ 900000) (s : Sl w 1 so sn sc (salt.map B)) (hsn : sn ≤ 1000) (hn : n ≤ 256) (hr : rn ≤ 10000) {Q : Exit → Act → World → Prop}
    (hQ : ∀ (ao : Option Addr) (l c : Nat) (w' : World), Hid (l = 32 * ((n + 31) / 32)) → Own w' 5 1 ao l c ((keyB pass salt rn ((n + 31) / 32)).map B) → Grow w w' → Fr (blk ao) w → ∀ {u12 u13 u14 u15 u16 u17 u18 u19 u20 u21 u22 u23 u24 u25 u26 u27 u28 : Value}, Q .normal ⟨List.toArray (.pointer (some ⟨pk, 0, none⟩) :: .slice ko kn kc :: .slice so sn sc :: .int .i64 ((rn : Int) + 1) :: .int .i64 (n : Int) :: c5 :: c6 :: c7 :: c8 :: c9 :: c10 :: .slice ao l c :: u12 :: u13 :: u14 :: u15 :: u16 :: u17 :: u18 :: u19 :: u20 :: u21 :: u22 :: u23 :: u24 :: u25 :: u26 :: u27 :: u28 :: c29 :: c30 :: c31 :: []), []⟩ w') :
    Code.wp Try.prog (blockAt Try.f40 0) Q ⟨List.toArray (.pointer (some ⟨pk, 0, none⟩) :: .slice ko kn kc :: .slice so sn sc :: .int .i64 ((rn : Int) + 1) :: .int .i64 (n : Int) :: c5 :: c6 :: c7 :: c8 :: c9 :: c10 :: .slice none 0 0 :: .int .i64 1 :: c13 :: c14 :: c15 :: c16 :: c17 :: c18 :: c19 :: c20 :: c21 :: c22 :: c23 :: c24 :: c25 :: c26 :: c27 :: c28 :: c29 :: c30 :: c31 :: []), []⟩ w := by
  have hml : maxLen = 9223372036854775807 := rfl
  rw [Hkn.out] at sk hkl
  have hblk := fun i hi w' (g : Grow w w') => rBlkC pk ko kc pass so sn sc salt rn i w' ⟨sm.1.keep (Keep.of_grow [] g) (by simp), sm.2⟩ (sk.grow g) hkl (s.grow g) hsn hi hr
  simp only [← Hkn.out] at hblk
  generalize Hs = H at *
  generalize Ks = K at *
  clear sm sk hkl
  have i32 : (Try.prog.info? 27).map (·.size) = some 32 := by kernel_rfl
  conv => arg 2; whnf
  refine wp_block ?_
  go_loopw [11, 12] (fun ov vi wr => ∃ (j l c : Nat) (ao : Option Addr), vi = .int .i64 ((j : Int) + 1) ∧ ov = .slice ao l c ∧ Hid (l = 32 * j) ∧ j ≤ (n + 31) / 32 ∧ Own wr 5 1 ao l c ((keyB pass salt rn j).map B) ∧ Grow w wr ∧ Fr (blk ao) w) (fun _ vi _ => n + 65 - 32 * (intOf vi).toNat)
  case atStart => exact ⟨0, 0, 0, none, by simp, rfl, Lib.hid rfl, by omega, by simpa [keyB] using Own.none w _ _, Grow.refl _, by simp [blk, Fr]⟩
  case round =>
    obtain ⟨j, l, c, ao, rfl, rfl, hl, hj, oi, g, hb⟩ := hrel
    by_cases hlt : l < n
    · have hl' := hl.out
      have hc := hblk (j + 1) (by omega) wr g
      rw [show ((j + 1 : Nat) : Int) = (j : Int) + 1 by omega] at hc
      have hWl : ((tS pass salt (j + 1) rn).map B).length = 32 := by rw [List.length_map]; exact tS_len _ _ _ _
      have hkb : (keyB pass salt rn j).map B ++ (tS pass salt (j + 1) rn).map B = (keyB pass salt rn (j + 1)).map B := by rw [keyB, List.map_append]
      obtain ⟨W, hW⟩ : ∃ V, V = (tS pass salt (j + 1) rn).map B := ⟨_, rfl⟩
      have hW1 : ∀ v ∈ W, v.oneCell' = true := by rw [hW]; exact B_one _
      rw [← hW] at hWl hkb
      simp only [← hW] at hc
      have Hkb := Lib.hid hkb
      have hl2 : Hid (l + 32 = 32 * (j + 1)) := Lib.hid (by omega)
      have hmeas : n + 65 - 32 * (j + 1 + 1) < n + 65 - 32 * (j + 1) := by omega
      have hjn : j + 1 ≤ (n + 31) / 32 := by omega
      have hll : l ≤ 1000 := by omega
      have Hmeas := Lib.hid hmeas
      clear hW hkb hblk hl hl' hQ hmeas
      go_wp2_with fail
      refine hc _ ?_
      clear hc
      intro w5 g5
      have G5 := g.trans g5
      have oi5 := oi.grow g5
      clear oi g g5
      obtain ⟨o13, ga1, th1, al1⟩ := newvar (t := 27) w5 (.int .u8 0) rfl (by omega) hWl hW1
      have hszF : (Try.prog.info? 27).map (·.size) = some W.toArray.size := by rw [List.size_toArray, hWl]; exact i32
      go_upto_region 6 with (refine wpList_store_mid rfl 27 _ _ rfl w5.heap.size 0 W.toArray rfl rfl th1 hszF al1 ?_)
      change Code.wp _ _ _ ⟨_, _⟩ ((w5.alloc (.cells (List.replicate 32 (.int .u8 0)).toArray 27)).setCells w5.heap.size 0 W)
      have G6 := G5.trans ga1
      have oi6 := oi5.grow ga1
      obtain ⟨q, hq⟩ : ∃ q, q = w5.heap.size := ⟨_, rfl⟩
      generalize (w5.alloc (.cells (List.replicate 32 (.int .u8 0)).toArray 27)).setCells w5.heap.size 0 W = w6 at *
      rw [← hq] at o13 ⊢
      clear hq th1 al1 ga1 G5 oi5
      have so13 := o13.sl
      clear o13
      go_wp2_with (at_builtin; refine wpList_app TBy rfl rfl oi6 so13 (by omega) (by omega) ?_; intro ao1 cap1 w7 own7 _ kp7 blk7; rw [Hkb.out] at own7)
      have G7 := G6.then kp7 hb
      have hb7 : Fr (blk ao1) w := fun y hy => by
        rcases blk7 y hy with h | h
        · exact hb y h
        · have := G6.size; omega
      clear oi6 so13 kp7 blk7 Hkb G6
      go_roundw
      case rel => exact ⟨j + 1, l + 32, cap1, ao1, by go_num, rfl, hl2, hjn, own7, G7, hb7⟩
      case measure =>
        have := Hmeas.out
        simp [intOf]
        omega
    · have hjj : j = (n + 31) / 32 := by have := hl.out; omega
      have hl2 : Hid (l = 32 * ((n + 31) / 32)) := Lib.hid (by rw [hl.out, hjj])
      rw [hjj] at oi
      clear hl hblk hjj hj
      go_wp2_with fail
      exact hQ ao l c wr hl2 oi g hb

set_option maxRecDepth 100000 in
set_option maxHeartbeats 1000000 in
theorem rKeyC (p : Nat) (ko : Option Addr) (kn kc : Nat) (pass : List UInt8) (so : Option Addr) (sn sc : Nat) (salt : List UInt8) (rn n : Nat) (w : World) (sm : Sm w p Hs Ks) (sk : Sl w 1 ko kn kc (pass.map B)) (Hkn : Hid (kn = pass.length)) (hkl : kn ≤ 900000) (s : Sl w 1 so sn sc (salt.map B)) (hsn : sn ≤ 1000) (hn : n ≤ 256) (hr : rn ≤ 10000)
    (R : Ending → World → Prop) (hR : ∀ ao c w', Sl w' 1 ao n c ((keyS pass salt rn n).map B) → Grow w w' → R (.returned (.slice ao n c)) w') :
    Calls Try.prog 40 #[.pointer (some ⟨p, 0, none⟩), .slice ko kn kc, .slice so sn sc, .int .i64 ((rn : Int) + 1), .int .i64 (n : Int)] w R := by
  have hml : maxLen = 9223372036854775807 := rfl
  have hks : Hid ((keyB pass salt rn ((n + 31) / 32)).take n = keyS pass salt rn n) := Lib.hid rfl
  have Hsm := Lib.hid sm
  clear sm
  go_enter Try.func40, Try.ntmps40
  go_upto_block 0 with (fail)
  refine rKeyL p ko kn kc pass so sn sc salt rn n w Hsm.out sk Hkn hkl s hsn hn hr ?_
  intro ao l c w3 hl o3 g3 _
  intros
  have hl' := hl.out
  have hnl : n ≤ l := by omega
  obtain ⟨xo, xc, hcut, sk3, -⟩ := run_cut0 TBy o3.sl (n : Int) n rfl hnl
  rw [Nat.mul_one, ← List.map_take, hks.out] at sk3
  have hf := hR xo xc w3 sk3 g3
  clear hl hl' hks sk3 hR
  go_wp2_with fail
  exact hf
end Go.Proofs.Ytaepfkpfageiaaa
