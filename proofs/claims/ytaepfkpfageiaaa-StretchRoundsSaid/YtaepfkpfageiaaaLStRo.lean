/- The walk of StretchRounds. -/
import Derived.Test.YtaepfkpfageiaaaStrAw
import Derived.Test.YtaepfkpfageiaaaRStr
namespace Go.Proofs.Ytaepfkpfageiaaa
open Go Go.RowKit


set_option maxRecDepth 100000 in
set_option maxHeartbeats 1000000 in
theorem rndX (qu qt : Nat) (hne : qu ≠ qt) (U T : List UInt8) (hU : U.length = 32) (hT : T.length = 32) {c0 c1 c2 c3 c4 c5 c6 c7 c10 c11 c12 c14 c15 c16 c17 c18 c19 c20 c21 c22 c23 c24 c25 c26 c27 c28 c29 c30 c31 c32 c33 c34 c35 c36 c37 c38 c39 c40 c41 c42 c43 c44 c45 c46 c47 c48 c49 c50 c51 c52 c53 c54 c55 c56 c57 c58 c59 c60 c61 c62 c63 c64 c65 c66 c67 c68 c69 c70 c71 c72 c73 c74 c75 c76 c77 : Value} (w : World) (ou : Own w 27 1 (some ⟨qu, 0, none⟩) 32 32 (U.map B)) (ot : Own w 27 1 (some ⟨qt, 0, none⟩) 32 32 (T.map B)) {Q : Exit → Act → World → Prop}
    (hQ : ∀ (w' : World), Own w' 27 1 (some ⟨qt, 0, none⟩) 32 32 ((xorL T U).map B) → Keep [qt] w w' → ∀ {u13 u64 u65 u66 u67 u68 u69 u70 u71 u72 u73 u74 u75 u76 : Value}, Q .normal ⟨List.toArray (c0 :: c1 :: c2 :: c3 :: c4 :: c5 :: c6 :: c7 :: .pointer (some ⟨qu, 0, none⟩) :: .pointer (some ⟨qt, 0, none⟩) :: c10 :: c11 :: c12 :: u13 :: c14 :: c15 :: c16 :: c17 :: c18 :: c19 :: c20 :: c21 :: c22 :: c23 :: c24 :: c25 :: c26 :: c27 :: c28 :: c29 :: c30 :: c31 :: c32 :: c33 :: c34 :: c35 :: c36 :: c37 :: c38 :: c39 :: c40 :: c41 :: c42 :: c43 :: c44 :: c45 :: c46 :: c47 :: c48 :: c49 :: c50 :: c51 :: c52 :: c53 :: c54 :: c55 :: c56 :: c57 :: c58 :: c59 :: c60 :: c61 :: c62 :: c63 :: u64 :: u65 :: u66 :: u67 :: u68 :: u69 :: u70 :: u71 :: u72 :: u73 :: u74 :: u75 :: u76 :: c77 :: []), []⟩ w') :
    Code.wp Try.prog (blockAt Try.f11 2) Q ⟨List.toArray (c0 :: c1 :: c2 :: c3 :: c4 :: c5 :: c6 :: c7 :: .pointer (some ⟨qu, 0, none⟩) :: .pointer (some ⟨qt, 0, none⟩) :: c10 :: c11 :: c12 :: .int .i64 0 :: c14 :: c15 :: c16 :: c17 :: c18 :: c19 :: c20 :: c21 :: c22 :: c23 :: c24 :: c25 :: c26 :: c27 :: c28 :: c29 :: c30 :: c31 :: c32 :: c33 :: c34 :: c35 :: c36 :: c37 :: c38 :: c39 :: c40 :: c41 :: c42 :: c43 :: c44 :: c45 :: c46 :: c47 :: c48 :: c49 :: c50 :: c51 :: c52 :: c53 :: c54 :: c55 :: c56 :: c57 :: c58 :: c59 :: c60 :: c61 :: c62 :: c63 :: c64 :: c65 :: c66 :: c67 :: c68 :: c69 :: c70 :: c71 :: c72 :: c73 :: c74 :: c75 :: c76 :: c77 :: []), []⟩ w := by
  have hml : maxLen = 9223372036854775807 := rfl
  conv => arg 2; whnf
  refine wp_block ?_
  go_loopw [13] (fun vi wr => ∃ i : Nat, vi = .int .i64 (i : Int) ∧ i ≤ 32 ∧ Own wr 27 1 (some ⟨qt, 0, none⟩) 32 32 ((mixL T U i).map B) ∧ Keep [qt] w wr) (fun vi _ => 32 - (intOf vi).toNat)
  case atStart => exact ⟨0, by simp, by omega, by rw [mixL_zero]; exact ot, Keep.refl _ _⟩
  case round =>
    clear ot
    obtain ⟨i, rfl, hi, oi, ki⟩ := hrel
    by_cases hlt : i < 32
    · obtain ⟨x, hx⟩ : ∃ x, T[i]? = some x := ⟨_, List.getElem?_eq_getElem (by omega)⟩
      obtain ⟨y, hy⟩ : ∃ y, U[i]? = some y := ⟨_, List.getElem?_eq_getElem (by omega)⟩
      have hat := mixL_at T U i hT hU hlt
      rw [hx] at hat
      have hset2 := mixL_set T U i x y hT hU hlt hx hy
      have c1 : wr.cell? ⟨qt, i, none⟩ = some (.int .u8 (x.toNat : Int)) := oi.rowR.cell (by rw [List.getElem?_map, hat]; rfl)
      have c2 : wr.cell? ⟨qu, i, none⟩ = some (.int .u8 (y.toNat : Int)) := (ou.keep ki (by simp [blk]; exact hne)).rowR.cell (by rw [List.getElem?_map, hy]; rfl)
      have e1 := KW.cell (fp := []) (p0 := tt) c1 (by simp)
      have e2 := KW.cell (fp := []) (p0 := tt) c2 (by simp)
      have ex := xor_val2 x y
      have Hs2 := Lib.hid hset2
      obtain ⟨xn, hxn⟩ : ∃ n, n = x.toNat := ⟨_, rfl⟩
      obtain ⟨yn, hyn⟩ : ∃ n, n = y.toNat := ⟨_, rfl⟩
      obtain ⟨z, hz⟩ : ∃ z, z = x ^^^ y := ⟨_, rfl⟩
      rw [← hxn] at e1 ex
      rw [← hyn] at e2 ex
      rw [← hz] at ex Hs2
      clear hat hx hy c1 c2 hset2 hxn hyn hz hQ
      go_upto_region 16 with (fail)
      refine wp_region_R (segT wr []) (by kernel_rfl) segT_drew ?_
      unfold segT segK segR
      repeat (first | (refine wpV_skp rfl rfl ?_; simp only [List.set_cons_succ, List.set_cons_zero]) | (refine wpV_look rfl rfl rfl rfl rfl (fun K hK => ?_); go_big_quiet_op; refine hK _ ?_; clear hK K))
      refine wpV_end0 rfl rfl (by kernel_rfl) (fun w7 hC hF => ?_)
      obtain ⟨⟨w7, hk, -⟩, rfl⟩ := hC
      obtain ⟨g3, v, eg, hv, hfz, hset⟩ := own_put (oi.keep hk (by simp)) (i := i) (by omega)
      cases eg
      have o2 := hset (B z) rfl
      rw [← List.map_set, Hs2.out] at o2
      have k2 := (ki.trans (Keep.of_nil hk)).trans (Keep.setCell (fp := [qt]) w7 ⟨qt, i, none⟩ (by simp) (B z))
      clear hF e1 e2 hset oi ki hk Hs2
      unfold yields
      go_simp
      simp only [yUpon]
      rw [show Value.int IntKind.u8 ((z.toNat : Nat) : Int) = B z from rfl]
      generalize w7.setCell ⟨qt, i, none⟩ (B z) = w8 at *
      clear hv hfz ex
      go_wp2_with fail
      go_roundw
      case rel => exact ⟨i + 1, by go_num, by omega, o2, k2⟩
      case measure => simp [intOf]; omega
    · obtain rfl : i = 32 := by omega
      rw [mixL_all T U hT hU] at oi
      clear ou
      go_wp2_with fail
      exact hQ _ oi ki



set_option maxRecDepth 100000 in
set_option maxHeartbeats 1000000 in
theorem rndL (p qu qt n : Nat) (a0 : Option Addr) (N c0 : Nat) (pass : List UInt8) (a1 : Option Addr) (M c1 : Nat) (salt : List UInt8) (hn : n ≤ 8) (hN : Hid (N = pass.length)) (hNl : N ≤ 128) (hMl : M ≤ 64) (hne : qu ≠ qt) {c3 c4 c5 c6 c11 c12 c13 c14 c15 c16 c17 c18 c19 c20 c21 c22 c23 c24 c25 c26 c27 c28 c29 c30 c31 c32 c33 c34 c35 c36 c37 c38 c39 c40 c41 c42 c43 c44 c45 c46 c47 c48 c49 c50 c51 c52 c53 c54 c55 c56 c57 c58 c59 c60 c61 c62 c63 c64 c65 c66 c67 c68 c69 c70 c71 c72 c73 c74 c75 c76 c77 : Value} (w0 w : World) (sm : Sm w0 p Hs Ks) (s0 : Sl w0 1 a0 N c0 (pass.map B)) (s1 : Sl w0 1 a1 M c1 (salt.map B)) (g0 : Grow w0 w) (hqu : w0.heap.size ≤ qu) (hqt : w0.heap.size ≤ qt)
    (ou : Own w 27 1 (some ⟨qu, 0, none⟩) 32 32 ((uS pass salt 1 0).map B)) (ot : Own w 27 1 (some ⟨qt, 0, none⟩) 32 32 ((tS pass salt 1 0).map B)) {Q : Exit → Act → World → Prop}
    (hQ : ∀ (w' : World), Grow w0 w' → ∀ {u6 u10 u11 u12 u13 u41 u42 u43 u44 u45 u46 u47 u48 u49 u50 u51 u52 u53 u54 u55 u56 u57 u58 u59 u60 u61 u62 u63 u64 u65 u66 u67 u68 u69 u70 u71 u72 u73 u74 u75 u76 : Value}, Q .normal ⟨List.toArray (.slice a0 N c0 :: .slice a1 M c1 :: .int .i64 (n : Int) :: c3 :: c4 :: c5 :: u6 :: .pointer (some ⟨p, 0, none⟩) :: .pointer (some ⟨qu, 0, none⟩) :: .pointer (some ⟨qt, 0, none⟩) :: u10 :: u11 :: u12 :: u13 :: c14 :: c15 :: c16 :: c17 :: c18 :: c19 :: c20 :: c21 :: c22 :: c23 :: c24 :: c25 :: c26 :: c27 :: c28 :: c29 :: c30 :: c31 :: c32 :: c33 :: c34 :: c35 :: c36 :: c37 :: c38 :: c39 :: c40 :: u41 :: u42 :: u43 :: u44 :: u45 :: u46 :: u47 :: u48 :: u49 :: u50 :: u51 :: u52 :: u53 :: u54 :: u55 :: u56 :: u57 :: u58 :: u59 :: u60 :: u61 :: u62 :: u63 :: u64 :: u65 :: u66 :: u67 :: u68 :: u69 :: u70 :: u71 :: u72 :: u73 :: u74 :: u75 :: u76 :: c77 :: []), []⟩ w') :
    Code.wp Try.prog (blockAt Try.f11 0) Q ⟨List.toArray (.slice a0 N c0 :: .slice a1 M c1 :: .int .i64 (n : Int) :: c3 :: c4 :: c5 :: c6 :: .pointer (some ⟨p, 0, none⟩) :: .pointer (some ⟨qu, 0, none⟩) :: .pointer (some ⟨qt, 0, none⟩) :: .int .i64 1 :: c11 :: c12 :: c13 :: c14 :: c15 :: c16 :: c17 :: c18 :: c19 :: c20 :: c21 :: c22 :: c23 :: c24 :: c25 :: c26 :: c27 :: c28 :: c29 :: c30 :: c31 :: c32 :: c33 :: c34 :: c35 :: c36 :: c37 :: c38 :: c39 :: c40 :: c41 :: c42 :: c43 :: c44 :: c45 :: c46 :: c47 :: c48 :: c49 :: c50 :: c51 :: c52 :: c53 :: c54 :: c55 :: c56 :: c57 :: c58 :: c59 :: c60 :: c61 :: c62 :: c63 :: c64 :: c65 :: c66 :: c67 :: c68 :: c69 :: c70 :: c71 :: c72 :: c73 :: c74 :: c75 :: c76 :: c77 :: []), []⟩ w := by
  have hml : maxLen = 9223372036854775807 := rfl
  have i32 : (Try.prog.info? 27).map (·.size) = some 32 := by kernel_rfl
  have hmay : ∀ j, j < 8 → mayB N M ((j : Nat) + 1) = true := fun j hj => decide_eq_true ⟨by omega, by omega, by omega, by omega⟩
  rw [hN.out] at s0 hmay
  have hblk := fun j hj w' (g : Grow w0 w') => strBlockOk a0 c0 pass a1 M c1 salt j 1 w' (s0.grow g) (s1.grow g) (hmay j hj) (by decide) (by decide)
  have htag := fun U (hU : U.length = 32) w' (g : Grow w0 w') bo c sb => rMacC p w' (sm.grow g) a0 c0 pass (s0.grow g) (by rw [← hN.out]; omega) bo c U sb (by omega)
  rw [show ((1 : Nat) : Int) = 1 from rfl] at hblk
  generalize Hs = H at *
  generalize Ks = K at *
  simp only [← hN.out] at htag hblk
  clear sm s0 s1 hmay
  conv => arg 2; whnf
  refine wp_block ?_
  go_loopw [10] (fun vi wr => ∃ j : Nat, vi = .int .i64 ((j : Int) + 1) ∧ j ≤ n ∧ Own wr 27 1 (some ⟨qu, 0, none⟩) 32 32 ((uS pass salt 1 j).map B) ∧ Own wr 27 1 (some ⟨qt, 0, none⟩) 32 32 ((tS pass salt 1 j).map B) ∧ Grow w0 wr) (fun vi _ => n + 1 - (intOf vi).toNat)
  case atStart => exact ⟨0, by simp, by omega, ou, ot, g0⟩
  case round =>
    clear ou ot g0
    obtain ⟨j, rfl, hj, ou, ot, g⟩ := hrel
    by_cases hlt : j < n
    · have hul := uS_len pass salt 1 j
      have hcb := hblk j (by omega) wr g
      have hc := fun w' g => htag (uS pass salt 1 j) hul w' g (some ⟨qu, 0, none⟩) 32
      rw [show macS pass (uS pass salt 1 j) = uS pass salt 1 (j + 1) from rfl, hul] at hc
      have hts : tS pass salt 1 (j + 1) = xorL (tS pass salt 1 j) (uS pass salt 1 (j + 1)) := rfl
      have hTl := tS_len pass salt 1 j
      have hUl := uS_len pass salt 1 (j + 1)
      have heq := eq_hash (tS pass salt 1 j) (tS pass salt 1 j) (tS_len _ _ _ _) (tS_len _ _ _ _)
      rw [beq_self_eq_true] at heq
      obtain ⟨T, hT⟩ : ∃ T, T = tS pass salt 1 j := ⟨_, rfl⟩
      obtain ⟨U, hU⟩ : ∃ U, U = uS pass salt 1 (j + 1) := ⟨_, rfl⟩
      rw [← hT] at hts ot hTl
      rw [← hT] at heq hcb
      rw [← hU] at hts hc hUl
      have Hts := Lib.hid hts
      have HU := Lib.hid hU
      obtain ⟨V, hV⟩ : ∃ V, V = U.map B := ⟨_, rfl⟩
      have hVl : V.length = 32 := by rw [hV, List.length_map]; exact hUl
      have hV1 : ∀ v ∈ V, v.oneCell' = true := by rw [hV]; exact B_one _
      obtain ⟨W, hW⟩ : ∃ V, V = T.map B := ⟨_, rfl⟩
      have hWl : W.length = 32 := by rw [hW, List.length_map]; exact hTl
      have hW1 : ∀ v ∈ W, v.oneCell' = true := by rw [hW]; exact B_one _
      simp only [← hV] at hc
      simp only [← hW] at hcb heq
      rw [← hW] at ot
      have HV := Lib.hid hV
      have HW := Lib.hid hW
      clear htag hblk hts hT hU hV hW hQ hul
      go_wp2_with fail
      refine hcb _ ?_
      clear hcb
      intro w2 g2
      have G2 := g.trans g2
      have ou2 := ou.grow g2
      have ot2 := ot.grow g2
      clear g g2 ou ot
      obtain ⟨o11, ga1, th1, al1⟩ := newvar (t := 27) w2 (.int .u8 0) rfl (by omega) hWl hW1
      have hszF : (Try.prog.info? 27).map (·.size) = some W.toArray.size := by rw [List.size_toArray, hWl]; exact i32
      go_upto_region 10 with (refine wpList_store_mid rfl 27 _ _ rfl w2.heap.size 0 W.toArray rfl rfl th1 hszF al1 ?_)
      change Code.wp _ _ _ ⟨_, _⟩ ((w2.alloc (.cells (List.replicate 32 (.int .u8 0)).toArray 27)).setCells w2.heap.size 0 W)
      have G3 := G2.trans ga1
      have ou3 := ou2.grow ga1
      have ot3 := ot2.grow ga1
      obtain ⟨q11, hq⟩ : ∃ q, q = w2.heap.size := ⟨_, rfl⟩
      generalize (w2.alloc (.cells (List.replicate 32 (.int .u8 0)).toArray 27)).setCells w2.heap.size 0 W = w3 at *
      rw [← hq] at o11 ⊢
      have hge_q11 : w2.heap.size ≤ q11 := by omega
      clear hq th1 al1 ga1 hszF G2 ou2 ot2
      have r1 := own_range o11 (by omega)
      have r2 := own_range ot3 (by omega)
      have hsW : (Try.prog.info? 27).map (·.size) = some W.length := by rw [hWl]; exact i32
      have hcc := hc w3 G3 ou3.sl
      clear hc
      go_wp2_with (first | refine wpList_load_G 27 _ rfl rfl q11 0 rfl W _ r1 Try.underlying27 rfl hsW ?_ | refine wpList_load_G 27 _ rfl rfl qt 0 rfl W _ r2 Try.underlying27 rfl hsW ?_)
      refine hcc _ ?_
      clear hcc r1 r2 hsW heq
      intro w5 g5
      have ou5 := ou3.grow g5
      have ot5 := ot3.grow g5
      have G5 := G3.trans g5
      clear ou3 ot3 G3 g5 o11
      obtain ⟨r1, r3, r4⟩ := store_arr (P := Try.prog) hVl hV1 ou5 i32
      have hth := own_there ou5 V.toArray.size (by simpa using hVl)
      have hsz : (Try.prog.info? 27).map (·.size) = some V.toArray.size := by rw [List.size_toArray, hVl]; exact i32
      have hall := one_all hV1
      have ot6 := ot5.keep r4 (by simp [blk]; exact fun e => hne e.symm)
      have G6 := G5.then r4 (fun x hx => by simp at hx; omega)
      clear r1 r4 ot5 ou5 G5
      go_upto_block 2 with (refine wpList_store_mid rfl 27 _ _ rfl qu 0 V.toArray rfl rfl hth hsz hall ?_)
      change Code.wp _ _ _ _ (w5.setCells qu 0 V)
      clear hth hsz hall
      generalize w5.setCells qu 0 V = w6 at *
      rw [HV.out] at r3
      rw [HW.out] at ot6
      refine rndX qu qt hne U T hUl hTl w6 r3 ot6 ?_
      intro w7 o7 k7
      intros
      have ou7 := r3.keep k7 (by simp [blk]; exact hne)
      have G7 := G6.then k7 (fun x hx => by simp at hx; omega)
      rw [← Hts.out] at o7
      rw [HU.out] at ou7
      clear r3 ot6 G6 k7 Hts HU HV HW
      go_wp2_with fail
      exact ⟨⟨j + 1, by go_num, by omega, ou7, o7, G7⟩, by simp [intOf]; omega⟩
    · obtain rfl : j = n := by omega
      clear ou ot htag hblk
      go_wp2_with fail
      exact g

set_option maxRecDepth 100000 in
set_option maxHeartbeats 2000000 in
theorem strRoW (a0 : Option Addr) (c0 : Nat) (pass : List UInt8) (a1 : Option Addr) (c1 : Nat) (salt : List UInt8) (nz : Int) (w : World) (s0 : Sl w 1 a0 pass.length c0 (pass.map B)) (s1 : Sl w 1 a1 salt.length c1 (salt.map B)) (_ : (Lit.int IntKind.i64 nz).wf = true)
    (R : Ending → World → Prop) (hR : ∀ w', Grow w w' → R (.returned (.bool true)) w') :
    Calls Try.prog 11 #[.slice a0 pass.length c0, .slice a1 salt.length c1, .int .i64 nz] w R := by
  have hml : maxLen = 9223372036854775807 := rfl
  have haw := awake3C
  have hm0 := s0.hcap
  have hn0 := s0.hle
  have hm1 := s1.hcap
  have hn1 := s1.hle
  by_cases hx1 : 128 < pass.length
  · go_enter Try.func11, Try.ntmps11
    go_wp2_with fail
    refine haw _ _ ?_
    intro w2 g2
    have hf := hR w2 g2
    clear hR
    go_wp2_with fail
    exact hf
  have hg1 : decide (128 < (pass.length : Int)) = false := decide_eq_false (by omega)
  by_cases hx2 : 64 < salt.length
  · go_enter Try.func11, Try.ntmps11
    go_wp2_with fail
    refine haw _ _ ?_
    intro w2 g2
    have hf := hR w2 g2
    clear hR
    go_wp2_with fail
    exact hf
  have hg2 : decide (64 < (salt.length : Int)) = false := decide_eq_false (by omega)
  by_cases hx3 : nz < 1
  · go_enter Try.func11, Try.ntmps11
    go_wp2_with fail
    refine haw _ _ ?_
    intro w2 g2
    have hf := hR w2 g2
    clear hR
    go_wp2_with fail
    exact hf
  have hg3 : decide (nz < 1) = false := decide_eq_false (by omega)
  by_cases hx4 : 8 < nz
  · go_enter Try.func11, Try.ntmps11
    go_wp2_with fail
    refine haw _ _ ?_
    intro w2 g2
    have hf := hR w2 g2
    clear hR
    go_wp2_with fail
    exact hf
  have hg4 : decide (8 < nz) = false := decide_eq_false (by omega)
  obtain ⟨n, rfl⟩ : ∃ i : Nat, nz = (i : Int) := ⟨nz.toNat, by omega⟩
  have hn : n ≤ 8 := by omega
  have hnew := rNewC
  have hMA := fun p w' sm sk bo c sb => rMacC p w' sm a0 c0 pass sk (by omega) bo c (salt ++ num4 1) sb (by simp [num4_len]; omega)
  rw [show macS pass (salt ++ num4 1) = uS pass salt 1 0 from rfl, List.length_append, num4_len] at hMA
  have hVl : ((uS pass salt 1 0).map B).length = 32 := by rw [List.length_map]; exact uS_len _ _ _ _
  obtain ⟨V, hV⟩ : ∃ V, V = (uS pass salt 1 0).map B := ⟨_, rfl⟩
  have hV1 : ∀ v ∈ V, v.oneCell' = true := by rw [hV]; exact B_one _
  have i32 : (Try.prog.info? 27).map (·.size) = some 32 := by kernel_rfl
  simp only [← hV] at hVl hMA
  have HV := Lib.hid hV
  obtain ⟨N, hN⟩ : ∃ N, N = pass.length := ⟨_, rfl⟩
  obtain ⟨M, hM⟩ : ∃ N, N = salt.length := ⟨_, rfl⟩
  have hNl : N ≤ 128 := by omega
  have hMl : M ≤ 64 := by omega
  rw [← hN] at s0 hg1 hMA ⊢
  rw [← hM] at s1 hg2 hMA ⊢
  have HN := Lib.hid hN
  clear hV hN hM hx1 hx2 hx3 hx4 hm0 hm1 hn0 hn1
  go_enter Try.func11, Try.ntmps11
  go_wp2_with fail
  refine hnew _ _ ?_
  clear hg1 hg2 hg3 hg4 hnew
  intro p w1 sm g1 _
  have Hsm := Lib.hid sm
  have s01 := s0.grow g1
  have s11 := s1.grow g1
  clear s0 s1
  have o0 : Own (w1.alloc (.cells #[] 5)) 5 1 (some ⟨w1.heap.size, 0, none⟩) 0 0 [] := Own.made (n := 0) (heap_alloc_new w1 _) rfl (by decide) (by simp)
  have g0 := Grow.alloc w1 (.cells #[] 5)
  go_wp2_with (first
    | (at_builtin
       refine wpList_app TBy rfl rfl o0 (s11.grow g0) (by omega) (by omega) ?_
       intro ao1 cap1 wx o7 _ kp blk1
       simp only [Nat.zero_add, List.nil_append] at o7
       have f7 : Fr (blk ao1) w1 := fun y hy => by
         rcases blk1 y hy with h | h
         · simp [blk] at h; omega
         · simp at h; omega
       have ga2 : Grow w1 wx := g0.then kp (fun y hy => by simp [blk] at hy; omega)
       have gN := Grow.alloc wx (.cells #[.int .u8 (0), .int .u8 (0), .int .u8 (0), .int .u8 (1)] 5)
       have sN := num4_new wx 1 (0) (0) (0) (1) (by omega) (by omega) (by omega) (by omega) 5
       have o7N := o7.grow gN
       clear o0 g0 kp blk1 o7)
    | (at_builtin
       refine wpList_app TBy rfl rfl o7N sN (by omega) (by omega) ?_
       intro ao2 cap2 w2 own2 _ kp2 blk2
       rw [← List.map_append] at own2))
  have g2 : Grow w1 w2 := (ga2.trans gN).then kp2 f7
  clear o7N sN gN kp2 blk2 f7 ga2
  have c3 := hMA p w2 (sm.grow g2) (s01.grow g2) ao2 cap2 own2.sl
  clear hMA own2 sm
  refine c3 _ ?_
  clear c3
  intro w3 g3
  have G3 := g2.trans g3
  clear g2 g3
  have hsz3 := G3.size
  obtain ⟨o8, ga1, th1, al1⟩ := newvar (t := 27) w3 (.int .u8 0) rfl (by omega) hVl hV1
  have hszF : (Try.prog.info? 27).map (·.size) = some V.toArray.size := by rw [List.size_toArray, hVl]; exact i32
  go_upto_region 5 with (refine wpList_store_mid rfl 27 _ _ rfl w3.heap.size 0 V.toArray rfl rfl th1 hszF al1 ?_)
  change Code.wp _ _ _ ⟨_, _⟩ ((w3.alloc (.cells (List.replicate 32 (.int .u8 0)).toArray 27)).setCells w3.heap.size 0 V)
  have G4 := G3.trans ga1
  obtain ⟨q8, hq⟩ : ∃ q, q = w3.heap.size := ⟨_, rfl⟩
  generalize (w3.alloc (.cells (List.replicate 32 (.int .u8 0)).toArray 27)).setCells w3.heap.size 0 V = w4 at *
  rw [← hq] at o8 ⊢
  have hge_q8 : w3.heap.size ≤ q8 := by omega
  clear hq th1 al1 ga1 hszF G3 
  have hq8 : w1.heap.size ≤ q8 ∧ q8 < w4.heap.size := ⟨by omega, o8.lt q8 (by simp [blk])⟩
  have hrg := own_range o8 (by omega)
  have hsV : (Try.prog.info? 27).map (·.size) = some V.length := by rw [hVl]; exact i32
  obtain ⟨o9, gb1, th2, al2⟩ := newvar (t := 27) w4 (.int .u8 0) rfl (by omega) hVl hV1
  have hszF : (Try.prog.info? 27).map (·.size) = some V.toArray.size := by rw [List.size_toArray, hVl]; exact i32
  go_upto_block 0 with (first | (refine wpList_load_mid rfl 27 _ rfl q8 0 rfl V _ hrg Try.underlying27 rfl hsV ?_) | (refine wpList_store_mid rfl 27 _ _ rfl w4.heap.size 0 V.toArray rfl rfl th2 hszF al2 ?_))
  change Code.wp _ _ _ ⟨_, _⟩ ((w4.alloc (.cells (List.replicate 32 (.int .u8 0)).toArray 27)).setCells w4.heap.size 0 V)
  have G5 := G4.trans gb1
  have o8b := o8.grow gb1
  obtain ⟨qt, hqt⟩ : ∃ q, q = w4.heap.size := ⟨_, rfl⟩
  generalize (w4.alloc (.cells (List.replicate 32 (.int .u8 0)).toArray 27)).setCells w4.heap.size 0 V = w5 at *
  rw [← hqt] at o9 hq8 ⊢
  clear hqt th2 al2 gb1 G4 o8 hrg hszF hsV
  rw [HV.out] at o8b o9
  refine rndL p q8 qt n a0 N c0 pass a1 M c1 salt hn HN hNl hMl (by omega) w1 w5 Hsm.out s01 s11 G5 hq8.1 (by omega) o8b o9 ?_
  intro w6 g6
  intros
  have G6 := g1.trans g6
  clear G5 o8b o9 g6
  go_wp2_with fail
  refine haw _ _ ?_
  intro w7 g7
  have hf := hR _ (G6.trans g7)
  clear hR
  go_wp2_with fail
  exact hf
end Go.Proofs.Ytaepfkpfageiaaa
