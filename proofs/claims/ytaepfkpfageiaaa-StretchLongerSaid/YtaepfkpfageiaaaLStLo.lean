/- The walk of StretchLonger. -/
import Derived.Test.YtaepfkpfageiaaaStrAw
import Derived.Test.YtaepfkpfageiaaaGTabE
namespace Go.Proofs.Ytaepfkpfageiaaa
open Go Go.RowKit

theorem keyS_take (pass salt : List UInt8) (r n m : Nat) (h : n ≤ m) : (keyS pass salt r m).take n = keyS pass salt r n := by
  unfold keyS
  rw [List.take_take, Nat.min_eq_left h, ← keyB_take pass salt r ((n + 31) / 32) ((m + 31) / 32) (by omega), List.take_take]
  congr 1
  omega
theorem keyS_blk (pass salt : List UInt8) (r i : Nat) (h : i < 6) : ((keyS pass salt r 200).drop (32 * i)).take 32 = tS pass salt (i + 1) r := by
  unfold keyS
  rw [List.drop_take, List.take_take, show min 32 (200 - 32 * i) = 32 by omega]
  have h1 : ((keyB pass salt r ((200 + 31) / 32)).drop (32 * i)).take 32 = ((keyB pass salt r ((200 + 31) / 32)).take (32 * (i + 1))).drop (32 * i) := by
    rw [List.drop_take]; congr 1; omega
  rw [h1, keyB_take pass salt r (i + 1) _ (by omega), keyB, List.drop_append_of_le_length (by rw [keyB_len]; omega), List.drop_eq_nil_of_le (by rw [keyB_len]; omega), List.nil_append]


set_option maxRecDepth 100000 in
set_option maxHeartbeats 1000000 in
theorem slo5 (n : Nat) (ao : Option Addr) (c : Nat) (bo : Option Addr) (d : Nat) (K L : List UInt8) (hn : n ≤ 200) (hK : Hid (L.take n = K)) {c0 c1 c2 c4 c5 c6 c7 c8 c13 c14 c15 c16 c17 c18 c19 c20 c21 c22 c23 c24 c25 c26 c27 c28 c29 c30 c31 c32 c33 c34 c35 c36 c37 c38 c39 c40 c41 c42 c43 c44 c45 c46 c47 c48 c49 c50 c51 c52 c53 c54 c55 c56 c57 c58 c59 c60 c61 c62 c63 c64 c65 c66 c67 c68 c69 c70 c71 c72 c73 c74 c75 c76 c77 c78 c79 c80 c81 c82 c83 c84 c85 c86 c87 c88 c89 c90 c91 c92 c93 c94 c95 c96 c97 c98 c99 c100 c101 c102 c103 c104 c105 c106 c107 c108 c109 c110 : Value} (w : World) (sa : Sl w 1 ao n c (K.map B)) (sb : Sl w 1 bo 200 d (L.map B)) {Q : Exit → Act → World → Prop}
    (hQ : ∀ w' : World, Grow w w' → ∀ {u56 u57 u58 u59 u60 u61 u62 u63 u64 u65 u66 u67 u68 u69 u70 u71 u72 u73 u74 u75 u76 u77 u78 u79 u80 : Value}, Q .normal ⟨List.toArray (c0 :: c1 :: c2 :: .int .i64 (n : Int) :: c4 :: c5 :: c6 :: c7 :: c8 :: .slice ao n c :: .int .i64 0 :: .slice bo 200 d :: .int .i64 0 :: c13 :: c14 :: c15 :: c16 :: c17 :: c18 :: c19 :: c20 :: c21 :: c22 :: c23 :: c24 :: c25 :: c26 :: c27 :: c28 :: c29 :: c30 :: c31 :: c32 :: c33 :: c34 :: c35 :: c36 :: c37 :: c38 :: c39 :: c40 :: c41 :: c42 :: c43 :: c44 :: c45 :: c46 :: c47 :: c48 :: c49 :: c50 :: c51 :: c52 :: c53 :: c54 :: c55 :: u56 :: u57 :: u58 :: u59 :: u60 :: u61 :: u62 :: u63 :: u64 :: u65 :: u66 :: u67 :: u68 :: u69 :: u70 :: u71 :: u72 :: u73 :: u74 :: u75 :: u76 :: u77 :: u78 :: u79 :: u80 :: .bool false :: c82 :: c83 :: c84 :: c85 :: c86 :: c87 :: c88 :: c89 :: c90 :: c91 :: c92 :: c93 :: c94 :: c95 :: c96 :: c97 :: c98 :: c99 :: c100 :: c101 :: c102 :: c103 :: c104 :: c105 :: c106 :: c107 :: c108 :: c109 :: c110 :: []), []⟩ w') :
    Code.wp Try.prog (regionAt Try.f10 5) Q ⟨List.toArray (c0 :: c1 :: c2 :: .int .i64 (n : Int) :: c4 :: c5 :: c6 :: c7 :: c8 :: .slice ao n c :: .int .i64 0 :: .slice bo 200 d :: .int .i64 0 :: c13 :: c14 :: c15 :: c16 :: c17 :: c18 :: c19 :: c20 :: c21 :: c22 :: c23 :: c24 :: c25 :: c26 :: c27 :: c28 :: c29 :: c30 :: c31 :: c32 :: c33 :: c34 :: c35 :: c36 :: c37 :: c38 :: c39 :: c40 :: c41 :: c42 :: c43 :: c44 :: c45 :: c46 :: c47 :: c48 :: c49 :: c50 :: c51 :: c52 :: c53 :: c54 :: c55 :: c56 :: c57 :: c58 :: c59 :: c60 :: c61 :: c62 :: c63 :: c64 :: c65 :: c66 :: c67 :: c68 :: c69 :: c70 :: c71 :: c72 :: c73 :: c74 :: c75 :: c76 :: c77 :: c78 :: c79 :: c80 :: c81 :: c82 :: c83 :: c84 :: c85 :: c86 :: c87 :: c88 :: c89 :: c90 :: c91 :: c92 :: c93 :: c94 :: c95 :: c96 :: c97 :: c98 :: c99 :: c100 :: c101 :: c102 :: c103 :: c104 :: c105 :: c106 :: c107 :: c108 :: c109 :: c110 :: []), []⟩ w := by
  have hml : maxLen = 9223372036854775807 := rfl
  have hkm := sb.hcap
  have hks := sb.hle
  have hKK : (K == K) = true := by simp
  obtain ⟨so, sc, hcut, sk, -⟩ := run_cut0 TBy sb (n : Int) n rfl hn
  rw [Nat.mul_one, ← List.map_take, hK.out] at sk
  clear sb
  conv => arg 2; whnf
  refine wp_region_R (segT w [(21, pIs (.string (str K))), (23, pIs (.string (str K)))]) (by kernel_rfl) segT_drew ?_
  unfold segT segK segR
  repeat (first | (refine wpV_skp rfl rfl ?_; simp only [List.set_cons_succ, List.set_cons_zero]) | (refine wpV_look rfl rfl rfl rfl rfl (fun K hK => ?_); go_big_quiet_op; refine hK _ ?_; clear hK K))
  refine wpV_mk rfl rfl rfl [] (by kernel_rfl) (fun vs w7 hC hF => ?_) (fun vs v w7 hC hV hF => ?_)
  · obtain ⟨⟨w7, hk, -⟩, rfl⟩ := hC
    exact yields_run (exec_conv (run_str (d := 9) Try.underlying22 Try.underlying5 Try.underlying9 (sk.keep hk (by simp)))) ⟨⟨Keep.refl [] _, trivial⟩, rfl⟩
  obtain rfl := hV
  clear hC hF w7
  simp only [List.set_cons_succ, List.set_cons_zero]
  repeat (first | (refine wpV_skp rfl rfl ?_; simp only [List.set_cons_succ, List.set_cons_zero]) | (refine wpV_look rfl rfl rfl rfl rfl (fun K hK => ?_); go_big_quiet_op; refine hK _ ?_; clear hK K))
  refine wpV_mk rfl rfl rfl [] (by kernel_rfl) (fun vs w7 hC hF => ?_) (fun vs v w7 hC hV hF => ?_)
  · obtain ⟨⟨w7, hk, -⟩, rfl⟩ := hC
    exact yields_run (exec_conv (run_str (d := 9) Try.underlying22 Try.underlying5 Try.underlying9 (sa.keep hk (by simp)))) ⟨⟨Keep.refl [] _, trivial⟩, rfl⟩
  obtain rfl := hV
  clear hC hF w7
  simp only [List.set_cons_succ, List.set_cons_zero]
  repeat (first | (refine wpV_skp rfl rfl ?_; simp only [List.set_cons_succ, List.set_cons_zero]) | (refine wpV_look rfl rfl rfl rfl rfl (fun K hK => ?_); go_big_quiet_op; refine hK _ ?_; clear hK K))
  refine wpV_nil ?_
  intro w9 hC hF
  obtain ⟨⟨w9, hk, -⟩, rfl⟩ := hC
  exact hQ w9 hk.grow


set_option maxRecDepth 100000 in
set_option maxHeartbeats 1000000 in
theorem slo11 (i q : Nat) (bo : Option Addr) (d : Nat) (T L : List UInt8) (hi : i < 6) (hT : Hid ((L.drop (32 * i)).take 32 = T)) {c0 c1 c2 c3 c4 c5 c6 c7 c8 c9 c10 c12 c16 c17 c18 c19 c20 c21 c22 c23 c24 c25 c26 c27 c28 c29 c30 c31 c32 c33 c34 c35 c36 c37 c38 c39 c40 c41 c42 c43 c44 c45 c46 c47 c48 c49 c50 c51 c52 c53 c54 c55 c56 c57 c58 c59 c60 c61 c62 c63 c64 c65 c66 c67 c68 c69 c70 c71 c72 c73 c74 c75 c76 c77 c78 c79 c80 c81 c82 c83 c84 c85 c86 c87 c88 c89 c90 c91 c92 c93 c94 c95 c96 c97 c98 c99 c100 c101 c102 c103 c104 c105 c106 c107 c108 c109 c110 : Value} (w : World) (sb : Sl w 1 bo 200 d (L.map B)) (o : Sl w 1 (some ⟨q, 0, none⟩) 32 32 (T.map B)) {Q : Exit → Act → World → Prop}
    (hQ : ∀ w' : World, Grow w w' → ∀ {u95 u96 u97 u98 u99 u100 u101 u102 u103 u104 u105 u106 u107 u108 : Value}, Q .normal ⟨List.toArray (c0 :: c1 :: c2 :: c3 :: c4 :: c5 :: c6 :: c7 :: c8 :: c9 :: c10 :: .slice bo 200 d :: c12 :: .int .i64 (i : Int) :: .pointer (some ⟨q, 0, none⟩) :: .int .i64 0 :: c16 :: c17 :: c18 :: c19 :: c20 :: c21 :: c22 :: c23 :: c24 :: c25 :: c26 :: c27 :: c28 :: c29 :: c30 :: c31 :: c32 :: c33 :: c34 :: c35 :: c36 :: c37 :: c38 :: c39 :: c40 :: c41 :: c42 :: c43 :: c44 :: c45 :: c46 :: c47 :: c48 :: c49 :: c50 :: c51 :: c52 :: c53 :: c54 :: c55 :: c56 :: c57 :: c58 :: c59 :: c60 :: c61 :: c62 :: c63 :: c64 :: c65 :: c66 :: c67 :: c68 :: c69 :: c70 :: c71 :: c72 :: c73 :: c74 :: c75 :: c76 :: c77 :: c78 :: c79 :: c80 :: c81 :: c82 :: c83 :: c84 :: c85 :: c86 :: c87 :: c88 :: c89 :: c90 :: c91 :: c92 :: c93 :: c94 :: u95 :: u96 :: u97 :: u98 :: u99 :: u100 :: u101 :: u102 :: u103 :: u104 :: u105 :: u106 :: u107 :: u108 :: .bool false :: c110 :: []), []⟩ w') :
    Code.wp Try.prog (regionAt Try.f10 11) Q ⟨List.toArray (c0 :: c1 :: c2 :: c3 :: c4 :: c5 :: c6 :: c7 :: c8 :: c9 :: c10 :: .slice bo 200 d :: c12 :: .int .i64 (i : Int) :: .pointer (some ⟨q, 0, none⟩) :: .int .i64 0 :: c16 :: c17 :: c18 :: c19 :: c20 :: c21 :: c22 :: c23 :: c24 :: c25 :: c26 :: c27 :: c28 :: c29 :: c30 :: c31 :: c32 :: c33 :: c34 :: c35 :: c36 :: c37 :: c38 :: c39 :: c40 :: c41 :: c42 :: c43 :: c44 :: c45 :: c46 :: c47 :: c48 :: c49 :: c50 :: c51 :: c52 :: c53 :: c54 :: c55 :: c56 :: c57 :: c58 :: c59 :: c60 :: c61 :: c62 :: c63 :: c64 :: c65 :: c66 :: c67 :: c68 :: c69 :: c70 :: c71 :: c72 :: c73 :: c74 :: c75 :: c76 :: c77 :: c78 :: c79 :: c80 :: c81 :: c82 :: c83 :: c84 :: c85 :: c86 :: c87 :: c88 :: c89 :: c90 :: c91 :: c92 :: c93 :: c94 :: c95 :: c96 :: c97 :: c98 :: c99 :: c100 :: c101 :: c102 :: c103 :: c104 :: c105 :: c106 :: c107 :: c108 :: c109 :: c110 :: []), []⟩ w := by
  have hml : maxLen = 9223372036854775807 := rfl
  have hkm := sb.hcap
  have hks := sb.hle
  have hTT : (T == T) = true := by simp
  obtain ⟨so, sc, hcut, sk, -⟩ := run_cut TBy sb (32 * (i : Int)) (32 * (i : Int) + 32) (32 * i) (32 * i + 32) (by omega) (by omega) (by omega) (by omega)
  rw [show 32 * i + 32 - 32 * i = 32 by omega, Nat.mul_one, Nat.mul_one, ← List.map_drop, ← List.map_take, hT.out] at sk
  rw [show 32 * i + 32 - 32 * i = 32 by omega] at hcut
  clear sb
  conv => arg 2; whnf
  refine wp_region_R (segT w [(4, pIs (.string (str T))), (12, pIs (.string (str T)))]) (by kernel_rfl) segT_drew ?_
  unfold segT segK segR
  repeat (first | (refine wpV_skp rfl rfl ?_; simp only [List.set_cons_succ, List.set_cons_zero]) | (refine wpV_look rfl rfl rfl rfl rfl (fun K hK => ?_); go_big_quiet_op; refine hK _ ?_; clear hK K))
  refine wpV_mk rfl rfl rfl [] (by kernel_rfl) (fun vs w7 hC hF => ?_) (fun vs v w7 hC hV hF => ?_)
  · obtain ⟨⟨w7, hk, -⟩, rfl⟩ := hC
    exact yields_run (exec_conv (run_str (d := 9) Try.underlying22 Try.underlying5 Try.underlying9 (o.keep hk (by simp)))) ⟨⟨Keep.refl [] _, trivial⟩, rfl⟩
  obtain rfl := hV
  clear hC hF w7
  simp only [List.set_cons_succ, List.set_cons_zero]
  repeat (first | (refine wpV_skp rfl rfl ?_; simp only [List.set_cons_succ, List.set_cons_zero]) | (refine wpV_look rfl rfl rfl rfl rfl (fun K hK => ?_); go_big_quiet_op; refine hK _ ?_; clear hK K))
  refine wpV_mk rfl rfl rfl [] (by kernel_rfl) (fun vs w7 hC hF => ?_) (fun vs v w7 hC hV hF => ?_)
  · obtain ⟨⟨w7, hk, -⟩, rfl⟩ := hC
    exact yields_run (exec_conv (run_str (d := 9) Try.underlying22 Try.underlying5 Try.underlying9 (sk.keep hk (by simp)))) ⟨⟨Keep.refl [] _, trivial⟩, rfl⟩
  obtain rfl := hV
  clear hC hF w7
  simp only [List.set_cons_succ, List.set_cons_zero]
  repeat (first | (refine wpV_skp rfl rfl ?_; simp only [List.set_cons_succ, List.set_cons_zero]) | (refine wpV_look rfl rfl rfl rfl rfl (fun K hK => ?_); go_big_quiet_op; refine hK _ ?_; clear hK K))
  refine wpV_nil ?_
  intro w9 hC hF
  obtain ⟨⟨w9, hk, -⟩, rfl⟩ := hC
  exact hQ w9 hk.grow


set_option maxRecDepth 100000 in
set_option maxHeartbeats 1000000 in
theorem sloL (a0 : Option Addr) (N c0 : Nat) (pass : List UInt8) (a1 : Option Addr) (M c1 : Nat) (salt : List UInt8) (rn : Nat) (bo : Option Addr) (d : Nat) (hN : Hid (N = pass.length)) (hm : mayB N M ((rn : Int) + 1) = true) {c3 c4 c5 c6 c7 c8 c9 c10 c12 c14 c15 c16 c17 c18 c19 c20 c21 c22 c23 c24 c25 c26 c27 c28 c29 c30 c31 c32 c33 c34 c35 c36 c37 c38 c39 c40 c41 c42 c43 c44 c45 c46 c47 c48 c49 c50 c51 c52 c53 c54 c55 c56 c57 c58 c59 c60 c61 c62 c63 c64 c65 c66 c67 c68 c69 c70 c71 c72 c73 c74 c75 c76 c77 c78 c79 c80 c81 c82 c83 c84 c85 c86 c87 c88 c89 c90 c91 c92 c93 c94 c95 c96 c97 c98 c99 c100 c101 c102 c103 c104 c105 c106 c107 c108 c109 c110 : Value} (w : World) (s0 : Sl w 1 a0 N c0 (pass.map B)) (s1 : Sl w 1 a1 M c1 (salt.map B)) (sb : Sl w 1 bo 200 d ((keyS pass salt rn 200).map B)) {Q : Exit → Act → World → Prop}
    (hQ : ∀ w' : World, Grow w w' → ∀ {u8 u13 u14 u15 u82 u83 u84 u85 u86 u87 u88 u89 u90 u91 u92 u93 u94 u95 u96 u97 u98 u99 u100 u101 u102 u103 u104 u105 u106 u107 u108 u109 : Value}, Q .normal ⟨List.toArray (.slice a0 N c0 :: .slice a1 M c1 :: .int .i64 ((rn : Int) + 1) :: c3 :: c4 :: c5 :: c6 :: c7 :: u8 :: c9 :: c10 :: .slice bo 200 d :: c12 :: u13 :: u14 :: u15 :: c16 :: c17 :: c18 :: c19 :: c20 :: c21 :: c22 :: c23 :: c24 :: c25 :: c26 :: c27 :: c28 :: c29 :: c30 :: c31 :: c32 :: c33 :: c34 :: c35 :: c36 :: c37 :: c38 :: c39 :: c40 :: c41 :: c42 :: c43 :: c44 :: c45 :: c46 :: c47 :: c48 :: c49 :: c50 :: c51 :: c52 :: c53 :: c54 :: c55 :: c56 :: c57 :: c58 :: c59 :: c60 :: c61 :: c62 :: c63 :: c64 :: c65 :: c66 :: c67 :: c68 :: c69 :: c70 :: c71 :: c72 :: c73 :: c74 :: c75 :: c76 :: c77 :: c78 :: c79 :: c80 :: c81 :: u82 :: u83 :: u84 :: u85 :: u86 :: u87 :: u88 :: u89 :: u90 :: u91 :: u92 :: u93 :: u94 :: u95 :: u96 :: u97 :: u98 :: u99 :: u100 :: u101 :: u102 :: u103 :: u104 :: u105 :: u106 :: u107 :: u108 :: u109 :: c110 :: []), []⟩ w') :
    Code.wp Try.prog (blockAt Try.f10 0) Q ⟨List.toArray (.slice a0 N c0 :: .slice a1 M c1 :: .int .i64 ((rn : Int) + 1) :: c3 :: c4 :: c5 :: c6 :: c7 :: c8 :: c9 :: c10 :: .slice bo 200 d :: c12 :: .int .i64 0 :: c14 :: c15 :: c16 :: c17 :: c18 :: c19 :: c20 :: c21 :: c22 :: c23 :: c24 :: c25 :: c26 :: c27 :: c28 :: c29 :: c30 :: c31 :: c32 :: c33 :: c34 :: c35 :: c36 :: c37 :: c38 :: c39 :: c40 :: c41 :: c42 :: c43 :: c44 :: c45 :: c46 :: c47 :: c48 :: c49 :: c50 :: c51 :: c52 :: c53 :: c54 :: c55 :: c56 :: c57 :: c58 :: c59 :: c60 :: c61 :: c62 :: c63 :: c64 :: c65 :: c66 :: c67 :: c68 :: c69 :: c70 :: c71 :: c72 :: c73 :: c74 :: c75 :: c76 :: c77 :: c78 :: c79 :: c80 :: c81 :: c82 :: c83 :: c84 :: c85 :: c86 :: c87 :: c88 :: c89 :: c90 :: c91 :: c92 :: c93 :: c94 :: c95 :: c96 :: c97 :: c98 :: c99 :: c100 :: c101 :: c102 :: c103 :: c104 :: c105 :: c106 :: c107 :: c108 :: c109 :: c110 :: []), []⟩ w := by
  have hml : maxLen = 9223372036854775807 := rfl
  have i32 : (Try.prog.info? 27).map (·.size) = some 32 := by kernel_rfl
  rw [hN.out] at hm s0
  have hblk := fun i (h1 : 1 ≤ i) (h2 : i ≤ 2147483647) w' (g : Grow w w') => strBlockOk a0 c0 pass a1 M c1 salt rn i w' (s0.grow g) (s1.grow g) hm h1 h2
  simp only [← hN.out] at hblk
  clear hm
  conv => arg 2; whnf
  refine wp_block ?_
  go_loopw [13] (fun vi wr => ∃ i : Nat, vi = .int .i64 (i : Int) ∧ i ≤ 6 ∧ Grow w wr) (fun vi _ => 6 - (intOf vi).toNat)
  case atStart => exact ⟨0, by simp, by omega, Grow.refl _⟩
  case round =>
    obtain ⟨i, rfl, hi, g⟩ := hrel
    by_cases hlt : i < 6
    · have hc := hblk (i + 1) (by omega) (by omega) wr g
      rw [show ((i + 1 : Nat) : Int) = (i : Int) + 1 by omega] at hc
      have hkb := keyS_blk pass salt rn i hlt
      have hVl : ((tS pass salt (i + 1) rn).map B).length = 32 := by rw [List.length_map]; exact tS_len _ _ _ _
      obtain ⟨T, hT⟩ : ∃ T, T = tS pass salt (i + 1) rn := ⟨_, rfl⟩
      rw [← hT] at hkb hVl hc
      obtain ⟨V, hV⟩ : ∃ V, V = T.map B := ⟨_, rfl⟩
      have hV1 : ∀ v ∈ V, v.oneCell' = true := by rw [hV]; exact B_one _
      simp only [← hV] at hc hVl
      have HV := Lib.hid hV
      have Hkb := Lib.hid hkb
      clear hT hV hkb hblk hQ
      go_wp2_with fail
      refine hc _ ?_
      clear hc
      intro w2 g2
      have G2 := g.trans g2
      clear g g2
      obtain ⟨o14, ga1, th1, al1⟩ := newvar (t := 27) w2 (.int .u8 0) rfl (by omega) hVl hV1
      have hszF : (Try.prog.info? 27).map (·.size) = some V.toArray.size := by rw [List.size_toArray, hVl]; exact i32
      go_upto_region 11 with (refine wpList_store_mid rfl 27 _ _ rfl w2.heap.size 0 V.toArray rfl rfl th1 hszF al1 ?_)
      change Code.wp _ _ _ ⟨_, _⟩ ((w2.alloc (.cells (List.replicate 32 (.int .u8 0)).toArray 27)).setCells w2.heap.size 0 V)
      have G3 := G2.trans ga1
      obtain ⟨q14, hq⟩ : ∃ q, q = w2.heap.size := ⟨_, rfl⟩
      generalize (w2.alloc (.cells (List.replicate 32 (.int .u8 0)).toArray 27)).setCells w2.heap.size 0 V = w3 at *
      rw [← hq] at o14 ⊢
      have hge_q14 : w2.heap.size ≤ q14 := by omega
      clear hq th1 al1 ga1 hszF G2 
      have so := o14.sl
      rw [HV.out] at so
      refine slo11 i q14 bo d T _ hlt Hkb w3 (sb.grow G3) so ?_
      intro w4 g4
      intros
      have G4 := G3.trans g4
      clear so o14 G3 g4 HV Hkb
      go_wp2_with fail
      exact ⟨⟨i + 1, by go_num, by omega, G4⟩, by simp [intOf]; omega⟩
    · obtain rfl : i = 6 := by omega
      clear hblk
      go_wp2_with fail
      exact g

set_option maxRecDepth 100000 in
set_option maxHeartbeats 2000000 in
theorem strLoW (a0 : Option Addr) (c0 : Nat) (pass : List UInt8) (a1 : Option Addr) (c1 : Nat) (salt : List UInt8) (rz nz : Int) (w : World) (s0 : Sl w 1 a0 pass.length c0 (pass.map B)) (s1 : Sl w 1 a1 salt.length c1 (salt.map B)) (_ : (Lit.int IntKind.i64 rz).wf = true) (_ : (Lit.int IntKind.i64 nz).wf = true)
    (R : Ending → World → Prop) (hR : ∀ w', Grow w w' → R (.returned (.bool true)) w') :
    Calls Try.prog 10 #[.slice a0 pass.length c0, .slice a1 salt.length c1, .int .i64 rz, .int .i64 nz] w R := by
  have hml : maxLen = 9223372036854775807 := rfl
  have haw := awake3C
  have hm0 := s0.hcap
  have hn0 := s0.hle
  have hm1 := s1.hcap
  have hn1 := s1.hle
  by_cases hx1 : 128 < pass.length
  · go_enter Try.func10, Try.ntmps10
    go_wp2_with fail
    refine haw _ _ ?_
    intro w2 g2
    have hf := hR w2 g2
    clear hR
    go_wp2_with fail
    exact hf
  have hg1 : decide (128 < (pass.length : Int)) = false := decide_eq_false (by omega)
  by_cases hx2 : 64 < salt.length
  · go_enter Try.func10, Try.ntmps10
    go_wp2_with fail
    refine haw _ _ ?_
    intro w2 g2
    have hf := hR w2 g2
    clear hR
    go_wp2_with fail
    exact hf
  have hg2 : decide (64 < (salt.length : Int)) = false := decide_eq_false (by omega)
  by_cases hx3 : rz < 1
  · go_enter Try.func10, Try.ntmps10
    go_wp2_with fail
    refine haw _ _ ?_
    intro w2 g2
    have hf := hR w2 g2
    clear hR
    go_wp2_with fail
    exact hf
  have hg3 : decide (rz < 1) = false := decide_eq_false (by omega)
  by_cases hx4 : 10 < rz
  · go_enter Try.func10, Try.ntmps10
    go_wp2_with fail
    refine haw _ _ ?_
    intro w2 g2
    have hf := hR w2 g2
    clear hR
    go_wp2_with fail
    exact hf
  have hg4 : decide (10 < rz) = false := decide_eq_false (by omega)
  by_cases hx5 : nz < 0
  · go_enter Try.func10, Try.ntmps10
    go_wp2_with fail
    refine haw _ _ ?_
    intro w2 g2
    have hf := hR w2 g2
    clear hR
    go_wp2_with fail
    exact hf
  have hg5 : decide (nz < 0) = false := decide_eq_false (by omega)
  by_cases hx6 : 200 < nz
  · go_enter Try.func10, Try.ntmps10
    go_wp2_with fail
    refine haw _ _ ?_
    intro w2 g2
    have hf := hR w2 g2
    clear hR
    go_wp2_with fail
    exact hf
  have hg6 : decide (200 < nz) = false := decide_eq_false (by omega)
  obtain ⟨rn, rfl⟩ : ∃ i : Nat, rz = (i : Int) + 1 := ⟨(rz - 1).toNat, by omega⟩
  obtain ⟨n, rfl⟩ : ∃ i : Nat, nz = (i : Int) := ⟨nz.toNat, by omega⟩
  have hn : n ≤ 200 := by omega
  have hmay : mayB pass.length salt.length ((rn : Int) + 1) = true := decide_eq_true ⟨by omega, by omega, by omega, by omega⟩
  have hA := fun w' sp s => strKeyOk a0 c0 pass a1 salt.length c1 salt rn n w' sp s hmay (by omega)
  have hB := fun w' sp s => strKeyOk a0 c0 pass a1 salt.length c1 salt rn 200 w' sp s hmay (by omega)
  rw [show ((200 : Nat) : Int) = 200 from rfl] at hB
  have Hkt := Lib.hid (keyS_take pass salt rn n 200 hn)
  obtain ⟨N, hN⟩ : ∃ N, N = pass.length := ⟨_, rfl⟩
  obtain ⟨M, hM⟩ : ∃ N, N = salt.length := ⟨_, rfl⟩
  rw [← hN] at s0 hg1 hA hB hmay ⊢
  rw [← hM] at s1 hg2 hA hB hmay ⊢
  have HN := Lib.hid hN
  have Hmay := Lib.hid hmay
  have hr1 : rn ≤ 9 := by omega
  clear hN hM hmay hx1 hx2 hx3 hx4 hx5 hx6 hm0 hm1 hn0 hn1
  have c3 := hA w s0 s1
  clear hA
  go_enter Try.func10, Try.ntmps10
  go_wp2_with fail
  refine c3 _ ?_
  clear hg1 hg2 hg3 hg4 hg5 hg6 c3
  intro ao c w1 oa g1 _
  have c4 := hB w1 (s0.grow g1) (s1.grow g1)
  clear hB
  go_wp2_with fail
  refine c4 _ ?_
  clear c4
  intro bo d w2 ob g2 _
  have G2 := g1.trans g2
  have sa := (oa.grow g2).sl
  have sb := ob.sl
  clear oa ob g1 g2
  go_upto_region 5 with (fail)
  refine slo5 n ao c bo d _ _ hn Hkt w2 sa sb ?_
  intro w3 g3
  intros
  have G3 := G2.trans g3
  have sb3 := sb.grow g3
  clear sa sb G2 g3
  go_upto_block 0 with (fail)
  refine sloL a0 N c0 pass a1 M c1 salt rn bo d HN Hmay.out w3 (s0.grow G3) (s1.grow G3) sb3 ?_
  intro w4 g4
  intros
  have G4 := G3.trans g4
  clear G3 g4 sb3
  go_wp2_with fail
  refine haw _ _ ?_
  intro w5 g5
  have hf := hR _ (G4.trans g5)
  clear hR
  go_wp2_with fail
  exact hf
end Go.Proofs.Ytaepfkpfageiaaa
