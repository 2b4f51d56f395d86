/- MacFrames: four bytes, joined. -/
import Derived.Test.YtaepfkpfageiaaaMacAw
import Derived.Test.YtaepfkpfageiaaaTabE
import Derived.Test.YtaepfkpfageiaaaSameP
import Derived.Test.YtaepfkpfageiaaaShaT
namespace Go.Proofs.Ytaepfkpfageiaaa
open Go Go.RowKit

theorem i64_or_nat (a b : Nat) (ha : a < 4096) (hb : b < 4096) : bits BinOp.or IntKind.i64 (a : Int) (b : Int) = ((a ||| b : Nat) : Int) := by
  have h1 : (a ||| b) < 2 ^ 12 := Nat.or_lt_two_pow (n := 12) (by omega) (by omega)
  have h2 : ((a : Int) % 18446744073709551616) = a := by omega
  have h3 : ((b : Int) % 18446744073709551616) = b := by omega
  have e : (BitVec.ofNat 64 a ||| BitVec.ofNat 64 b).toNat = a ||| b := by
    rw [BitVec.toNat_or, BitVec.toNat_ofNat, BitVec.toNat_ofNat, Nat.mod_eq_of_lt (by omega), Nat.mod_eq_of_lt (by omega)]
  simp [bits, IntKind.wrap, IntKind.bits, IntKind.signed]
  erw [e]
  omega
theorem i64_or_add (a b : Nat) (ha : a < 256) (hb : b < 4) : bits BinOp.or IntKind.i64 (a : Int) ((b : Int) * 256) = ((a + b * 256 : Nat) : Int) := by
  have h := i64_or_nat a (b * 256) (by omega) (by omega)
  have h2 : a ||| (b * 256) = a + b * 256 := by
    have := Nat.two_pow_add_eq_or_of_lt (i := 8) (b := a) ha b
    rw [Nat.or_comm, Nat.mul_comm, show (256 : Nat) = 2 ^ 8 from rfl, ← this]
    omega
  rw [h2] at h
  rw [← h, Int.natCast_mul]
  rfl
theorem i64_or_zero (a : Nat) (ha : a < 4096) : bits BinOp.or IntKind.i64 (a : Int) 0 = (a : Int) := by
  have h := i64_or_nat a 0 ha (by omega)
  rwa [Nat.or_zero] at h


set_option maxRecDepth 100000 in
set_option maxHeartbeats 1000000 in
theorem fr12 (g off xl xc p b0 b1 : Nat) (hp : p + 4 ≤ xl) (hx : xl ≤ 100000) (h0 : b0 < 256) (h1 : b1 < 4) {c0 c1 c2 c3 c4 c6 c8 c9 c10 c11 c12 c13 c14 c15 c16 c17 c18 c19 c20 c21 c22 c23 c24 c25 c26 c27 c28 c29 c30 c31 c32 c33 c34 c35 c36 c37 c38 c39 c40 c41 c42 c43 c44 c45 c46 c47 c48 c49 c50 c51 c52 c53 c54 c55 c56 c57 c58 c59 c60 c61 c62 c63 c64 c65 c66 c67 c68 c69 c70 c71 c72 c73 c74 c75 c76 c77 c78 c79 c80 c81 c82 c83 c84 c85 c86 c87 c88 c89 c90 c91 c92 c93 c94 c95 c96 c97 c98 c99 c100 c101 c102 c103 c104 c105 c106 c107 c108 c109 c110 c111 c112 c113 c114 c115 : Value} (w : World) (d0 : w.cell? ⟨g, off + p, none⟩ = some (.int .u8 (b0 : Int))) (d1 : w.cell? ⟨g, off + (p + 1), none⟩ = some (.int .u8 (b1 : Int)))
    (d2 : w.cell? ⟨g, off + (p + 2), none⟩ = some (.int .u8 0)) (d3 : w.cell? ⟨g, off + (p + 3), none⟩ = some (.int .u8 0)) {Q : Exit → Act → World → Prop}
    (hQ : ∀ w' : World, Keep [] w w' → ∀ {u43 u44 u45 u46 u47 u48 u49 u50 u51 u52 u53 u54 u55 u56 u57 u58 u59 u60 u61 u62 u63 u64 u65 u66 u67 u68 u69 u70 u71 : Value}, Q .normal ⟨List.toArray (c0 :: c1 :: c2 :: c3 :: c4 :: .slice (some ⟨g, off, none⟩) xl xc :: c6 :: .int .i64 (p : Int) :: c8 :: .int .i64 ((b0 + b1 * 256 : Nat) : Int) :: c10 :: c11 :: c12 :: c13 :: c14 :: c15 :: c16 :: c17 :: c18 :: c19 :: c20 :: c21 :: c22 :: c23 :: c24 :: c25 :: c26 :: c27 :: c28 :: c29 :: c30 :: c31 :: c32 :: c33 :: c34 :: c35 :: c36 :: c37 :: c38 :: c39 :: c40 :: c41 :: c42 :: u43 :: u44 :: u45 :: u46 :: u47 :: u48 :: u49 :: u50 :: u51 :: u52 :: u53 :: u54 :: u55 :: u56 :: u57 :: u58 :: u59 :: u60 :: u61 :: u62 :: u63 :: u64 :: u65 :: u66 :: u67 :: u68 :: u69 :: u70 :: u71 :: c72 :: c73 :: c74 :: c75 :: c76 :: c77 :: c78 :: c79 :: c80 :: c81 :: c82 :: c83 :: c84 :: c85 :: c86 :: c87 :: c88 :: c89 :: c90 :: c91 :: c92 :: c93 :: c94 :: c95 :: c96 :: c97 :: c98 :: c99 :: c100 :: c101 :: c102 :: c103 :: c104 :: c105 :: c106 :: c107 :: c108 :: c109 :: c110 :: c111 :: c112 :: c113 :: c114 :: c115 :: []), []⟩ w') :
    Code.wp Try.prog (regionAt Try.f5 12) Q ⟨List.toArray (c0 :: c1 :: c2 :: c3 :: c4 :: .slice (some ⟨g, off, none⟩) xl xc :: c6 :: .int .i64 (p : Int) :: c8 :: c9 :: c10 :: c11 :: c12 :: c13 :: c14 :: c15 :: c16 :: c17 :: c18 :: c19 :: c20 :: c21 :: c22 :: c23 :: c24 :: c25 :: c26 :: c27 :: c28 :: c29 :: c30 :: c31 :: c32 :: c33 :: c34 :: c35 :: c36 :: c37 :: c38 :: c39 :: c40 :: c41 :: c42 :: c43 :: c44 :: c45 :: c46 :: c47 :: c48 :: c49 :: c50 :: c51 :: c52 :: c53 :: c54 :: c55 :: c56 :: c57 :: c58 :: c59 :: c60 :: c61 :: c62 :: c63 :: c64 :: c65 :: c66 :: c67 :: c68 :: c69 :: c70 :: c71 :: c72 :: c73 :: c74 :: c75 :: c76 :: c77 :: c78 :: c79 :: c80 :: c81 :: c82 :: c83 :: c84 :: c85 :: c86 :: c87 :: c88 :: c89 :: c90 :: c91 :: c92 :: c93 :: c94 :: c95 :: c96 :: c97 :: c98 :: c99 :: c100 :: c101 :: c102 :: c103 :: c104 :: c105 :: c106 :: c107 :: c108 :: c109 :: c110 :: c111 :: c112 :: c113 :: c114 :: c115 :: []), []⟩ w := by
  have hml : maxLen = 9223372036854775807 := rfl
  have e0 := KW.cell (fp := []) (p0 := tt) d0 (by simp)
  have e1 := KW.cell (fp := []) (p0 := tt) d1 (by simp)
  have e2 := KW.cell (fp := []) (p0 := tt) d2 (by simp)
  have e3 := KW.cell (fp := []) (p0 := tt) d3 (by simp)
  clear d0 d1 d2 d3
  conv => arg 2; whnf
  refine wp_region_R (segT w []) (by kernel_rfl) segT_drew ?_
  unfold segT segK segR
  repeat (first | (refine wpV_skp rfl rfl ?_; simp only [List.set_cons_succ, List.set_cons_zero]) | (refine wpV_look rfl rfl rfl rfl rfl (fun K hK => ?_); go_big_quiet_op; refine hK _ ?_; clear hK K))
  refine wpV_nil ?_
  intro w9 hC hF
  obtain ⟨⟨w9, hk, -⟩, rfl⟩ := hC
  have e4 : bits BinOp.or IntKind.i64 (b0 : Int) ((b1 : Int) * 256) = ((b0 + b1 * 256 : Nat) : Int) := i64_or_add b0 b1 h0 h1
  have e5 : bits BinOp.or IntKind.i64 ((b0 + b1 * 256 : Nat) : Int) 0 = ((b0 + b1 * 256 : Nat) : Int) := i64_or_zero _ (by omega)
  rw [e4, e5, e5]
  exact hQ w9 hk


set_option maxRecDepth 100000 in
set_option maxHeartbeats 1000000 in
theorem fr13 (ga offa n cap g off xl xc p i m : Nat) (xo : Option Addr) (xc2 : Nat) (X L : List UInt8) (hp : p + 4 + m ≤ xl) (hx : xl ≤ 100000) (hi : i < n) (hXL : Hid (((X.map B).drop (p + 4)).take m = L.map B)) {c1 c2 c3 c4 c6 c10 c11 c12 c13 c14 c15 c16 c17 c18 c19 c20 c21 c22 c23 c24 c25 c26 c27 c28 c29 c30 c31 c32 c33 c34 c35 c36 c37 c38 c39 c40 c41 c42 c43 c44 c45 c46 c47 c48 c49 c50 c51 c52 c53 c54 c55 c56 c57 c58 c59 c60 c61 c62 c63 c64 c65 c66 c67 c68 c69 c70 c71 c72 c73 c74 c75 c76 c77 c78 c79 c80 c81 c82 c83 c84 c85 c86 c87 c88 c89 c90 c91 c92 c93 c94 c95 c96 c97 c98 c99 c100 c101 c102 c103 c104 c105 c106 c107 c108 c109 c110 c111 c112 c113 c114 c115 : Value} (w : World) (d0 : w.cell? ⟨ga, offa + i, none⟩ = some (.slice xo m xc2))
    (sx : Sl w 1 (some ⟨g, off, none⟩) xl xc (X.map B)) (sl : Sl w 1 xo m xc2 (L.map B)) {Q : Exit → Act → World → Prop}
    (hQ : ∀ w' : World, Keep [] w w' → ∀ {u72 u73 u74 u75 u76 u77 u78 u79 u80 u81 u82 u83 u84 u85 u86 u87 u88 u89 u90 u91 u92 u93 u94 u95 u96 u97 u98 u99 u100 u101 u102 u103 : Value}, Q .normal ⟨List.toArray (.slice (some ⟨ga, offa, none⟩) n cap :: c1 :: c2 :: c3 :: c4 :: .slice (some ⟨g, off, none⟩) xl xc :: c6 :: .int .i64 (p : Int) :: .int .i64 (i : Int) :: .int .i64 (m : Int) :: c10 :: c11 :: c12 :: c13 :: c14 :: c15 :: c16 :: c17 :: c18 :: c19 :: c20 :: c21 :: c22 :: c23 :: c24 :: c25 :: c26 :: c27 :: c28 :: c29 :: c30 :: c31 :: c32 :: c33 :: c34 :: c35 :: c36 :: c37 :: c38 :: c39 :: c40 :: c41 :: c42 :: c43 :: c44 :: c45 :: c46 :: c47 :: c48 :: c49 :: c50 :: c51 :: c52 :: c53 :: c54 :: c55 :: c56 :: c57 :: c58 :: c59 :: c60 :: c61 :: c62 :: c63 :: c64 :: c65 :: c66 :: c67 :: c68 :: c69 :: c70 :: c71 :: u72 :: u73 :: u74 :: u75 :: u76 :: u77 :: u78 :: u79 :: u80 :: u81 :: u82 :: u83 :: u84 :: u85 :: u86 :: u87 :: u88 :: u89 :: u90 :: u91 :: u92 :: u93 :: u94 :: u95 :: u96 :: u97 :: u98 :: u99 :: u100 :: u101 :: u102 :: u103 :: .bool false :: c105 :: c106 :: c107 :: c108 :: c109 :: c110 :: c111 :: c112 :: c113 :: c114 :: c115 :: []), []⟩ w') :
    Code.wp Try.prog (regionAt Try.f5 13) Q ⟨List.toArray (.slice (some ⟨ga, offa, none⟩) n cap :: c1 :: c2 :: c3 :: c4 :: .slice (some ⟨g, off, none⟩) xl xc :: c6 :: .int .i64 (p : Int) :: .int .i64 (i : Int) :: .int .i64 (m : Int) :: c10 :: c11 :: c12 :: c13 :: c14 :: c15 :: c16 :: c17 :: c18 :: c19 :: c20 :: c21 :: c22 :: c23 :: c24 :: c25 :: c26 :: c27 :: c28 :: c29 :: c30 :: c31 :: c32 :: c33 :: c34 :: c35 :: c36 :: c37 :: c38 :: c39 :: c40 :: c41 :: c42 :: c43 :: c44 :: c45 :: c46 :: c47 :: c48 :: c49 :: c50 :: c51 :: c52 :: c53 :: c54 :: c55 :: c56 :: c57 :: c58 :: c59 :: c60 :: c61 :: c62 :: c63 :: c64 :: c65 :: c66 :: c67 :: c68 :: c69 :: c70 :: c71 :: c72 :: c73 :: c74 :: c75 :: c76 :: c77 :: c78 :: c79 :: c80 :: c81 :: c82 :: c83 :: c84 :: c85 :: c86 :: c87 :: c88 :: c89 :: c90 :: c91 :: c92 :: c93 :: c94 :: c95 :: c96 :: c97 :: c98 :: c99 :: c100 :: c101 :: c102 :: c103 :: c104 :: c105 :: c106 :: c107 :: c108 :: c109 :: c110 :: c111 :: c112 :: c113 :: c114 :: c115 :: []), []⟩ w := by
  have hml : maxLen = 9223372036854775807 := rfl
  have e0 := KW.cell (fp := []) (p0 := tt) d0 (by simp)
  have hd : decide ((xl : Int) - (p : Int) - 4 < (m : Int)) = false := by simp; omega
  obtain ⟨so, sc, hcut, sk, -⟩ := run_cut TBy sx ((p : Int) + 4) ((p : Int) + 4 + (m : Int)) (p + 4) (p + 4 + m) rfl rfl (by omega) (by omega)
  rw [show p + 4 + m - (p + 4) = m by omega, Nat.mul_one, Nat.mul_one, hXL.out] at sk
  rw [show p + 4 + m - (p + 4) = m by omega] at hcut
  have hsL : (L == L) = true := by simp
  have hkm := sx.hcap
  clear d0 sx
  conv => arg 2; whnf
  refine wp_region_R (segT w [(25, pIs (.string (str L))), (30, pIs (.string (str L)))]) (by kernel_rfl) segT_drew ?_
  unfold segT segK segR
  repeat (first | (refine wpV_skp rfl rfl ?_; simp only [List.set_cons_succ, List.set_cons_zero]) | (refine wpV_look rfl rfl rfl rfl rfl (fun K hK => ?_); go_big_quiet_op; refine hK _ ?_; clear hK K))
  refine wpV_mk rfl rfl rfl [] (by kernel_rfl) (fun vs w7 hC hF => ?_) (fun vs v w7 hC hV hF => ?_)
  · obtain ⟨⟨w7, hk, -⟩, rfl⟩ := hC
    exact yields_run (exec_conv (run_str (d := 9) Try.underlying22 Try.underlying5 Try.underlying9 (sk.keep hk (by simp)))) ⟨⟨Keep.refl [] _, trivial⟩, rfl⟩
  obtain rfl := hV
  clear hC hF w7
  simp only [List.set_cons_succ, List.set_cons_zero]
  repeat (first | (refine wpV_skp rfl rfl ?_; simp only [List.set_cons_succ, List.set_cons_zero]) | (refine wpV_look rfl rfl rfl rfl rfl (fun K hK => ?_); go_big_quiet_op; refine hK _ ?_; clear hK K))
  refine wpV_mk rfl rfl rfl [] (by kernel_rfl) (fun vs w7 hC hF => ?_) (fun vs v w7 hC hV hF => ?_)
  · obtain ⟨⟨w7, hk, -⟩, rfl⟩ := hC
    exact yields_run (exec_conv (run_str (d := 9) Try.underlying22 Try.underlying5 Try.underlying9 (sl.keep hk (by simp)))) ⟨⟨Keep.refl [] _, trivial⟩, rfl⟩
  obtain rfl := hV
  clear hC hF w7
  simp only [List.set_cons_succ, List.set_cons_zero]
  repeat (first | (refine wpV_skp rfl rfl ?_; simp only [List.set_cons_succ, List.set_cons_zero]) | (refine wpV_look rfl rfl rfl rfl rfl (fun K hK => ?_); go_big_quiet_op; refine hK _ ?_; clear hK K))
  refine wpV_nil ?_
  intro w9 hC hF
  obtain ⟨⟨w9, hk, -⟩, rfl⟩ := hC
  exact hQ w9 hk
/-- Where the part i lies in a frame. -/
theorem frame_at (ls : List (List UInt8)) (i : Nat) (h : i < ls.length) : framS ls = framS (ls.take i) ++ (len4 ls[i].length ++ (ls[i] ++ framS (ls.drop (i + 1)))) := by
  conv => lhs; rw [← List.take_append_drop i ls, List.drop_eq_getElem_cons h]
  rw [framS_app, framS_cons]
theorem frame_bytes (P R L : List UInt8) (m : Nat) (hm : m = L.length) (h1 : m < 1024) :
    ((P ++ (len4 m ++ (L ++ R))).map B)[P.length]? = some (.int .u8 ((m % 256 : Nat) : Int)) ∧ ((P ++ (len4 m ++ (L ++ R))).map B)[P.length + 1]? = some (.int .u8 ((m / 256 : Nat) : Int)) ∧
    ((P ++ (len4 m ++ (L ++ R))).map B)[P.length + 2]? = some (.int .u8 0) ∧ ((P ++ (len4 m ++ (L ++ R))).map B)[P.length + 3]? = some (.int .u8 0) ∧ (((P ++ (len4 m ++ (L ++ R))).map B).drop (P.length + 4)).take m = L.map B := by
  refine ⟨?_, ?_, ?_, ?_, ?_⟩
  · simp [len4, B]
  · rw [List.getElem?_map, List.getElem?_append_right (by omega)]
    simp [len4, B]
    omega
  · rw [List.getElem?_map, List.getElem?_append_right (by omega)]
    simp [len4, B]
    omega
  · rw [List.getElem?_map, List.getElem?_append_right (by omega)]
    simp [len4, B]
    omega
  · rw [← List.map_drop, ← List.map_take, ← List.append_assoc, List.drop_left' (by simp [len4_len]), hm, List.take_left]


set_option maxRecDepth 100000 in
set_option maxHeartbeats 1000000 in
theorem frL (lo : Option Addr) (n cap : Nat) (vs : List Value) (ls : List (List UInt8)) (xo : Option Addr) (xl xc : Nat) {c1 c2 c3 c4 c6 c9 c10 c11 c12 c13 c14 c15 c16 c17 c18 c19 c20 c21 c22 c23 c24 c25 c26 c27 c28 c29 c30 c31 c32 c33 c34 c35 c36 c37 c38 c39 c40 c41 c42 c43 c44 c45 c46 c47 c48 c49 c50 c51 c52 c53 c54 c55 c56 c57 c58 c59 c60 c61 c62 c63 c64 c65 c66 c67 c68 c69 c70 c71 c72 c73 c74 c75 c76 c77 c78 c79 c80 c81 c82 c83 c84 c85 c86 c87 c88 c89 c90 c91 c92 c93 c94 c95 c96 c97 c98 c99 c100 c101 c102 c103 c104 c105 c106 c107 c108 c109 c110 c111 c112 c113 c114 c115 : Value} (w : World) (Hn : Hid (n = ls.length)) (Hx : Hid (xl = (framS ls).length)) (s : Sl w 1 lo n cap vs) (pt : Pt w vs ls) (sx : Sl w 1 xo xl xc ((framS ls).map B)) (hx : xl ≤ 100000) (hn : n ≤ 100000) (hm : Hid (∀ l ∈ ls, l.length < 1024)) {Q : Exit → Act → World → Prop}
    (hQ : ∀ w' : World, Keep [] w w' → ∀ {u4 u8 u9 u32 u33 u34 u35 u36 u37 u38 u39 u40 u41 u42 u43 u44 u45 u46 u47 u48 u49 u50 u51 u52 u53 u54 u55 u56 u57 u58 u59 u60 u61 u62 u63 u64 u65 u66 u67 u68 u69 u70 u71 u72 u73 u74 u75 u76 u77 u78 u79 u80 u81 u82 u83 u84 u85 u86 u87 u88 u89 u90 u91 u92 u93 u94 u95 u96 u97 u98 u99 u100 u101 u102 u103 u104 u105 u106 u107 u108 : Value}, Q .normal ⟨List.toArray (.slice lo n cap :: c1 :: c2 :: c3 :: u4 :: .slice xo xl xc :: c6 :: .int .i64 (xl : Int) :: u8 :: u9 :: c10 :: c11 :: c12 :: c13 :: c14 :: c15 :: c16 :: c17 :: c18 :: c19 :: c20 :: c21 :: c22 :: c23 :: c24 :: c25 :: c26 :: c27 :: c28 :: c29 :: c30 :: c31 :: u32 :: u33 :: u34 :: u35 :: u36 :: u37 :: u38 :: u39 :: u40 :: u41 :: u42 :: u43 :: u44 :: u45 :: u46 :: u47 :: u48 :: u49 :: u50 :: u51 :: u52 :: u53 :: u54 :: u55 :: u56 :: u57 :: u58 :: u59 :: u60 :: u61 :: u62 :: u63 :: u64 :: u65 :: u66 :: u67 :: u68 :: u69 :: u70 :: u71 :: u72 :: u73 :: u74 :: u75 :: u76 :: u77 :: u78 :: u79 :: u80 :: u81 :: u82 :: u83 :: u84 :: u85 :: u86 :: u87 :: u88 :: u89 :: u90 :: u91 :: u92 :: u93 :: u94 :: u95 :: u96 :: u97 :: u98 :: u99 :: u100 :: u101 :: u102 :: u103 :: u104 :: u105 :: u106 :: u107 :: u108 :: c109 :: c110 :: c111 :: c112 :: c113 :: c114 :: c115 :: []), []⟩ w') :
    Code.wp Try.prog (blockAt Try.f5 0) Q ⟨List.toArray (.slice lo n cap :: c1 :: c2 :: c3 :: c4 :: .slice xo xl xc :: c6 :: .int .i64 0 :: .int .i64 0 :: c9 :: c10 :: c11 :: c12 :: c13 :: c14 :: c15 :: c16 :: c17 :: c18 :: c19 :: c20 :: c21 :: c22 :: c23 :: c24 :: c25 :: c26 :: c27 :: c28 :: c29 :: c30 :: c31 :: c32 :: c33 :: c34 :: c35 :: c36 :: c37 :: c38 :: c39 :: c40 :: c41 :: c42 :: c43 :: c44 :: c45 :: c46 :: c47 :: c48 :: c49 :: c50 :: c51 :: c52 :: c53 :: c54 :: c55 :: c56 :: c57 :: c58 :: c59 :: c60 :: c61 :: c62 :: c63 :: c64 :: c65 :: c66 :: c67 :: c68 :: c69 :: c70 :: c71 :: c72 :: c73 :: c74 :: c75 :: c76 :: c77 :: c78 :: c79 :: c80 :: c81 :: c82 :: c83 :: c84 :: c85 :: c86 :: c87 :: c88 :: c89 :: c90 :: c91 :: c92 :: c93 :: c94 :: c95 :: c96 :: c97 :: c98 :: c99 :: c100 :: c101 :: c102 :: c103 :: c104 :: c105 :: c106 :: c107 :: c108 :: c109 :: c110 :: c111 :: c112 :: c113 :: c114 :: c115 :: []), []⟩ w := by
  have hml : maxLen = 9223372036854775807 := rfl
  have hkm := s.hcap
  have hks := s.hle
  have hkx := sx.hcap
  have hkx2 := sx.hle
  conv => arg 2; whnf
  refine wp_block ?_
  go_loopw [7, 8] (fun pv vi wr => ∃ (p i : Nat), pv = .int .i64 (p : Int) ∧ vi = .int .i64 (i : Int) ∧ i ≤ n ∧ Hid (p = (framS (ls.take i)).length) ∧ Keep [] w wr) (fun _ vi _ => n - (intOf vi).toNat)
  case atStart => exact ⟨0, 0, by simp, by simp, by omega, Lib.hid (by simp [framS]), Keep.refl _ _⟩
  case round =>
    obtain ⟨p, i, rfl, rfl, hi, hp, ki⟩ := hrel
    by_cases hlt : i < n
    · have hlt2 : i < ls.length := by rw [← Hn.out]; exact hlt
      obtain ⟨ga, offa, eg, hcs⟩ := s.hat (by omega)
      subst eg
      obtain ⟨ao, c, hxv, sl⟩ := pt.2 i hlt2
      have c1 := (hcs.keep ki (by simp)).at hxv
      have hfa := frame_at ls i hlt2
      have hft := framS_take ls i hlt2
      have hm1 := hm.out ls[i] (List.getElem_mem hlt2)
      obtain ⟨L, hL⟩ : ∃ L, L = ls[i] := ⟨_, rfl⟩
      rw [← hL] at c1 sl hfa hm1 hft
      obtain ⟨R, hRr⟩ : ∃ R, R = framS (ls.drop (i + 1)) := ⟨_, rfl⟩
      rw [← hRr] at hfa
      obtain ⟨m, hmm⟩ : ∃ m, m = L.length := ⟨_, rfl⟩
      rw [← hmm] at c1 sl hfa hm1 hft
      obtain ⟨b0, b1, b2, b3, b4⟩ := frame_bytes (framS (ls.take i)) R L m hmm hm1
      have hxlen := Hx.out
      rw [hfa] at hxlen
      simp only [List.length_append, len4_len, ← hmm, ← hp.out] at hxlen
      rw [← hfa, ← hp.out] at b0 b1 b2 b3 b4
      have hpx : p + 4 + m ≤ xl := by omega
      have hp2 : Hid (p + 4 + m = (framS (ls.take (i + 1))).length) := Lib.hid (by rw [hft]; simp only [List.length_append, len4_len, ← hmm, ← hp.out])
      have sx2 := sx.keep ki (by simp)
      obtain ⟨g, off, eg, hcx⟩ := sx2.hat (by omega)
      subst eg
      have d0 := hcx.at b0
      have d1 := hcx.at b1
      have d2 := hcx.at b2
      have d3 := hcx.at b3
      have hd4 : decide ((xl : Int) - (p : Int) < 4) = false := by simp; omega
      have HB := Lib.hid b4
      have sl2 := sl.keep ki (by simp)
      have em : m % 256 + m / 256 * 256 = m := by omega
      have Hem := Lib.hid em
      have hm4 : m / 256 < 4 := by omega
      clear hcs hxv hfa hft hm1 hL hRr hmm b0 b1 b2 b3 b4 hxlen hcx sl em hp hm hQ Hx sx
      go_upto_region 12 with (fail)
      clear hd4
      refine fr12 g off xl xc p (m % 256) (m / 256) (by omega) hx (by omega) hm4 wr d0 d1 d2 d3 ?_
      intro w2 k2
      intros
      rw [Hem.out]
      have k3 := ki.trans k2
      have c2 : w2.cell? _ = _ := k2.cell c1 (by simp)
      clear d0 d1 d2 d3 c1
      go_upto_region 13 with (fail)
      refine fr13 ga offa n cap g off xl xc p i m ao c (framS ls) L hpx hx hlt HB w2 c2 (sx2.keep k2 (by simp)) (sl2.keep k2 (by simp)) ?_
      intro w4 k4
      intros
      have k5 := k3.trans k4
      clear c2 sx2 sl2 HB Hem k3 k4 k2
      go_wp2_with fail
      exact ⟨⟨p + 4 + m, i + 1, by go_num, by go_num, by omega, hp2, k5⟩, by simp [intOf]; omega⟩
    · obtain rfl : i = n := by omega
      have hpp := hp.out
      rw [List.take_of_length_le (by rw [← Hn.out]; exact Nat.le_refl _), ← Hx.out] at hpp
      subst hpp
      clear hp Hx
      go_wp2_with fail
      exact ki

set_option maxRecDepth 100000 in
set_option maxHeartbeats 2000000 in
theorem macFrW (a0 : Option Addr) (c0 : Nat) (la : List (List UInt8)) (a1 : Option Addr) (c1 : Nat) (lb : List (List UInt8)) (w : World) (va : List Value) (h0 : Sl w 1 a0 la.length c0 va ∧ Pt w va la) (vb : List Value) (h1 : Sl w 1 a1 lb.length c1 vb ∧ Pt w vb lb) (R : Ending → World → Prop) (hR : ∀ w', Grow w w' → R (.returned (.bool true)) w') :
    Calls Try.prog 5 #[.slice a0 la.length c0, .slice a1 lb.length c1] w R := by
  obtain ⟨s0, pt0⟩ := h0
  obtain ⟨s1, pt1⟩ := h1
  have hml : maxLen = 9223372036854775807 := rfl
  have haw := awakeC
  go_enter Try.func5, Try.ntmps5
  go_wp2_with fail
  refine shortC a0 c0 va la 1000 (by omega) w s0 pt0 _ ?_
  intro b w1 hb g1
  cases b with
  | false =>
    go_wp2_with fail
    refine haw _ _ ?_
    intro w2 g2
    have hf := hR w2 (g1.trans g2)
    clear hR
    go_wp2_with fail
    exact hf
  | true =>
  have hla := hb rfl
  clear hb
  go_wp2_with fail
  refine shortC a1 c1 vb lb 1000 (by omega) w1 (s1.grow g1) (pt1.grow g1) _ ?_
  intro b w2 hb g2
  have G2 := g1.trans g2
  cases b with
  | false =>
    go_wp2_with fail
    refine haw _ _ ?_
    intro w3 g3
    have hf := hR w3 (G2.trans g3)
    clear hR
    go_wp2_with fail
    exact hf
  | true =>
  have hlb := hb rfl
  have hflat : ∀ ls : List (List UInt8), ∀ l ∈ ls, l.length ≤ ls.flatten.length := fun ls l hl => by
    obtain ⟨a, b, rfl⟩ := List.append_of_mem hl
    simp; omega
  have hma : ∀ l ∈ la, l.length < 1024 := fun l hl => by have := hflat la l hl; omega
  have hmb : ∀ l ∈ lb, l.length < 1024 := fun l hl => by have := hflat lb l hl; omega
  have hsame : (framS la == framS lb) = (la == lb) := by
    rw [Bool.eq_iff_iff]
    simp only [beq_iff_eq]
    exact ⟨fun h => framS_inj la lb (fun l hl => by have := hma l hl; omega) (fun l hl => by have := hmb l hl; omega) h, fun h => by rw [h]⟩
  have hfa := framS_len la
  have hfb := framS_len lb
  have hc3 := framC a0 c0 va la w2 (s0.grow G2) (pt0.grow G2) (by omega) (by omega)
  have hc4 := fun w s p => framC a1 c1 vb lb w s p (by omega) (by omega)
  have hc5 := fun w s1 p1 s2 p2 => samePC a0 c0 va la a1 c1 vb lb w s1 p1 s2 p2
  obtain ⟨e, he⟩ : ∃ e, e = (la == lb) := ⟨_, rfl⟩
  rw [← he] at hsame
  simp only [← he] at hc5
  clear he hb g1 g2 hflat hmb
  have Hma := Lib.hid hma
  clear hma
  obtain ⟨n, hn⟩ : ∃ n, n = la.length := ⟨_, rfl⟩
  obtain ⟨n2, hn2⟩ : ∃ n, n = lb.length := ⟨_, rfl⟩
  obtain ⟨xl, hxl⟩ : ∃ n, n = (framS la).length := ⟨_, rfl⟩
  simp only [← hn] at s0 hc3 hc5 hla hfa ⊢
  simp only [← hn2] at s1 hc4 hc5 hlb ⊢
  simp only [← hxl] at hc3 hfa
  have hxx : xl ≤ 100000 := by omega
  have hnn : n ≤ 100000 := by omega
  have Hn := Lib.hid hn
  have Hxl := Lib.hid hxl
  clear hn hn2 hxl hfa hfb hla hlb
  have hR0 := Lib.hid hR
  clear hR
  go_wp2_with fail
  refine hc3 _ ?_
  clear hc3
  intro xo xc w3 ox g3 _
  have G3 := G2.trans g3
  have hc4 := hc4 w3 (s1.grow G3) (pt1.grow G3)
  clear g3
  go_wp2_with fail
  refine hc4 _ ?_
  clear hc4
  intro yo yc w4 oy g4 _
  have G4 := G3.trans g4
  have sx := ox.sl.grow g4
  have sy := oy.sl
  have s04 := s0.grow G4
  have s14 := s1.grow G4
  have pt04 := pt0.grow G4
  have pt14 := pt1.grow G4
  obtain ⟨yl, hyl⟩ : ∃ n, n = (framS lb).length := ⟨_, rfl⟩
  rw [← hyl] at sy ⊢
  have Hsx := Lib.hid sx
  clear ox oy g4 G3 G2 s0 s1 pt0 pt1 hyl
  obtain ⟨X, hX⟩ : ∃ X, X = framS la := ⟨_, rfl⟩
  obtain ⟨Y, hY⟩ : ∃ Y, Y = framS lb := ⟨_, rfl⟩
  rw [← hX] at sx hsame
  rw [← hY] at sy hsame
  clear hX hY
  go_upto_region 4 with (fail)
  refine wp_region_R (segT w4 [(1, pIs (.string (str X))), (3, pIs (.string (str Y))), (7, pIs (.bool e))]) (by kernel_rfl) segT_drew ?_
  unfold segT segK segR
  repeat (first | (refine wpV_skp rfl rfl ?_; simp only [List.set_cons_succ, List.set_cons_zero]) | (refine wpV_look rfl rfl rfl rfl rfl (fun K hK => ?_); go_big_quiet_op; refine hK _ ?_; clear hK K))
  refine wpV_mk rfl rfl rfl [] (by kernel_rfl) (fun vs w7 hC hF => ?_) (fun vs v w7 hC hV hF => ?_)
  · obtain ⟨⟨w7, hk, -⟩, rfl⟩ := hC
    exact yields_run (exec_conv (run_str (d := 9) Try.underlying22 Try.underlying5 Try.underlying9 (sx.keep hk (by simp)))) ⟨⟨Keep.refl [] _, trivial⟩, rfl⟩
  obtain rfl := hV
  clear hC hF w7
  simp only [List.set_cons_succ, List.set_cons_zero]
  repeat (first | (refine wpV_skp rfl rfl ?_; simp only [List.set_cons_succ, List.set_cons_zero]) | (refine wpV_look rfl rfl rfl rfl rfl (fun K hK => ?_); go_big_quiet_op; refine hK _ ?_; clear hK K))
  refine wpV_mk rfl rfl rfl [] (by kernel_rfl) (fun vs w7 hC hF => ?_) (fun vs v w7 hC hV hF => ?_)
  · obtain ⟨⟨w7, hk, -⟩, rfl⟩ := hC
    exact yields_run (exec_conv (run_str (d := 9) Try.underlying22 Try.underlying5 Try.underlying9 (sy.keep hk (by simp)))) ⟨⟨Keep.refl [] _, trivial⟩, rfl⟩
  obtain rfl := hV
  clear hC hF w7
  simp only [List.set_cons_succ, List.set_cons_zero]
  repeat (first | (refine wpV_skp rfl rfl ?_; simp only [List.set_cons_succ, List.set_cons_zero]) | (refine wpV_look rfl rfl rfl rfl rfl (fun K hK => ?_); go_big_quiet_op; refine hK _ ?_; clear hK K))
  refine wpV_mk rfl rfl rfl [] (by kernel_rfl) (fun vs w7 hC hF => yields_call (by kernel_rfl) ?_) (fun vs v w7 hC hV hF => ?_)
  · obtain ⟨⟨w7, hk, -⟩, rfl⟩ := hC
    exact hc5 w7 (s04.keep hk (by simp)) (pt04.keep0 hk) (s14.keep hk (by simp)) (pt14.keep0 hk) _ (fun w8 g8 => ⟨_, rfl, ⟨Keep.of_grow [] g8, trivial⟩, rfl⟩)
  obtain rfl := hV
  clear hC hF w7
  simp only [List.set_cons_succ, List.set_cons_zero]
  repeat (first | (refine wpV_skp rfl rfl ?_; simp only [List.set_cons_succ, List.set_cons_zero]) | (refine wpV_look rfl rfl rfl rfl rfl (fun K hK => ?_); go_big_quiet_op; refine hK _ ?_; clear hK K))
  refine wpV_nil ?_
  intro w9 hC hF
  obtain ⟨⟨w9, hkw9, -⟩, rfl⟩ := hC
  clear hF
  clear hsame hc5
  have s09 := s04.keep hkw9 (by simp)
  have pt09 := pt04.keep0 hkw9
  have sx9 := Hsx.out.keep hkw9 (by simp)
  have G9 := G4.trans hkw9.grow
  clear s04 s14 pt04 pt14 sx sy Hsx G4 hkw9
  cases e
  all_goals
    go_upto_block 0 with (fail)
    refine frL a0 n c0 va la xo xl xc w9 Hn Hxl s09 pt09 sx9 hxx hnn Hma ?_
    intro w10 k10
    intros
    have G10 := G9.trans k10.grow
    go_wp2_with fail
    refine haw _ _ ?_
    intro w11 g11
    have hf := hR0.out _ (G10.trans g11)
    clear hR0
    go_wp2_with fail
    exact hf
end Go.Proofs.Ytaepfkpfageiaaa
