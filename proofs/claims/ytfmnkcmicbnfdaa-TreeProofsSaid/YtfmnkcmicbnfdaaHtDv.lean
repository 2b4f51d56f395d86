/- The document's Verify: its regions. -/
import Derived.Test.YtfmnkcmicbnfdaaGHt4
import Derived.Test.YtfmnkcmicbnfdaaGHt5
import Derived.Test.YtfmnkcmicbnfdaaClashC
namespace Go.Proofs.Ytfmnkcmicbnfdaa
open Go Go.RowKit

/-- What the document has reckoned ahead of level j. -/
def nowS (key : List UInt8) (n leaf : Nat) (text : List UInt8) (P : List B16) : Nat → B16
  | 0 => leafT key leaf text
  | j + 1 => nodeT key (j + 1) (upN leaf (j + 1)) (ckV n leaf P j)
def cndS (key : List UInt8) (n leaf : Nat) (text : List UInt8) (root : B16) (P : List B16) (j : Nat) : Bool := (nowS key n leaf text P j).b == (tagAt (cksV n leaf P ((wl n).length - 1)) root j (upN leaf j)).b
theorem verS_eq (key : List UInt8) (n leaf : Nat) (text : List UInt8) (root : B16) (P : List B16) :
    verS key n leaf text root P = (decide (P.length = sumV n leaf ((wl n).length - 1)) && (List.range ((wl n).length - 1 + 1)).all (cndS key n leaf text root P)) := by
  unfold verS
  congr 1
  rw [List.range_succ_eq_map, List.all_cons, List.all_map]
  have h0 : upN leaf 0 = leaf := by simp [upN]
  have e0 : cndS key n leaf text root P 0 = okL key leaf text (cksV n leaf P ((wl n).length - 1)) root := by
    unfold cndS okL
    rw [h0]
    rfl
  rw [e0]
  rfl
theorem eqPlR (a b c d : Int) (w : World) : (Op.equalIn 10000 78 (.agg #[.int .i64 a, .int .i64 b]) (.agg #[.int .i64 c, .int .i64 d])).run Try.prog w = .ok (decide (a = c ∧ b = d)) w := by
  have h := neqPl a b c d w
  by_cases h1 : a = c
  · by_cases h2 : b = d
    · subst h1 h2; go_simp
    · subst h1; go_simp
  · go_simp


set_option maxRecDepth 100000 in
set_option maxHeartbeats 1000000 in
theorem rver19 (gb offb N bc gw offw L wc i k K gr offr rc ix up : Nat) (hi : i < N) (_ : N ≤ 1001) (hiL : i < L) (_ : L ≤ 1001) (hk : k < K) (_ : K ≤ 4) (e : Bool) (he : e = decide (ix = up)) {c0 c1 c2 c3 c4 c5 c6 c7 c8 c9 c10 c11 c12 c13 c14 c15 c18 c19 c21 c22 c24 c25 c26 c27 c28 c29 c30 c31 c32 c33 c34 c35 c36 c37 c38 c39 c40 c41 c42 c43 c44 c45 c46 c47 c48 c49 c50 c51 c52 c53 c54 c55 c56 c57 c58 c59 c60 c61 c62 c63 c64 c65 c66 c67 c68 c69 c70 c71 c72 c73 c74 c75 c76 c77 c78 c79 c80 c81 c82 c83 c84 c85 c86 c87 c88 c89 c90 c91 c92 c93 c94 c95 c96 c97 c98 c99 c100 c101 c102 c103 c104 c105 c106 c107 c108 c109 c110 c111 c112 c113 c114 c115 c116 c117 c118 c119 c120 c121 c122 c123 c124 c125 c126 c127 c128 c129 c130 c131 c132 c133 c134 c135 c136 c137 c138 c139 c140 c141 c142 c143 c144 c145 : Value} (w : World) (c1' : w.cell? ⟨gb, offb + i, none⟩ = some (.slice (some ⟨gr, offr, none⟩) K rc)) (d0 : w.cell? ⟨gr, offr + k * 2, none⟩ = some (.int .i64 (i : Int))) (d1 : w.cell? ⟨gr, offr + k * 2 + 1, none⟩ = some (.int .i64 (ix : Int))) (u0 : w.cell? ⟨gw, offw + i * 2, none⟩ = some (.int .i64 (i : Int))) (u1 : w.cell? ⟨gw, offw + i * 2 + 1, none⟩ = some (.int .i64 (up : Int))) (_ : N ≤ bc) (_ : bc ≤ maxLen) (_ : L ≤ wc) (_ : wc ≤ maxLen) (_ : K ≤ rc) (_ : rc ≤ maxLen) {Q : Exit → Act → World → Prop}
    (hQ : ∀ (w' : World), Grow w w' → ∀ {u90 u91 u92 u93 u94 u95 u96 u97 u98 u99 u100 : Value}, Q .normal ⟨List.toArray (c0 :: c1 :: c2 :: c3 :: c4 :: c5 :: c6 :: c7 :: c8 :: c9 :: c10 :: c11 :: c12 :: c13 :: c14 :: c15 :: .slice (some ⟨gb, offb, none⟩) N bc :: .slice (some ⟨gw, offw, none⟩) L wc :: c18 :: c19 :: .int .i64 (i : Int) :: c21 :: c22 :: .int .i64 (k : Int) :: c24 :: c25 :: c26 :: c27 :: c28 :: c29 :: c30 :: c31 :: c32 :: c33 :: c34 :: c35 :: c36 :: c37 :: c38 :: c39 :: c40 :: c41 :: c42 :: c43 :: c44 :: c45 :: c46 :: c47 :: c48 :: c49 :: c50 :: c51 :: c52 :: c53 :: c54 :: c55 :: c56 :: c57 :: c58 :: c59 :: c60 :: c61 :: c62 :: c63 :: c64 :: c65 :: c66 :: c67 :: c68 :: c69 :: c70 :: c71 :: c72 :: c73 :: c74 :: c75 :: c76 :: c77 :: c78 :: c79 :: c80 :: c81 :: c82 :: c83 :: c84 :: c85 :: c86 :: c87 :: c88 :: c89 :: u90 :: u91 :: u92 :: u93 :: u94 :: u95 :: u96 :: u97 :: u98 :: u99 :: u100 :: .bool e :: c102 :: c103 :: c104 :: c105 :: c106 :: c107 :: c108 :: c109 :: c110 :: c111 :: c112 :: c113 :: c114 :: c115 :: c116 :: c117 :: c118 :: c119 :: c120 :: c121 :: c122 :: c123 :: c124 :: c125 :: c126 :: c127 :: c128 :: c129 :: c130 :: c131 :: c132 :: c133 :: c134 :: c135 :: c136 :: c137 :: c138 :: c139 :: c140 :: c141 :: c142 :: c143 :: c144 :: c145 :: []), []⟩ w') :
    Code.wp Try.prog (regionAt Try.f38 19) Q ⟨List.toArray (c0 :: c1 :: c2 :: c3 :: c4 :: c5 :: c6 :: c7 :: c8 :: c9 :: c10 :: c11 :: c12 :: c13 :: c14 :: c15 :: .slice (some ⟨gb, offb, none⟩) N bc :: .slice (some ⟨gw, offw, none⟩) L wc :: c18 :: c19 :: .int .i64 (i : Int) :: c21 :: c22 :: .int .i64 (k : Int) :: c24 :: c25 :: c26 :: c27 :: c28 :: c29 :: c30 :: c31 :: c32 :: c33 :: c34 :: c35 :: c36 :: c37 :: c38 :: c39 :: c40 :: c41 :: c42 :: c43 :: c44 :: c45 :: c46 :: c47 :: c48 :: c49 :: c50 :: c51 :: c52 :: c53 :: c54 :: c55 :: c56 :: c57 :: c58 :: c59 :: c60 :: c61 :: c62 :: c63 :: c64 :: c65 :: c66 :: c67 :: c68 :: c69 :: c70 :: c71 :: c72 :: c73 :: c74 :: c75 :: c76 :: c77 :: c78 :: c79 :: c80 :: c81 :: c82 :: c83 :: c84 :: c85 :: c86 :: c87 :: c88 :: c89 :: c90 :: c91 :: c92 :: c93 :: c94 :: c95 :: c96 :: c97 :: c98 :: c99 :: c100 :: c101 :: c102 :: c103 :: c104 :: c105 :: c106 :: c107 :: c108 :: c109 :: c110 :: c111 :: c112 :: c113 :: c114 :: c115 :: c116 :: c117 :: c118 :: c119 :: c120 :: c121 :: c122 :: c123 :: c124 :: c125 :: c126 :: c127 :: c128 :: c129 :: c130 :: c131 :: c132 :: c133 :: c134 :: c135 :: c136 :: c137 :: c138 :: c139 :: c140 :: c141 :: c142 :: c143 :: c144 :: c145 :: []), []⟩ w := by
  have hml : maxLen = 9223372036854775807 := rfl
  have q1 := KW.cell (fp := []) (p0 := tt) c1' (by simp)
  have q2 := KW.cell (fp := []) (p0 := tt) d0 (by simp)
  have q3 := KW.cell (fp := []) (p0 := tt) d1 (by simp)
  have q4 := KW.cell (fp := []) (p0 := tt) u0 (by simp)
  have q5 := KW.cell (fp := []) (p0 := tt) u1 (by simp)
  have heq : ∀ w, (Op.equalIn 10000 78 (.agg #[.int .i64 (i : Int), .int .i64 (ix : Int)]) (.agg #[.int .i64 (i : Int), .int .i64 (up : Int)])).run Try.prog w = .ok e w := fun w => by
    rw [eqPlR, he]
    congr 1
    simp
    omega
  clear c1' d0 d1 u0 u1 he
  conv => arg 2; whnf
  refine wp_region_R (segT w []) (by kernel_rfl) segT_drew ?_
  unfold segT segK segR
  repeat (first | (refine wpV_skp rfl rfl ?_; simp only [List.set_cons_succ, List.set_cons_zero]) | (refine wpV_look rfl rfl rfl rfl rfl (fun K hK => ?_); go_big_quiet_op; refine hK _ ?_; clear hK K))
  refine wpV_nil ?_
  intro w2 hC hF
  obtain ⟨⟨w2, hkw2, -⟩, rfl⟩ := hC
  clear hF
  exact hQ _ hkw2.grow


set_option maxRecDepth 100000 in
set_option maxHeartbeats 1000000 in
theorem rver25 (p ph q18 gw offw L wc i jv up : Nat) (hjv : (i : Int) + 1 = (jv : Int)) (hjL : jv < L) (hL : L ≤ 1001) (hup : up ≤ 100000) (ko : Option Addr) (kc : Nat) (key : List UInt8) (hkey : key.length = 32) (ao : Option Addr) (na ca : Nat) (bs : List B16) (hbl : bs.length ≤ 100) (Z : List Value) {c0 c1 c2 c3 c4 c5 c6 c7 c8 c9 c10 c11 c12 c13 c14 c16 c19 c22 c23 c24 c25 c26 c27 c28 c29 c30 c31 c32 c33 c34 c35 c36 c37 c38 c39 c40 c41 c42 c43 c44 c45 c46 c47 c48 c49 c50 c51 c52 c53 c54 c55 c56 c57 c58 c59 c60 c61 c62 c63 c64 c65 c66 c67 c68 c69 c70 c71 c72 c73 c74 c75 c76 c77 c78 c79 c80 c81 c82 c83 c84 c85 c86 c87 c88 c89 c90 c91 c92 c93 c94 c95 c96 c97 c98 c99 c100 c101 c102 c103 c104 c105 c106 c107 c108 c109 c110 c111 c112 c113 c114 c115 c116 c117 c118 c119 c120 c121 c122 c123 c124 c125 c126 c127 c128 c129 c130 c131 c132 c133 c134 c135 c136 c137 c138 c139 c140 c141 c142 c143 c144 c145 : Value} (w : World) (u0 : w.cell? ⟨gw, offw + jv * 2, none⟩ = some (.int .i64 (jv : Int))) (u1 : w.cell? ⟨gw, offw + jv * 2 + 1, none⟩ = some (.int .i64 (up : Int))) (_ : L ≤ wc) (_ : wc ≤ maxLen) (c0' : w.cell? ⟨p, 0, none⟩ = some (.pointer (some ⟨ph, 0, none⟩))) (c1' : w.cell? ⟨p, 1, none⟩ = some (.slice ko 32 kc)) (sm : Sm w ph Hs Ks) (sk : Sl w 1 ko 32 kc (key.map B)) (sa : Sl w 1 ao na ca ((bs.flatMap (·.b)).map B)) (o4 : Own w 33 1 (some ⟨q18, 0, none⟩) 16 16 Z) {Q : Exit → Act → World → Prop}
    (hQ : ∀ (w' : World), Own w' 33 1 (some ⟨q18, 0, none⟩) 16 16 ((nodeT key jv up bs).b.map B) → Keep [q18] w w' → ∀ {u117 u118 u119 u120 u121 u122 u123 u124 u125 u126 u127 u128 u129 u130 u131 u132 u133 u134 u135 u136 : Value}, Q .normal ⟨List.toArray (c0 :: c1 :: c2 :: c3 :: c4 :: c5 :: c6 :: c7 :: c8 :: c9 :: c10 :: c11 :: c12 :: c13 :: c14 :: .pointer (some ⟨p, 0, none⟩) :: c16 :: .slice (some ⟨gw, offw, none⟩) L wc :: .pointer (some ⟨q18, 0, none⟩) :: c19 :: .int .i64 (i : Int) :: .slice ao na ca :: c22 :: c23 :: c24 :: c25 :: c26 :: c27 :: c28 :: c29 :: c30 :: c31 :: c32 :: c33 :: c34 :: c35 :: c36 :: c37 :: c38 :: c39 :: c40 :: c41 :: c42 :: c43 :: c44 :: c45 :: c46 :: c47 :: c48 :: c49 :: c50 :: c51 :: c52 :: c53 :: c54 :: c55 :: c56 :: c57 :: c58 :: c59 :: c60 :: c61 :: c62 :: c63 :: c64 :: c65 :: c66 :: c67 :: c68 :: c69 :: c70 :: c71 :: c72 :: c73 :: c74 :: c75 :: c76 :: c77 :: c78 :: c79 :: c80 :: c81 :: c82 :: c83 :: c84 :: c85 :: c86 :: c87 :: c88 :: c89 :: c90 :: c91 :: c92 :: c93 :: c94 :: c95 :: c96 :: c97 :: c98 :: c99 :: c100 :: c101 :: c102 :: c103 :: c104 :: c105 :: c106 :: c107 :: c108 :: c109 :: c110 :: c111 :: c112 :: c113 :: c114 :: c115 :: c116 :: u117 :: u118 :: u119 :: u120 :: u121 :: u122 :: u123 :: u124 :: u125 :: u126 :: u127 :: u128 :: u129 :: u130 :: u131 :: u132 :: u133 :: u134 :: u135 :: u136 :: c137 :: c138 :: c139 :: c140 :: c141 :: c142 :: c143 :: c144 :: c145 :: []), []⟩ w') :
    Code.wp Try.prog (regionAt Try.f38 25) Q ⟨List.toArray (c0 :: c1 :: c2 :: c3 :: c4 :: c5 :: c6 :: c7 :: c8 :: c9 :: c10 :: c11 :: c12 :: c13 :: c14 :: .pointer (some ⟨p, 0, none⟩) :: c16 :: .slice (some ⟨gw, offw, none⟩) L wc :: .pointer (some ⟨q18, 0, none⟩) :: c19 :: .int .i64 (i : Int) :: .slice ao na ca :: c22 :: c23 :: c24 :: c25 :: c26 :: c27 :: c28 :: c29 :: c30 :: c31 :: c32 :: c33 :: c34 :: c35 :: c36 :: c37 :: c38 :: c39 :: c40 :: c41 :: c42 :: c43 :: c44 :: c45 :: c46 :: c47 :: c48 :: c49 :: c50 :: c51 :: c52 :: c53 :: c54 :: c55 :: c56 :: c57 :: c58 :: c59 :: c60 :: c61 :: c62 :: c63 :: c64 :: c65 :: c66 :: c67 :: c68 :: c69 :: c70 :: c71 :: c72 :: c73 :: c74 :: c75 :: c76 :: c77 :: c78 :: c79 :: c80 :: c81 :: c82 :: c83 :: c84 :: c85 :: c86 :: c87 :: c88 :: c89 :: c90 :: c91 :: c92 :: c93 :: c94 :: c95 :: c96 :: c97 :: c98 :: c99 :: c100 :: c101 :: c102 :: c103 :: c104 :: c105 :: c106 :: c107 :: c108 :: c109 :: c110 :: c111 :: c112 :: c113 :: c114 :: c115 :: c116 :: c117 :: c118 :: c119 :: c120 :: c121 :: c122 :: c123 :: c124 :: c125 :: c126 :: c127 :: c128 :: c129 :: c130 :: c131 :: c132 :: c133 :: c134 :: c135 :: c136 :: c137 :: c138 :: c139 :: c140 :: c141 :: c142 :: c143 :: c144 :: c145 :: []), []⟩ w := by
  have hml : maxLen = 9223372036854775807 := rfl
  have hn1 := eightC jv (by omega)
  have hn2 := eightC up (by omega)
  have q0 := KW.cell (fp := []) (p0 := tt) u0 (by simp)
  have q1 := KW.cell (fp := []) (p0 := tt) u1 (by simp)
  have hfl : (nodeP jv up bs).flatten.length ≤ 100000 := by
    have := flatB_len bs
    simp [nodeP, numS_len] at this ⊢
    omega
  have hmd : ∀ w', Grow w w' → ∀ lo vs, Sl w' 1 lo 4 4 vs → Pt w' vs (nodeP jv up bs) → ∀ R : Ending → World → Prop, (∀ w2, Grow w' w2 → R (.returned (.agg ((nodeT key jv up bs).b.map B).toArray)) w2) → Calls Try.prog 66 #[.pointer (some ⟨p, 0, none⟩), .slice lo 4 4] w' R :=
    fun w' g lo vs s pt R hR => madeC p ph ko kc key hkey lo 4 4 vs (nodeP jv up bs) rfl (by omega) hfl w' (g.cell c0') (g.cell c1') (sm.grow g) (sk.grow g) s pt R hR
  have hVl := bV_len (nodeT key jv up bs)
  have hV1 := B_one (nodeT key jv up bs).b
  obtain ⟨V, hV⟩ : ∃ V, V = (nodeT key jv up bs).b.map B := ⟨_, rfl⟩
  rw [← hV] at hVl hV1 hQ
  simp only [← hV] at hmd
  have hnp : nodeP jv up bs = [[110, 111, 100, 101], numS jv, numS up, bs.flatMap (·.b)] := rfl
  rw [hnp] at hmd
  obtain ⟨all, hall⟩ : ∃ all, all = bs.flatMap (·.b) := ⟨_, rfl⟩
  rw [← hall] at hmd sa
  clear hV hnp hall hfl u0 u1 c0' c1'
  conv => arg 2; whnf
  refine wp_region_R (segF w [(1, fLit w.heap.size [110, 111, 100, 101]), (2, fBy [110, 111, 100, 101]), (9, fSl 1 8 ((numS jv).map B)), (16, fSl 1 8 ((numS up).map B)), (18, fPt4 w.heap.size [[110, 111, 100, 101], numS jv, numS up, all]), (19, fIs (.agg V.toArray))]) (by kernel_rfl) segF_drew ?_
  unfold segF
  repeat (first | (refine wpV_skp rfl rfl ?_; simp only [List.set_cons_succ, List.set_cons_zero]) | (refine wpV_look rfl rfl rfl rfl rfl (fun K hK => ?_); go_big_quiet_op; refine hK _ ?_; clear hK K))
  refine wpV_mk rfl rfl rfl [] (by kernel_rfl) (fun vs w7 hC hF => ?_) (fun vs v w7 hC hV hF => ?_)
  · obtain ⟨⟨w7, hk, -⟩, rfl⟩ := hC
    unfold yields
    go_simp
    exact ⟨growF (Grow.alloc w7 _), fLit_new w7 _ [110, 111, 100, 101] 4 rfl hk.size⟩
  obtain ⟨g1, r1, rfl, -, -⟩ := hV
  clear hC hF w7
  simp only [List.set_cons_succ, List.set_cons_zero]
  refine wpV_mk rfl rfl rfl [1] (by kernel_rfl) (fun vs w7 hC hF => ?_) (fun vs v w7 hC hV hF => ?_)
  · obtain ⟨⟨w7, hk, -⟩, rfl⟩ := hC
    obtain ⟨g, fr, e, hh, hg⟩ := (hF 1 (by simp)).2 rfl
    cases e
    obtain ⟨w8, hr, kf, kp⟩ := conv_lit 4 4 hh
    exact yields_run (exec_conv hr) ⟨⟨kf, _, kp, by simpa using hg⟩, fBy_lit hh (by decide) kf⟩
  obtain ⟨b1, d1, rfl, -⟩ := hV
  clear hC hF w7
  simp only [List.set_cons_succ, List.set_cons_zero]
  repeat (first | (refine wpV_skp rfl rfl ?_; simp only [List.set_cons_succ, List.set_cons_zero]) | (refine wpV_look rfl rfl rfl rfl rfl (fun K hK => ?_); go_big_quiet_op; refine hK _ ?_; clear hK K))
  refine wpV_mk rfl rfl rfl [] (by kernel_rfl) (fun vs w7 hC hF => yields_call (by kernel_rfl) ?_) (fun vs v w7 hC hV hF => ?_)
  · obtain ⟨⟨w7, hk, -⟩, rfl⟩ := hC
    exact hn1 w7 _ (fun ao c w8 o8 g8 _ => ⟨_, rfl, growF g8, ⟨_, _, rfl, o8.sl⟩⟩)
  obtain ⟨b4, d4, rfl, -⟩ := hV
  clear hC hF w7
  simp only [List.set_cons_succ, List.set_cons_zero]
  repeat (first | (refine wpV_skp rfl rfl ?_; simp only [List.set_cons_succ, List.set_cons_zero]) | (refine wpV_look rfl rfl rfl rfl rfl (fun K hK => ?_); go_big_quiet_op; refine hK _ ?_; clear hK K))
  refine wpV_mk rfl rfl rfl [] (by kernel_rfl) (fun vs w7 hC hF => yields_call (by kernel_rfl) ?_) (fun vs v w7 hC hV hF => ?_)
  · obtain ⟨⟨w7, hk, -⟩, rfl⟩ := hC
    exact hn2 w7 _ (fun ao c w8 o8 g8 _ => ⟨_, rfl, growF g8, ⟨_, _, rfl, o8.sl⟩⟩)
  obtain ⟨b7, d7, rfl, -⟩ := hV
  clear hC hF w7
  simp only [List.set_cons_succ, List.set_cons_zero]
  repeat (first | (refine wpV_skp rfl rfl ?_; simp only [List.set_cons_succ, List.set_cons_zero]) | (refine wpV_look rfl rfl rfl rfl rfl (fun K hK => ?_); go_big_quiet_op; refine hK _ ?_; clear hK K))
  refine wpV_mk rfl rfl rfl [2, 9, 16] (by kernel_rfl) (fun vs w7 hC hF => ?_) (fun vs v w7 hC hV hF => ?_)
  · obtain ⟨⟨w7, hk, -⟩, rfl⟩ := hC
    obtain ⟨bo, d, e, hs⟩ := (hF 2 (by simp)).1.1.2 rfl
    obtain ⟨bo2, d2, e2, hs2⟩ := (hF 9 (by simp)).1.2 rfl
    obtain ⟨bo3, d3, e3, hs3⟩ := (hF 16 (by simp)).2 rfl
    cases e
    cases e2
    cases e3
    have g := Grow.alloc w7 (.cells #[.slice b1 4 d1, .slice b4 8 d4, .slice b7 8 d7, .slice ao na ca] 27)
    obtain ⟨s9, p9⟩ := four_parts (alloc_new w7 (.cells #[.slice b1 4 d1, .slice b4 8 d4, .slice b7 8 d7, .slice ao na ca] 27)) (hs.grow g) (hs2.grow g) (hs3.grow g) ((sa.keep hk (by simp)).grow g)
    unfold yields
    go_simp
    exact ⟨growF g, _, _, rfl, s9, p9, hk.size⟩
  obtain ⟨g9, vs9, rfl, -⟩ := hV
  clear hC hF w7
  simp only [List.set_cons_succ, List.set_cons_zero]
  refine wpV_mk rfl rfl rfl [18] (by kernel_rfl) (fun vs w7 hC hF => yields_call (by kernel_rfl) ?_) (fun vs v w7 hC hV hF => ?_)
  · obtain ⟨⟨w7, hk7, -⟩, rfl⟩ := hC
    obtain ⟨g, vs, e, s9, p9, -⟩ := (hF 18 (by simp)).2 rfl
    cases e
    exact hmd w7 hk7.grow _ _ s9 p9 _ (fun w8 g8 => ⟨_, rfl, growF g8, rfl⟩)
  obtain rfl := hV
  clear hC hF w7
  simp only [List.set_cons_succ, List.set_cons_zero]
  refine wpV_end0 rfl rfl (by kernel_rfl) (fun w7 hC hF => ?_)
  obtain ⟨⟨w7, hk7, -⟩, rfl⟩ := hC
  obtain ⟨r1, r3, r4⟩ := store_arr (P := Try.prog) hVl hV1 (o4.keep hk7 (by simp)) i16
  unfold yields
  rw [exec_store r1]
  simp only [yUpon]
  exact hQ _ r3 ((Keep.of_nil hk7).trans r4)
end Go.Proofs.Ytfmnkcmicbnfdaa
