/- ProjKinds: its script is built, part by part. -/
import Derived.Test.YtgchbcopbkoomaaAw25
namespace Go.Proofs.Ytgchbcopbkoomaa
open Go Go.RowKit

def pkW (k sz : Nat) : CmX := ⟨6, [], [], k, 0, List.replicate (sz * 64) 0⟩
def pkR : CmX := ⟨5, [], [], 0, 1, []⟩
def pkS : CmX := ⟨7, [], [], 0, 0, []⟩
def pkU : CmX := ⟨8, [], [], 0, 0, []⟩
def eW (k sz q : Nat) : Ex := doE (pkW k sz) (some ⟨q, 0, none⟩) (sz * 64)
theorem pkW_len (k sz : Nat) : (pkW k sz).data.length = sz * 64 := by simp [pkW]


set_option maxRecDepth 100000 in
set_option maxHeartbeats 4000000 in
theorem pk22 (sz k m : Nat) (hsz : sz ≤ 10) (hm : m ≤ 1000) (lo : Option Addr) (lc : Nat) (lE : List Ex) {c0 c1 c2 c3 c5 c6 c7 c8 c9 c10 c13 c14 c15 c16 c17 c18 c19 c20 c21 c22 c23 c24 c25 c26 c27 c28 c29 c30 c31 c32 c33 c34 c35 c36 c37 c38 c39 c40 c41 c42 c43 c44 c45 c46 c47 c48 c49 c50 c51 c52 c53 c54 c55 c56 c57 c58 c59 c60 c61 c62 c63 c64 c65 c66 c67 c68 c69 c70 c71 c72 c73 c74 c75 c76 c77 c78 c79 c80 c81 c82 c83 c84 c85 c86 c87 c88 c89 c90 c91 c92 c93 c94 c95 c96 c97 c98 c99 c100 c101 c102 c103 c104 c105 c106 c107 c108 c109 c110 c111 c112 c113 c114 c115 c116 c117 c118 c119 c120 c121 c122 c123 c124 c125 c126 c127 c128 c129 c130 c131 c132 c133 c134 c135 c136 c137 c138 c139 c140 c141 c142 c143 c144 c145 c146 c147 c148 c149 c150 c151 c152 c153 c154 c155 c156 c157 c158 c159 c160 c161 c162 c163 c164 c165 c166 : Value} (w : World) (o : Own w 38 10 lo m lc (lE.flatMap exV)) {Q : Exit → Act → World → Prop}
    (hQ : ∀ (q : Nat) (lo' : Option Addr) (lc' : Nat) (w' : World), Own w' 38 10 lo' (m + 3) lc' ((lE ++ [eW k sz q, doE pkR none 0, doE pkS none 0]).flatMap exV) → Keep (blk lo) w w' → (∀ y ∈ blk lo', y ∈ blk lo ∨ w.heap.size ≤ y) → ∀ {u89 u90 u91 u92 u93 u94 u95 u96 u97 u98 u99 u100 u101 : Value}, Q .normal ⟨List.toArray (c0 :: c1 :: c2 :: c3 :: .int .i64 (sz : Int) :: c5 :: c6 :: c7 :: c8 :: c9 :: c10 :: .int .i64 (k : Int) :: .slice lo' (m + 3 : Nat) lc' :: c13 :: c14 :: c15 :: c16 :: c17 :: c18 :: c19 :: c20 :: c21 :: c22 :: c23 :: c24 :: c25 :: c26 :: c27 :: c28 :: c29 :: c30 :: c31 :: c32 :: c33 :: c34 :: c35 :: c36 :: c37 :: c38 :: c39 :: c40 :: c41 :: c42 :: c43 :: c44 :: c45 :: c46 :: c47 :: c48 :: c49 :: c50 :: c51 :: c52 :: c53 :: c54 :: c55 :: c56 :: c57 :: c58 :: c59 :: c60 :: c61 :: c62 :: c63 :: c64 :: c65 :: c66 :: c67 :: c68 :: c69 :: c70 :: c71 :: c72 :: c73 :: c74 :: c75 :: c76 :: c77 :: c78 :: c79 :: c80 :: c81 :: c82 :: c83 :: c84 :: c85 :: c86 :: c87 :: c88 :: u89 :: u90 :: u91 :: u92 :: u93 :: u94 :: u95 :: u96 :: u97 :: u98 :: u99 :: u100 :: u101 :: c102 :: c103 :: c104 :: c105 :: c106 :: c107 :: c108 :: c109 :: c110 :: c111 :: c112 :: c113 :: c114 :: c115 :: c116 :: c117 :: c118 :: c119 :: c120 :: c121 :: c122 :: c123 :: c124 :: c125 :: c126 :: c127 :: c128 :: c129 :: c130 :: c131 :: c132 :: c133 :: c134 :: c135 :: c136 :: c137 :: c138 :: c139 :: c140 :: c141 :: c142 :: c143 :: c144 :: c145 :: c146 :: c147 :: c148 :: c149 :: c150 :: c151 :: c152 :: c153 :: c154 :: c155 :: c156 :: c157 :: c158 :: c159 :: c160 :: c161 :: c162 :: c163 :: c164 :: c165 :: c166 :: []), []⟩ w') :
    Code.wp Try.prog (regionAt Try.f4 22) Q ⟨List.toArray (c0 :: c1 :: c2 :: c3 :: .int .i64 (sz : Int) :: c5 :: c6 :: c7 :: c8 :: c9 :: c10 :: .int .i64 (k : Int) :: .slice lo m lc :: c13 :: c14 :: c15 :: c16 :: c17 :: c18 :: c19 :: c20 :: c21 :: c22 :: c23 :: c24 :: c25 :: c26 :: c27 :: c28 :: c29 :: c30 :: c31 :: c32 :: c33 :: c34 :: c35 :: c36 :: c37 :: c38 :: c39 :: c40 :: c41 :: c42 :: c43 :: c44 :: c45 :: c46 :: c47 :: c48 :: c49 :: c50 :: c51 :: c52 :: c53 :: c54 :: c55 :: c56 :: c57 :: c58 :: c59 :: c60 :: c61 :: c62 :: c63 :: c64 :: c65 :: c66 :: c67 :: c68 :: c69 :: c70 :: c71 :: c72 :: c73 :: c74 :: c75 :: c76 :: c77 :: c78 :: c79 :: c80 :: c81 :: c82 :: c83 :: c84 :: c85 :: c86 :: c87 :: c88 :: c89 :: c90 :: c91 :: c92 :: c93 :: c94 :: c95 :: c96 :: c97 :: c98 :: c99 :: c100 :: c101 :: c102 :: c103 :: c104 :: c105 :: c106 :: c107 :: c108 :: c109 :: c110 :: c111 :: c112 :: c113 :: c114 :: c115 :: c116 :: c117 :: c118 :: c119 :: c120 :: c121 :: c122 :: c123 :: c124 :: c125 :: c126 :: c127 :: c128 :: c129 :: c130 :: c131 :: c132 :: c133 :: c134 :: c135 :: c136 :: c137 :: c138 :: c139 :: c140 :: c141 :: c142 :: c143 :: c144 :: c145 :: c146 :: c147 :: c148 :: c149 :: c150 :: c151 :: c152 :: c153 :: c154 :: c155 :: c156 :: c157 :: c158 :: c159 :: c160 :: c161 :: c162 :: c163 :: c164 :: c165 :: c166 :: []), []⟩ w := by
  have hml : maxLen = 9223372036854775807 := rfl
  obtain ⟨z, hz⟩ : ∃ z, z = sz * 64 := ⟨_, rfl⟩
  have hmk := mkB z (by omega) w
  have ez : ((sz : Int) * 64) = (z : Int) := by omega
  have o1 := o.grow (Grow.alloc w (.cells (List.replicate z (.int .u8 0)).toArray 5))
  have G0 := Grow.alloc w (.cells (List.replicate z (.int .u8 0)).toArray 5)
  obtain ⟨q, hq⟩ : ∃ q, q = w.heap.size := ⟨_, rfl⟩
  obtain ⟨W0, hW0⟩ : ∃ W0, W0 = w.alloc (.cells (List.replicate z (.int .u8 0)).toArray 5) := ⟨_, rfl⟩
  rw [← hW0] at hmk o1 G0
  rw [← hq] at hmk
  have HQ := Lib.hid hQ
  have O1 := Lib.hid o1
  have Hz := Lib.hid hz
  clear hQ hW0 hq o o1 hz
  conv => arg 2; whnf
  go_wp2_with fail
  have hdz : ∀ w R hR, _ := fun w R hR => doC (pkW k sz) (some ⟨q, 0, none⟩) (sz * 64) w R hR
  have e3 : (doV (pkW k sz) (some ⟨q, 0, none⟩) (sz * 64)).toArray = #[.int .i64 6, .string (str []), .string (str []), .int .i64 k, .int .i64 0, .slice (some ⟨q, 0, none⟩) z z] := by rw [doV, pkW_len, ← Hz.out]; rfl
  simp only [e3] at hdz
  refine hdz _ _ ?_
  clear hdz e3 hmk
  intro w5 g5
  go_wp2_with fail
  refine doC pkR none 0 _ _ ?_
  intro w6 g6
  go_wp2_with fail
  refine doC pkS none 0 _ _ ?_
  intro w7 g7
  have G7 := G0.trans (g5.trans (g6.trans g7))
  have o7 := O1.out.grow (g5.trans (g6.trans g7))
  clear g5 g6 g7 G0 O1
  go_wp2_with (first | (refine wpList_bs3 rfl (.tmp 95) (.tmp 97) (.tmp 99) (doE (pkW k sz) (some ⟨q, 0, none⟩) (sz * 64)) (doE pkR none 0) (doE pkS none 0) rfl rfl rfl rfl ?_; intro gL w8 g8 hge oL) | (at_builtin; refine wpList_app TSr rfl rfl (o7.grow g8) oL.sl (by omega) (by omega) ?_; intro lo2 lc2 w9 o9 _ k9 b9))
  have hz7 := (G7.trans g8).size
  have h1 : Own w9 38 10 lo2 (m + 3) lc2 ((lE ++ [eW k sz q, doE pkR none 0, doE pkS none 0]).flatMap exV) := by rw [List.flatMap_append]; exact o9
  exact HQ.out q lo2 lc2 w9 h1 ((Keep.of_grow _ (G7.trans g8)).trans k9) (fun y hy => (b9 y hy).imp id (fun h => Nat.le_trans hz7 h))


set_option maxRecDepth 100000 in
set_option maxHeartbeats 4000000 in
theorem pk26 (m : Nat) (hm : m ≤ 1000) (wo : Option Addr) (wc : Nat) (a b : Int) (W : List Int) {c0 c1 c2 c3 c4 c5 c6 c7 c8 c9 c10 c11 c12 c14 c15 c17 c19 c20 c21 c22 c23 c24 c25 c26 c27 c28 c29 c30 c31 c32 c33 c34 c35 c36 c37 c38 c39 c40 c41 c42 c43 c44 c45 c46 c47 c48 c49 c50 c51 c52 c53 c54 c55 c56 c57 c58 c59 c60 c61 c62 c63 c64 c65 c66 c67 c68 c69 c70 c71 c72 c73 c74 c75 c76 c77 c78 c79 c80 c81 c82 c83 c84 c85 c86 c87 c88 c89 c90 c91 c92 c93 c94 c95 c96 c97 c98 c99 c100 c101 c102 c103 c104 c105 c106 c107 c108 c109 c110 c111 c112 c113 c114 c115 c116 c117 c118 c119 c120 c121 c122 c123 c124 c125 c126 c127 c128 c129 c130 c131 c132 c133 c134 c135 c136 c137 c138 c139 c140 c141 c142 c143 c144 c145 c146 c147 c148 c149 c150 c151 c152 c153 c154 c155 c156 c157 c158 c159 c160 c161 c162 c163 c164 c165 c166 : Value} (w : World) (o : Own w 3 1 wo m wc (W.map (.int .i64))) {Q : Exit → Act → World → Prop}
    (hQ : ∀ (wo' : Option Addr) (wc' : Nat) (w' : World), Own w' 3 1 wo' (m + 3) wc' ((W ++ [a, b, b]).map (.int .i64)) → Keep (blk wo) w w' → (∀ y ∈ blk wo', y ∈ blk wo ∨ w.heap.size ≤ y) → ∀ {u111 u112 u113 u114 u115 u116 : Value}, Q .normal ⟨List.toArray (c0 :: c1 :: c2 :: c3 :: c4 :: c5 :: c6 :: c7 :: c8 :: c9 :: c10 :: c11 :: c12 :: .slice wo' (m + 3 : Nat) wc' :: c14 :: c15 :: .int .i64 b :: c17 :: .int .i64 a :: c19 :: c20 :: c21 :: c22 :: c23 :: c24 :: c25 :: c26 :: c27 :: c28 :: c29 :: c30 :: c31 :: c32 :: c33 :: c34 :: c35 :: c36 :: c37 :: c38 :: c39 :: c40 :: c41 :: c42 :: c43 :: c44 :: c45 :: c46 :: c47 :: c48 :: c49 :: c50 :: c51 :: c52 :: c53 :: c54 :: c55 :: c56 :: c57 :: c58 :: c59 :: c60 :: c61 :: c62 :: c63 :: c64 :: c65 :: c66 :: c67 :: c68 :: c69 :: c70 :: c71 :: c72 :: c73 :: c74 :: c75 :: c76 :: c77 :: c78 :: c79 :: c80 :: c81 :: c82 :: c83 :: c84 :: c85 :: c86 :: c87 :: c88 :: c89 :: c90 :: c91 :: c92 :: c93 :: c94 :: c95 :: c96 :: c97 :: c98 :: c99 :: c100 :: c101 :: c102 :: c103 :: c104 :: c105 :: c106 :: c107 :: c108 :: c109 :: c110 :: u111 :: u112 :: u113 :: u114 :: u115 :: u116 :: c117 :: c118 :: c119 :: c120 :: c121 :: c122 :: c123 :: c124 :: c125 :: c126 :: c127 :: c128 :: c129 :: c130 :: c131 :: c132 :: c133 :: c134 :: c135 :: c136 :: c137 :: c138 :: c139 :: c140 :: c141 :: c142 :: c143 :: c144 :: c145 :: c146 :: c147 :: c148 :: c149 :: c150 :: c151 :: c152 :: c153 :: c154 :: c155 :: c156 :: c157 :: c158 :: c159 :: c160 :: c161 :: c162 :: c163 :: c164 :: c165 :: c166 :: []), []⟩ w') :
    Code.wp Try.prog (regionAt Try.f4 26) Q ⟨List.toArray (c0 :: c1 :: c2 :: c3 :: c4 :: c5 :: c6 :: c7 :: c8 :: c9 :: c10 :: c11 :: c12 :: .slice wo m wc :: c14 :: c15 :: .int .i64 b :: c17 :: .int .i64 a :: c19 :: c20 :: c21 :: c22 :: c23 :: c24 :: c25 :: c26 :: c27 :: c28 :: c29 :: c30 :: c31 :: c32 :: c33 :: c34 :: c35 :: c36 :: c37 :: c38 :: c39 :: c40 :: c41 :: c42 :: c43 :: c44 :: c45 :: c46 :: c47 :: c48 :: c49 :: c50 :: c51 :: c52 :: c53 :: c54 :: c55 :: c56 :: c57 :: c58 :: c59 :: c60 :: c61 :: c62 :: c63 :: c64 :: c65 :: c66 :: c67 :: c68 :: c69 :: c70 :: c71 :: c72 :: c73 :: c74 :: c75 :: c76 :: c77 :: c78 :: c79 :: c80 :: c81 :: c82 :: c83 :: c84 :: c85 :: c86 :: c87 :: c88 :: c89 :: c90 :: c91 :: c92 :: c93 :: c94 :: c95 :: c96 :: c97 :: c98 :: c99 :: c100 :: c101 :: c102 :: c103 :: c104 :: c105 :: c106 :: c107 :: c108 :: c109 :: c110 :: c111 :: c112 :: c113 :: c114 :: c115 :: c116 :: c117 :: c118 :: c119 :: c120 :: c121 :: c122 :: c123 :: c124 :: c125 :: c126 :: c127 :: c128 :: c129 :: c130 :: c131 :: c132 :: c133 :: c134 :: c135 :: c136 :: c137 :: c138 :: c139 :: c140 :: c141 :: c142 :: c143 :: c144 :: c145 :: c146 :: c147 :: c148 :: c149 :: c150 :: c151 :: c152 :: c153 :: c154 :: c155 :: c156 :: c157 :: c158 :: c159 :: c160 :: c161 :: c162 :: c163 :: c164 :: c165 :: c166 :: []), []⟩ w := by
  have hml : maxLen = 9223372036854775807 := rfl
  have HQ := Lib.hid hQ
  have ga := Grow.alloc w (.cells #[.int .i64 a, .int .i64 b, .int .i64 b] 3)
  have sE : Sl (w.alloc (.cells #[.int .i64 a, .int .i64 b, .int .i64 b] 3)) 1 (some ⟨w.heap.size, 0, none⟩) 3 3 [.int .i64 a, .int .i64 b, .int .i64 b] := (Own.made (n := 3) (sz := 1) (heap_alloc_new w (.cells #[.int .i64 a, .int .i64 b, .int .i64 b] 3)) rfl (by decide) (by simp [Value.oneCell'])).sl
  have oA := o.grow ga
  clear hQ o
  conv => arg 2; whnf
  go_wp2_with (at_builtin; refine wpList_app TIn rfl rfl oA sE (by omega) (by omega) ?_; intro lo2 lc2 w9 o9 _ k9 b9)
  have h1 : Own w9 3 1 lo2 (m + 3) lc2 ((W ++ [a, b, b]).map (.int .i64)) := by rw [List.map_append]; exact o9
  exact HQ.out lo2 lc2 w9 h1 ((Keep.of_grow _ ga).trans k9) (fun y hy => (b9 y hy).imp id (fun h => Nat.le_trans ga.size h))


set_option maxRecDepth 100000 in
set_option maxHeartbeats 4000000 in
theorem pk15 (q m : Nat) (hm : m ≤ 1000) (lo : Option Addr) (lc : Nat) (lE : List Ex) (c : CmX) (_ : c.data = []) {c0 c1 c2 c3 c4 c5 c6 c7 c8 c9 c10 c11 c13 c15 c16 c17 c18 c19 c20 c21 c22 c23 c24 c25 c26 c27 c28 c29 c30 c31 c32 c33 c34 c35 c36 c37 c38 c39 c40 c41 c42 c43 c44 c45 c46 c47 c48 c49 c50 c51 c52 c53 c54 c55 c56 c57 c58 c59 c60 c61 c62 c63 c64 c65 c66 c67 c68 c69 c70 c71 c72 c73 c74 c75 c76 c77 c78 c79 c80 c81 c82 c83 c84 c85 c86 c87 c88 c89 c90 c91 c92 c93 c94 c95 c96 c97 c98 c99 c100 c101 c102 c103 c104 c105 c106 c107 c108 c109 c110 c111 c112 c113 c114 c115 c116 c117 c118 c119 c120 c121 c122 c123 c124 c125 c126 c127 c128 c129 c130 c131 c132 c133 c134 c135 c136 c137 c138 c139 c140 c141 c142 c143 c144 c145 c146 c147 c148 c149 c150 c151 c152 c153 c154 c155 c156 c157 c158 c159 c160 c161 c162 c163 c164 c165 c166 : Value} (w : World) (o : Own w 38 10 lo m lc (lE.flatMap exV)) (oq : Own w 35 1 (some ⟨q, 0, none⟩) 6 6 (doV c none 0)) {Q : Exit → Act → World → Prop}
    (hQ : ∀ (lo' : Option Addr) (lc' : Nat) (w' : World), Own w' 38 10 lo' (m + 1) lc' ((lE ++ [doE c none 0]).flatMap exV) → Keep (blk lo) w w' → (∀ y ∈ blk lo', y ∈ blk lo ∨ w.heap.size ≤ y) → ∀ {u67 u68 u69 u70 u71 : Value}, Q .normal ⟨List.toArray (c0 :: c1 :: c2 :: c3 :: c4 :: c5 :: c6 :: c7 :: c8 :: c9 :: c10 :: c11 :: .slice lo' (m + 1 : Nat) lc' :: c13 :: .pointer (some ⟨q, 0, none⟩) :: c15 :: c16 :: c17 :: c18 :: c19 :: c20 :: c21 :: c22 :: c23 :: c24 :: c25 :: c26 :: c27 :: c28 :: c29 :: c30 :: c31 :: c32 :: c33 :: c34 :: c35 :: c36 :: c37 :: c38 :: c39 :: c40 :: c41 :: c42 :: c43 :: c44 :: c45 :: c46 :: c47 :: c48 :: c49 :: c50 :: c51 :: c52 :: c53 :: c54 :: c55 :: c56 :: c57 :: c58 :: c59 :: c60 :: c61 :: c62 :: c63 :: c64 :: c65 :: c66 :: u67 :: u68 :: u69 :: u70 :: u71 :: c72 :: c73 :: c74 :: c75 :: c76 :: c77 :: c78 :: c79 :: c80 :: c81 :: c82 :: c83 :: c84 :: c85 :: c86 :: c87 :: c88 :: c89 :: c90 :: c91 :: c92 :: c93 :: c94 :: c95 :: c96 :: c97 :: c98 :: c99 :: c100 :: c101 :: c102 :: c103 :: c104 :: c105 :: c106 :: c107 :: c108 :: c109 :: c110 :: c111 :: c112 :: c113 :: c114 :: c115 :: c116 :: c117 :: c118 :: c119 :: c120 :: c121 :: c122 :: c123 :: c124 :: c125 :: c126 :: c127 :: c128 :: c129 :: c130 :: c131 :: c132 :: c133 :: c134 :: c135 :: c136 :: c137 :: c138 :: c139 :: c140 :: c141 :: c142 :: c143 :: c144 :: c145 :: c146 :: c147 :: c148 :: c149 :: c150 :: c151 :: c152 :: c153 :: c154 :: c155 :: c156 :: c157 :: c158 :: c159 :: c160 :: c161 :: c162 :: c163 :: c164 :: c165 :: c166 :: []), []⟩ w') :
    Code.wp Try.prog (regionAt Try.f4 15) Q ⟨List.toArray (c0 :: c1 :: c2 :: c3 :: c4 :: c5 :: c6 :: c7 :: c8 :: c9 :: c10 :: c11 :: .slice lo m lc :: c13 :: .pointer (some ⟨q, 0, none⟩) :: c15 :: c16 :: c17 :: c18 :: c19 :: c20 :: c21 :: c22 :: c23 :: c24 :: c25 :: c26 :: c27 :: c28 :: c29 :: c30 :: c31 :: c32 :: c33 :: c34 :: c35 :: c36 :: c37 :: c38 :: c39 :: c40 :: c41 :: c42 :: c43 :: c44 :: c45 :: c46 :: c47 :: c48 :: c49 :: c50 :: c51 :: c52 :: c53 :: c54 :: c55 :: c56 :: c57 :: c58 :: c59 :: c60 :: c61 :: c62 :: c63 :: c64 :: c65 :: c66 :: c67 :: c68 :: c69 :: c70 :: c71 :: c72 :: c73 :: c74 :: c75 :: c76 :: c77 :: c78 :: c79 :: c80 :: c81 :: c82 :: c83 :: c84 :: c85 :: c86 :: c87 :: c88 :: c89 :: c90 :: c91 :: c92 :: c93 :: c94 :: c95 :: c96 :: c97 :: c98 :: c99 :: c100 :: c101 :: c102 :: c103 :: c104 :: c105 :: c106 :: c107 :: c108 :: c109 :: c110 :: c111 :: c112 :: c113 :: c114 :: c115 :: c116 :: c117 :: c118 :: c119 :: c120 :: c121 :: c122 :: c123 :: c124 :: c125 :: c126 :: c127 :: c128 :: c129 :: c130 :: c131 :: c132 :: c133 :: c134 :: c135 :: c136 :: c137 :: c138 :: c139 :: c140 :: c141 :: c142 :: c143 :: c144 :: c145 :: c146 :: c147 :: c148 :: c149 :: c150 :: c151 :: c152 :: c153 :: c154 :: c155 :: c156 :: c157 :: c158 :: c159 :: c160 :: c161 :: c162 :: c163 :: c164 :: c165 :: c166 :: []), []⟩ w := by
  have hml : maxLen = 9223372036854775807 := rfl
  have HQ := Lib.hid hQ
  have hsz : (Try.prog.info? 35).map (·.size) = some (doV c none 0).length := by kernel_rfl
  have hdo := fun w R hR => doC c none 0 w R hR
  have O := Lib.hid o
  have hrg := own_range oq (by omega)
  generalize doV c none 0 = V at *
  clear hQ o oq
  conv => arg 2; whnf
  go_wp2_with (refine wpList_load_mid rfl 35 _ rfl q 0 rfl V _ hrg Try.underlying35 rfl hsz ?_)
  refine hdo _ _ ?_
  clear hdo
  intro w5 g5
  have o5 := O.out.grow g5
  clear hrg O
  go_wp2_with (first | (refine wpList_bs1 rfl (.tmp 69) (doE c none 0) rfl rfl ?_; intro gL w8 g8 hge oL) | (at_builtin; refine wpList_app TSr rfl rfl (o5.grow g8) oL.sl (by omega) (by omega) ?_; intro lo2 lc2 w9 o9 _ k9 b9))
  have hz7 := (g5.trans g8).size
  have h1 : Own w9 38 10 lo2 (m + 1) lc2 ((lE ++ [doE c none 0]).flatMap exV) := by rw [List.flatMap_append]; exact o9
  exact HQ.out lo2 lc2 w9 h1 ((Keep.of_grow _ (g5.trans g8)).trans k9) (fun y hy => (b9 y hy).imp id (fun h => Nat.le_trans hz7 h))


set_option maxRecDepth 100000 in
set_option maxHeartbeats 4000000 in
theorem pk27 (m : Nat) (hm : m ≤ 1000) (lo : Option Addr) (lc : Nat) (lE : List Ex) {c0 c1 c2 c3 c4 c5 c6 c7 c8 c9 c10 c11 c13 c14 c15 c16 c17 c18 c19 c20 c21 c22 c23 c24 c25 c26 c27 c28 c29 c30 c31 c32 c33 c34 c35 c36 c37 c38 c39 c40 c41 c42 c43 c44 c45 c46 c47 c48 c49 c50 c51 c52 c53 c54 c55 c56 c57 c58 c59 c60 c61 c62 c63 c64 c65 c66 c67 c68 c69 c70 c71 c72 c73 c74 c75 c76 c77 c78 c79 c80 c81 c82 c83 c84 c85 c86 c87 c88 c89 c90 c91 c92 c93 c94 c95 c96 c97 c98 c99 c100 c101 c102 c103 c104 c105 c106 c107 c108 c109 c110 c111 c112 c113 c114 c115 c116 c117 c118 c119 c120 c121 c122 c123 c124 c125 c126 c127 c128 c129 c130 c131 c132 c133 c134 c135 c136 c137 c138 c139 c140 c141 c142 c143 c144 c145 c146 c147 c148 c149 c150 c151 c152 c153 c154 c155 c156 c157 c158 c159 c160 c161 c162 c163 c164 c165 c166 : Value} (w : World) (o : Own w 38 10 lo m lc (lE.flatMap exV)) {Q : Exit → Act → World → Prop}
    (hQ : ∀ (lo' : Option Addr) (lc' : Nat) (w' : World), Own w' 38 10 lo' (m + 1) lc' ((lE ++ [doE pkU none 0]).flatMap exV) → Keep (blk lo) w w' → (∀ y ∈ blk lo', y ∈ blk lo ∨ w.heap.size ≤ y) → ∀ {u117 u118 u119 u120 u121 : Value}, Q .normal ⟨List.toArray (c0 :: c1 :: c2 :: c3 :: c4 :: c5 :: c6 :: c7 :: c8 :: c9 :: c10 :: c11 :: .slice lo' (m + 1 : Nat) lc' :: c13 :: c14 :: c15 :: c16 :: c17 :: c18 :: c19 :: c20 :: c21 :: c22 :: c23 :: c24 :: c25 :: c26 :: c27 :: c28 :: c29 :: c30 :: c31 :: c32 :: c33 :: c34 :: c35 :: c36 :: c37 :: c38 :: c39 :: c40 :: c41 :: c42 :: c43 :: c44 :: c45 :: c46 :: c47 :: c48 :: c49 :: c50 :: c51 :: c52 :: c53 :: c54 :: c55 :: c56 :: c57 :: c58 :: c59 :: c60 :: c61 :: c62 :: c63 :: c64 :: c65 :: c66 :: c67 :: c68 :: c69 :: c70 :: c71 :: c72 :: c73 :: c74 :: c75 :: c76 :: c77 :: c78 :: c79 :: c80 :: c81 :: c82 :: c83 :: c84 :: c85 :: c86 :: c87 :: c88 :: c89 :: c90 :: c91 :: c92 :: c93 :: c94 :: c95 :: c96 :: c97 :: c98 :: c99 :: c100 :: c101 :: c102 :: c103 :: c104 :: c105 :: c106 :: c107 :: c108 :: c109 :: c110 :: c111 :: c112 :: c113 :: c114 :: c115 :: c116 :: u117 :: u118 :: u119 :: u120 :: u121 :: c122 :: c123 :: c124 :: c125 :: c126 :: c127 :: c128 :: c129 :: c130 :: c131 :: c132 :: c133 :: c134 :: c135 :: c136 :: c137 :: c138 :: c139 :: c140 :: c141 :: c142 :: c143 :: c144 :: c145 :: c146 :: c147 :: c148 :: c149 :: c150 :: c151 :: c152 :: c153 :: c154 :: c155 :: c156 :: c157 :: c158 :: c159 :: c160 :: c161 :: c162 :: c163 :: c164 :: c165 :: c166 :: []), []⟩ w') :
    Code.wp Try.prog (regionAt Try.f4 27) Q ⟨List.toArray (c0 :: c1 :: c2 :: c3 :: c4 :: c5 :: c6 :: c7 :: c8 :: c9 :: c10 :: c11 :: .slice lo m lc :: c13 :: c14 :: c15 :: c16 :: c17 :: c18 :: c19 :: c20 :: c21 :: c22 :: c23 :: c24 :: c25 :: c26 :: c27 :: c28 :: c29 :: c30 :: c31 :: c32 :: c33 :: c34 :: c35 :: c36 :: c37 :: c38 :: c39 :: c40 :: c41 :: c42 :: c43 :: c44 :: c45 :: c46 :: c47 :: c48 :: c49 :: c50 :: c51 :: c52 :: c53 :: c54 :: c55 :: c56 :: c57 :: c58 :: c59 :: c60 :: c61 :: c62 :: c63 :: c64 :: c65 :: c66 :: c67 :: c68 :: c69 :: c70 :: c71 :: c72 :: c73 :: c74 :: c75 :: c76 :: c77 :: c78 :: c79 :: c80 :: c81 :: c82 :: c83 :: c84 :: c85 :: c86 :: c87 :: c88 :: c89 :: c90 :: c91 :: c92 :: c93 :: c94 :: c95 :: c96 :: c97 :: c98 :: c99 :: c100 :: c101 :: c102 :: c103 :: c104 :: c105 :: c106 :: c107 :: c108 :: c109 :: c110 :: c111 :: c112 :: c113 :: c114 :: c115 :: c116 :: c117 :: c118 :: c119 :: c120 :: c121 :: c122 :: c123 :: c124 :: c125 :: c126 :: c127 :: c128 :: c129 :: c130 :: c131 :: c132 :: c133 :: c134 :: c135 :: c136 :: c137 :: c138 :: c139 :: c140 :: c141 :: c142 :: c143 :: c144 :: c145 :: c146 :: c147 :: c148 :: c149 :: c150 :: c151 :: c152 :: c153 :: c154 :: c155 :: c156 :: c157 :: c158 :: c159 :: c160 :: c161 :: c162 :: c163 :: c164 :: c165 :: c166 :: []), []⟩ w := by
  have hml : maxLen = 9223372036854775807 := rfl
  have HQ := Lib.hid hQ
  have O := Lib.hid o
  clear hQ o
  conv => arg 2; whnf
  go_wp2_with fail
  refine doC pkU none 0 _ _ ?_
  intro w5 g5
  have o5 := O.out.grow g5
  clear O
  go_wp2_with (first | (refine wpList_bs1 rfl (.tmp 119) (doE pkU none 0) rfl rfl ?_; intro gL w8 g8 hge oL) | (at_builtin; refine wpList_app TSr rfl rfl (o5.grow g8) oL.sl (by omega) (by omega) ?_; intro lo2 lc2 w9 o9 _ k9 b9))
  have hz7 := (g5.trans g8).size
  have h1 : Own w9 38 10 lo2 (m + 1) lc2 ((lE ++ [doE pkU none 0]).flatMap exV) := by rw [List.flatMap_append]; exact o9
  exact HQ.out lo2 lc2 w9 h1 ((Keep.of_grow _ (g5.trans g8)).trans k9) (fun y hy => (b9 y hy).imp id (fun h => Nat.le_trans hz7 h))
end Go.Proofs.Ytgchbcopbkoomaa
