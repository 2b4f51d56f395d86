/- ProjKinds: the walk. -/
import Derived.Test.YtgchbcopbkoomaaPm25
namespace Go.Proofs.Ytgchbcopbkoomaa
open Go Go.RowKit


set_option maxRecDepth 100000 in
set_option maxHeartbeats 4000000 in
theorem pk7 (sz k : Nat) (hsz : sz ≤ 10) (hk : k ≤ 1000) {c0 c1 c2 c3 c5 c6 c7 c8 c9 c10 c12 c13 c14 c15 c16 c17 c18 c19 c20 c21 c22 c23 c24 c25 c26 c27 c28 c29 c30 c31 c32 c33 c34 c35 c36 c37 c38 c39 c40 c41 c42 c43 c44 c45 c46 c47 c48 c49 c50 c51 c52 c53 c54 c55 c56 c57 c58 c59 c60 c61 c62 c63 c64 c65 c66 c67 c68 c69 c70 c71 c72 c73 c74 c75 c76 c77 c78 c79 c80 c81 c82 c83 c84 c85 c86 c87 c88 c89 c90 c91 c92 c93 c94 c95 c96 c97 c98 c99 c100 c101 c102 c103 c104 c105 c106 c107 c108 c109 c110 c111 c112 c113 c114 c115 c116 c117 c118 c119 c120 c121 c122 c123 c124 c125 c126 c127 c128 c129 c130 c131 c132 c133 c134 c135 c136 c137 c138 c139 c140 c141 c142 c143 c144 c145 c146 c147 c148 c149 c150 c151 c152 c153 c154 c155 c156 c157 c158 c159 c160 c161 c162 c163 c164 c165 c166 : Value} (w : World) {Q : Exit → Act → World → Prop}
    (hQ : ∀ {u48 u49 u50 u51 u52 u53 u54 u55 : Value}, Q .normal ⟨List.toArray (c0 :: c1 :: c2 :: c3 :: .int .i64 (sz : Int) :: c5 :: c6 :: c7 :: c8 :: c9 :: c10 :: .int .i64 (k : Int) :: c12 :: c13 :: c14 :: .bool (inB k sz) :: c16 :: c17 :: c18 :: c19 :: c20 :: c21 :: c22 :: c23 :: c24 :: c25 :: c26 :: c27 :: c28 :: c29 :: c30 :: c31 :: c32 :: c33 :: c34 :: c35 :: c36 :: c37 :: c38 :: c39 :: c40 :: c41 :: c42 :: c43 :: c44 :: c45 :: c46 :: c47 :: u48 :: u49 :: u50 :: u51 :: u52 :: u53 :: u54 :: u55 :: c56 :: c57 :: c58 :: c59 :: c60 :: c61 :: c62 :: c63 :: c64 :: c65 :: c66 :: c67 :: c68 :: c69 :: c70 :: c71 :: c72 :: c73 :: c74 :: c75 :: c76 :: c77 :: c78 :: c79 :: c80 :: c81 :: c82 :: c83 :: c84 :: c85 :: c86 :: c87 :: c88 :: c89 :: c90 :: c91 :: c92 :: c93 :: c94 :: c95 :: c96 :: c97 :: c98 :: c99 :: c100 :: c101 :: c102 :: c103 :: c104 :: c105 :: c106 :: c107 :: c108 :: c109 :: c110 :: c111 :: c112 :: c113 :: c114 :: c115 :: c116 :: c117 :: c118 :: c119 :: c120 :: c121 :: c122 :: c123 :: c124 :: c125 :: c126 :: c127 :: c128 :: c129 :: c130 :: c131 :: c132 :: c133 :: c134 :: c135 :: c136 :: c137 :: c138 :: c139 :: c140 :: c141 :: c142 :: c143 :: c144 :: c145 :: c146 :: c147 :: c148 :: c149 :: c150 :: c151 :: c152 :: c153 :: c154 :: c155 :: c156 :: c157 :: c158 :: c159 :: c160 :: c161 :: c162 :: c163 :: c164 :: c165 :: c166 :: []), []⟩ w) :
    Code.wp Try.prog (regionAt Try.f4 7) Q ⟨List.toArray (c0 :: c1 :: c2 :: c3 :: .int .i64 (sz : Int) :: c5 :: c6 :: c7 :: c8 :: c9 :: c10 :: .int .i64 (k : Int) :: c12 :: c13 :: c14 :: c15 :: c16 :: c17 :: c18 :: c19 :: c20 :: c21 :: c22 :: c23 :: c24 :: c25 :: c26 :: c27 :: c28 :: c29 :: c30 :: c31 :: c32 :: c33 :: c34 :: c35 :: c36 :: c37 :: c38 :: c39 :: c40 :: c41 :: c42 :: c43 :: c44 :: c45 :: c46 :: c47 :: c48 :: c49 :: c50 :: c51 :: c52 :: c53 :: c54 :: c55 :: c56 :: c57 :: c58 :: c59 :: c60 :: c61 :: c62 :: c63 :: c64 :: c65 :: c66 :: c67 :: c68 :: c69 :: c70 :: c71 :: c72 :: c73 :: c74 :: c75 :: c76 :: c77 :: c78 :: c79 :: c80 :: c81 :: c82 :: c83 :: c84 :: c85 :: c86 :: c87 :: c88 :: c89 :: c90 :: c91 :: c92 :: c93 :: c94 :: c95 :: c96 :: c97 :: c98 :: c99 :: c100 :: c101 :: c102 :: c103 :: c104 :: c105 :: c106 :: c107 :: c108 :: c109 :: c110 :: c111 :: c112 :: c113 :: c114 :: c115 :: c116 :: c117 :: c118 :: c119 :: c120 :: c121 :: c122 :: c123 :: c124 :: c125 :: c126 :: c127 :: c128 :: c129 :: c130 :: c131 :: c132 :: c133 :: c134 :: c135 :: c136 :: c137 :: c138 :: c139 :: c140 :: c141 :: c142 :: c143 :: c144 :: c145 :: c146 :: c147 :: c148 :: c149 :: c150 :: c151 :: c152 :: c153 :: c154 :: c155 :: c156 :: c157 :: c158 :: c159 :: c160 :: c161 :: c162 :: c163 :: c164 :: c165 :: c166 :: []), []⟩ w := by
  have hml : maxLen = 9223372036854775807 := rfl
  conv => arg 2; whnf
  cases hd : decide ((k : Int) < 90) with
  | false =>
    have hi : inB k sz = false := by have := of_decide_eq_false hd; simp [inB]; omega
    rw [hi] at hQ
    clear hi
    go_wp2_with fail
    exact hQ
  | true =>
    have hi : inB k sz = decide ((40 : Int) < (k : Int) + (sz : Int)) := by
      have := of_decide_eq_true hd
      rw [inB, Bool.eq_iff_iff]; simp only [Bool.and_eq_true, decide_eq_true_eq]; omega
    rw [hi] at hQ
    clear hi
    go_wp2_with fail
    exact hQ


set_option maxRecDepth 100000 in
set_option maxHeartbeats 4000000 in
theorem pk17 (m : Nat) (hm : m ≤ 1000) (wo : Option Addr) (wc : Nat) (W : List Int) {c0 c1 c2 c3 c4 c5 c6 c7 c8 c9 c10 c11 c12 c14 c15 c16 c17 c18 c19 c20 c21 c22 c23 c24 c25 c26 c27 c28 c29 c30 c31 c32 c33 c34 c35 c36 c37 c38 c39 c40 c41 c42 c43 c44 c45 c46 c47 c48 c49 c50 c51 c52 c53 c54 c55 c56 c57 c58 c59 c60 c61 c62 c63 c64 c65 c66 c67 c68 c69 c70 c71 c72 c73 c74 c75 c76 c77 c78 c79 c80 c81 c82 c83 c84 c85 c86 c87 c88 c89 c90 c91 c92 c93 c94 c95 c96 c97 c98 c99 c100 c101 c102 c103 c104 c105 c106 c107 c108 c109 c110 c111 c112 c113 c114 c115 c116 c117 c118 c119 c120 c121 c122 c123 c124 c125 c126 c127 c128 c129 c130 c131 c132 c133 c134 c135 c136 c137 c138 c139 c140 c141 c142 c143 c144 c145 c146 c147 c148 c149 c150 c151 c152 c153 c154 c155 c156 c157 c158 c159 c160 c161 c162 c163 c164 c165 c166 : Value} (w : World) (o : Own w 3 1 wo m wc (W.map (.int .i64))) {Q : Exit → Act → World → Prop}
    (hQ : ∀ (wo' : Option Addr) (wc' : Nat) (w' : World), Own w' 3 1 wo' (m + 1) wc' ((W ++ [3]).map (.int .i64)) → Keep (blk wo) w w' → (∀ y ∈ blk wo', y ∈ blk wo ∨ w.heap.size ≤ y) → ∀ {u77 u78 u79 : Value}, Q .normal ⟨List.toArray (c0 :: c1 :: c2 :: c3 :: c4 :: c5 :: c6 :: c7 :: c8 :: c9 :: c10 :: c11 :: c12 :: .slice wo' (m + 1 : Nat) wc' :: c14 :: c15 :: c16 :: c17 :: c18 :: c19 :: c20 :: c21 :: c22 :: c23 :: c24 :: c25 :: c26 :: c27 :: c28 :: c29 :: c30 :: c31 :: c32 :: c33 :: c34 :: c35 :: c36 :: c37 :: c38 :: c39 :: c40 :: c41 :: c42 :: c43 :: c44 :: c45 :: c46 :: c47 :: c48 :: c49 :: c50 :: c51 :: c52 :: c53 :: c54 :: c55 :: c56 :: c57 :: c58 :: c59 :: c60 :: c61 :: c62 :: c63 :: c64 :: c65 :: c66 :: c67 :: c68 :: c69 :: c70 :: c71 :: c72 :: c73 :: c74 :: c75 :: c76 :: u77 :: u78 :: u79 :: c80 :: c81 :: c82 :: c83 :: c84 :: c85 :: c86 :: c87 :: c88 :: c89 :: c90 :: c91 :: c92 :: c93 :: c94 :: c95 :: c96 :: c97 :: c98 :: c99 :: c100 :: c101 :: c102 :: c103 :: c104 :: c105 :: c106 :: c107 :: c108 :: c109 :: c110 :: c111 :: c112 :: c113 :: c114 :: c115 :: c116 :: c117 :: c118 :: c119 :: c120 :: c121 :: c122 :: c123 :: c124 :: c125 :: c126 :: c127 :: c128 :: c129 :: c130 :: c131 :: c132 :: c133 :: c134 :: c135 :: c136 :: c137 :: c138 :: c139 :: c140 :: c141 :: c142 :: c143 :: c144 :: c145 :: c146 :: c147 :: c148 :: c149 :: c150 :: c151 :: c152 :: c153 :: c154 :: c155 :: c156 :: c157 :: c158 :: c159 :: c160 :: c161 :: c162 :: c163 :: c164 :: c165 :: c166 :: []), []⟩ w') :
    Code.wp Try.prog (regionAt Try.f4 17) Q ⟨List.toArray (c0 :: c1 :: c2 :: c3 :: c4 :: c5 :: c6 :: c7 :: c8 :: c9 :: c10 :: c11 :: c12 :: .slice wo m wc :: c14 :: c15 :: c16 :: c17 :: c18 :: c19 :: c20 :: c21 :: c22 :: c23 :: c24 :: c25 :: c26 :: c27 :: c28 :: c29 :: c30 :: c31 :: c32 :: c33 :: c34 :: c35 :: c36 :: c37 :: c38 :: c39 :: c40 :: c41 :: c42 :: c43 :: c44 :: c45 :: c46 :: c47 :: c48 :: c49 :: c50 :: c51 :: c52 :: c53 :: c54 :: c55 :: c56 :: c57 :: c58 :: c59 :: c60 :: c61 :: c62 :: c63 :: c64 :: c65 :: c66 :: c67 :: c68 :: c69 :: c70 :: c71 :: c72 :: c73 :: c74 :: c75 :: c76 :: c77 :: c78 :: c79 :: c80 :: c81 :: c82 :: c83 :: c84 :: c85 :: c86 :: c87 :: c88 :: c89 :: c90 :: c91 :: c92 :: c93 :: c94 :: c95 :: c96 :: c97 :: c98 :: c99 :: c100 :: c101 :: c102 :: c103 :: c104 :: c105 :: c106 :: c107 :: c108 :: c109 :: c110 :: c111 :: c112 :: c113 :: c114 :: c115 :: c116 :: c117 :: c118 :: c119 :: c120 :: c121 :: c122 :: c123 :: c124 :: c125 :: c126 :: c127 :: c128 :: c129 :: c130 :: c131 :: c132 :: c133 :: c134 :: c135 :: c136 :: c137 :: c138 :: c139 :: c140 :: c141 :: c142 :: c143 :: c144 :: c145 :: c146 :: c147 :: c148 :: c149 :: c150 :: c151 :: c152 :: c153 :: c154 :: c155 :: c156 :: c157 :: c158 :: c159 :: c160 :: c161 :: c162 :: c163 :: c164 :: c165 :: c166 :: []), []⟩ w := by
  have hml : maxLen = 9223372036854775807 := rfl
  have HQ := Lib.hid hQ
  have ga := Grow.alloc w (.cells #[.int .i64 3] 3)
  have sE : Sl (w.alloc (.cells #[.int .i64 3] 3)) 1 (some ⟨w.heap.size, 0, none⟩) 1 1 [.int .i64 3] := (Own.made (n := 1) (sz := 1) (heap_alloc_new w (.cells #[.int .i64 3] 3)) rfl (by decide) (by simp [Value.oneCell'])).sl
  have oA := o.grow ga
  clear hQ o
  conv => arg 2; whnf
  go_wp2_with (at_builtin; refine wpList_app TIn rfl rfl oA sE (by omega) (by omega) ?_; intro lo2 lc2 w9 o9 _ k9 b9)
  have h1 : Own w9 3 1 lo2 (m + 1) lc2 ((W ++ [3]).map (.int .i64)) := by rw [List.map_append]; exact o9
  exact HQ.out lo2 lc2 w9 h1 ((Keep.of_grow _ ga).trans k9) (fun y hy => (b9 y hy).imp id (fun h => Nat.le_trans ga.size h))


set_option maxRecDepth 100000 in
set_option maxHeartbeats 4000000 in
theorem pk18 (m : Nat) (hm : m ≤ 1000) (wo : Option Addr) (wc : Nat) (x : Int) (W : List Int) {c0 c1 c2 c3 c4 c5 c6 c7 c8 c9 c10 c11 c12 c14 c15 c17 c18 c19 c20 c21 c22 c23 c24 c25 c26 c27 c28 c29 c30 c31 c32 c33 c34 c35 c36 c37 c38 c39 c40 c41 c42 c43 c44 c45 c46 c47 c48 c49 c50 c51 c52 c53 c54 c55 c56 c57 c58 c59 c60 c61 c62 c63 c64 c65 c66 c67 c68 c69 c70 c71 c72 c73 c74 c75 c76 c77 c78 c79 c80 c81 c82 c83 c84 c85 c86 c87 c88 c89 c90 c91 c92 c93 c94 c95 c96 c97 c98 c99 c100 c101 c102 c103 c104 c105 c106 c107 c108 c109 c110 c111 c112 c113 c114 c115 c116 c117 c118 c119 c120 c121 c122 c123 c124 c125 c126 c127 c128 c129 c130 c131 c132 c133 c134 c135 c136 c137 c138 c139 c140 c141 c142 c143 c144 c145 c146 c147 c148 c149 c150 c151 c152 c153 c154 c155 c156 c157 c158 c159 c160 c161 c162 c163 c164 c165 c166 : Value} (w : World) (o : Own w 3 1 wo m wc (W.map (.int .i64))) {Q : Exit → Act → World → Prop}
    (hQ : ∀ (wo' : Option Addr) (wc' : Nat) (w' : World), Own w' 3 1 wo' (m + 1) wc' ((W ++ [x]).map (.int .i64)) → Keep (blk wo) w w' → (∀ y ∈ blk wo', y ∈ blk wo ∨ w.heap.size ≤ y) → ∀ {u80 u81 u82 u83 : Value}, Q .normal ⟨List.toArray (c0 :: c1 :: c2 :: c3 :: c4 :: c5 :: c6 :: c7 :: c8 :: c9 :: c10 :: c11 :: c12 :: .slice wo' (m + 1 : Nat) wc' :: c14 :: c15 :: .int .i64 x :: c17 :: c18 :: c19 :: c20 :: c21 :: c22 :: c23 :: c24 :: c25 :: c26 :: c27 :: c28 :: c29 :: c30 :: c31 :: c32 :: c33 :: c34 :: c35 :: c36 :: c37 :: c38 :: c39 :: c40 :: c41 :: c42 :: c43 :: c44 :: c45 :: c46 :: c47 :: c48 :: c49 :: c50 :: c51 :: c52 :: c53 :: c54 :: c55 :: c56 :: c57 :: c58 :: c59 :: c60 :: c61 :: c62 :: c63 :: c64 :: c65 :: c66 :: c67 :: c68 :: c69 :: c70 :: c71 :: c72 :: c73 :: c74 :: c75 :: c76 :: c77 :: c78 :: c79 :: u80 :: u81 :: u82 :: u83 :: c84 :: c85 :: c86 :: c87 :: c88 :: c89 :: c90 :: c91 :: c92 :: c93 :: c94 :: c95 :: c96 :: c97 :: c98 :: c99 :: c100 :: c101 :: c102 :: c103 :: c104 :: c105 :: c106 :: c107 :: c108 :: c109 :: c110 :: c111 :: c112 :: c113 :: c114 :: c115 :: c116 :: c117 :: c118 :: c119 :: c120 :: c121 :: c122 :: c123 :: c124 :: c125 :: c126 :: c127 :: c128 :: c129 :: c130 :: c131 :: c132 :: c133 :: c134 :: c135 :: c136 :: c137 :: c138 :: c139 :: c140 :: c141 :: c142 :: c143 :: c144 :: c145 :: c146 :: c147 :: c148 :: c149 :: c150 :: c151 :: c152 :: c153 :: c154 :: c155 :: c156 :: c157 :: c158 :: c159 :: c160 :: c161 :: c162 :: c163 :: c164 :: c165 :: c166 :: []), []⟩ w') :
    Code.wp Try.prog (regionAt Try.f4 18) Q ⟨List.toArray (c0 :: c1 :: c2 :: c3 :: c4 :: c5 :: c6 :: c7 :: c8 :: c9 :: c10 :: c11 :: c12 :: .slice wo m wc :: c14 :: c15 :: .int .i64 x :: c17 :: c18 :: c19 :: c20 :: c21 :: c22 :: c23 :: c24 :: c25 :: c26 :: c27 :: c28 :: c29 :: c30 :: c31 :: c32 :: c33 :: c34 :: c35 :: c36 :: c37 :: c38 :: c39 :: c40 :: c41 :: c42 :: c43 :: c44 :: c45 :: c46 :: c47 :: c48 :: c49 :: c50 :: c51 :: c52 :: c53 :: c54 :: c55 :: c56 :: c57 :: c58 :: c59 :: c60 :: c61 :: c62 :: c63 :: c64 :: c65 :: c66 :: c67 :: c68 :: c69 :: c70 :: c71 :: c72 :: c73 :: c74 :: c75 :: c76 :: c77 :: c78 :: c79 :: c80 :: c81 :: c82 :: c83 :: c84 :: c85 :: c86 :: c87 :: c88 :: c89 :: c90 :: c91 :: c92 :: c93 :: c94 :: c95 :: c96 :: c97 :: c98 :: c99 :: c100 :: c101 :: c102 :: c103 :: c104 :: c105 :: c106 :: c107 :: c108 :: c109 :: c110 :: c111 :: c112 :: c113 :: c114 :: c115 :: c116 :: c117 :: c118 :: c119 :: c120 :: c121 :: c122 :: c123 :: c124 :: c125 :: c126 :: c127 :: c128 :: c129 :: c130 :: c131 :: c132 :: c133 :: c134 :: c135 :: c136 :: c137 :: c138 :: c139 :: c140 :: c141 :: c142 :: c143 :: c144 :: c145 :: c146 :: c147 :: c148 :: c149 :: c150 :: c151 :: c152 :: c153 :: c154 :: c155 :: c156 :: c157 :: c158 :: c159 :: c160 :: c161 :: c162 :: c163 :: c164 :: c165 :: c166 :: []), []⟩ w := by
  have hml : maxLen = 9223372036854775807 := rfl
  have HQ := Lib.hid hQ
  have ga := Grow.alloc w (.cells #[.int .i64 x] 3)
  have sE : Sl (w.alloc (.cells #[.int .i64 x] 3)) 1 (some ⟨w.heap.size, 0, none⟩) 1 1 [.int .i64 x] := (Own.made (n := 1) (sz := 1) (heap_alloc_new w (.cells #[.int .i64 x] 3)) rfl (by decide) (by simp [Value.oneCell'])).sl
  have oA := o.grow ga
  clear hQ o
  conv => arg 2; whnf
  go_wp2_with (at_builtin; refine wpList_app TIn rfl rfl oA sE (by omega) (by omega) ?_; intro lo2 lc2 w9 o9 _ k9 b9)
  have h1 : Own w9 3 1 lo2 (m + 1) lc2 ((W ++ [x]).map (.int .i64)) := by rw [List.map_append]; exact o9
  exact HQ.out lo2 lc2 w9 h1 ((Keep.of_grow _ ga).trans k9) (fun y hy => (b9 y hy).imp id (fun h => Nat.le_trans ga.size h))


set_option maxRecDepth 100000 in
set_option maxHeartbeats 4000000 in
theorem pk28 (m : Nat) (hm : m ≤ 1000) (wo : Option Addr) (wc : Nat) (x : Int) (W : List Int) {c0 c1 c2 c3 c4 c5 c6 c7 c8 c9 c10 c11 c12 c14 c15 c17 c18 c19 c20 c21 c22 c23 c24 c25 c26 c27 c28 c29 c30 c31 c32 c33 c34 c35 c36 c37 c38 c39 c40 c41 c42 c43 c44 c45 c46 c47 c48 c49 c50 c51 c52 c53 c54 c55 c56 c57 c58 c59 c60 c61 c62 c63 c64 c65 c66 c67 c68 c69 c70 c71 c72 c73 c74 c75 c76 c77 c78 c79 c80 c81 c82 c83 c84 c85 c86 c87 c88 c89 c90 c91 c92 c93 c94 c95 c96 c97 c98 c99 c100 c101 c102 c103 c104 c105 c106 c107 c108 c109 c110 c111 c112 c113 c114 c115 c116 c117 c118 c119 c120 c121 c122 c123 c124 c125 c126 c127 c128 c129 c130 c131 c132 c133 c134 c135 c136 c137 c138 c139 c140 c141 c142 c143 c144 c145 c146 c147 c148 c149 c150 c151 c152 c153 c154 c155 c156 c157 c158 c159 c160 c161 c162 c163 c164 c165 c166 : Value} (w : World) (o : Own w 3 1 wo m wc (W.map (.int .i64))) {Q : Exit → Act → World → Prop}
    (hQ : ∀ (wo' : Option Addr) (wc' : Nat) (w' : World), Own w' 3 1 wo' (m + 1) wc' ((W ++ [x]).map (.int .i64)) → Keep (blk wo) w w' → (∀ y ∈ blk wo', y ∈ blk wo ∨ w.heap.size ≤ y) → ∀ {u122 u123 u124 u125 : Value}, Q .normal ⟨List.toArray (c0 :: c1 :: c2 :: c3 :: c4 :: c5 :: c6 :: c7 :: c8 :: c9 :: c10 :: c11 :: c12 :: .slice wo' (m + 1 : Nat) wc' :: c14 :: c15 :: .int .i64 x :: c17 :: c18 :: c19 :: c20 :: c21 :: c22 :: c23 :: c24 :: c25 :: c26 :: c27 :: c28 :: c29 :: c30 :: c31 :: c32 :: c33 :: c34 :: c35 :: c36 :: c37 :: c38 :: c39 :: c40 :: c41 :: c42 :: c43 :: c44 :: c45 :: c46 :: c47 :: c48 :: c49 :: c50 :: c51 :: c52 :: c53 :: c54 :: c55 :: c56 :: c57 :: c58 :: c59 :: c60 :: c61 :: c62 :: c63 :: c64 :: c65 :: c66 :: c67 :: c68 :: c69 :: c70 :: c71 :: c72 :: c73 :: c74 :: c75 :: c76 :: c77 :: c78 :: c79 :: c80 :: c81 :: c82 :: c83 :: c84 :: c85 :: c86 :: c87 :: c88 :: c89 :: c90 :: c91 :: c92 :: c93 :: c94 :: c95 :: c96 :: c97 :: c98 :: c99 :: c100 :: c101 :: c102 :: c103 :: c104 :: c105 :: c106 :: c107 :: c108 :: c109 :: c110 :: c111 :: c112 :: c113 :: c114 :: c115 :: c116 :: c117 :: c118 :: c119 :: c120 :: c121 :: u122 :: u123 :: u124 :: u125 :: c126 :: c127 :: c128 :: c129 :: c130 :: c131 :: c132 :: c133 :: c134 :: c135 :: c136 :: c137 :: c138 :: c139 :: c140 :: c141 :: c142 :: c143 :: c144 :: c145 :: c146 :: c147 :: c148 :: c149 :: c150 :: c151 :: c152 :: c153 :: c154 :: c155 :: c156 :: c157 :: c158 :: c159 :: c160 :: c161 :: c162 :: c163 :: c164 :: c165 :: c166 :: []), []⟩ w') :
    Code.wp Try.prog (regionAt Try.f4 28) Q ⟨List.toArray (c0 :: c1 :: c2 :: c3 :: c4 :: c5 :: c6 :: c7 :: c8 :: c9 :: c10 :: c11 :: c12 :: .slice wo m wc :: c14 :: c15 :: .int .i64 x :: c17 :: c18 :: c19 :: c20 :: c21 :: c22 :: c23 :: c24 :: c25 :: c26 :: c27 :: c28 :: c29 :: c30 :: c31 :: c32 :: c33 :: c34 :: c35 :: c36 :: c37 :: c38 :: c39 :: c40 :: c41 :: c42 :: c43 :: c44 :: c45 :: c46 :: c47 :: c48 :: c49 :: c50 :: c51 :: c52 :: c53 :: c54 :: c55 :: c56 :: c57 :: c58 :: c59 :: c60 :: c61 :: c62 :: c63 :: c64 :: c65 :: c66 :: c67 :: c68 :: c69 :: c70 :: c71 :: c72 :: c73 :: c74 :: c75 :: c76 :: c77 :: c78 :: c79 :: c80 :: c81 :: c82 :: c83 :: c84 :: c85 :: c86 :: c87 :: c88 :: c89 :: c90 :: c91 :: c92 :: c93 :: c94 :: c95 :: c96 :: c97 :: c98 :: c99 :: c100 :: c101 :: c102 :: c103 :: c104 :: c105 :: c106 :: c107 :: c108 :: c109 :: c110 :: c111 :: c112 :: c113 :: c114 :: c115 :: c116 :: c117 :: c118 :: c119 :: c120 :: c121 :: c122 :: c123 :: c124 :: c125 :: c126 :: c127 :: c128 :: c129 :: c130 :: c131 :: c132 :: c133 :: c134 :: c135 :: c136 :: c137 :: c138 :: c139 :: c140 :: c141 :: c142 :: c143 :: c144 :: c145 :: c146 :: c147 :: c148 :: c149 :: c150 :: c151 :: c152 :: c153 :: c154 :: c155 :: c156 :: c157 :: c158 :: c159 :: c160 :: c161 :: c162 :: c163 :: c164 :: c165 :: c166 :: []), []⟩ w := by
  have hml : maxLen = 9223372036854775807 := rfl
  have HQ := Lib.hid hQ
  have ga := Grow.alloc w (.cells #[.int .i64 x] 3)
  have sE : Sl (w.alloc (.cells #[.int .i64 x] 3)) 1 (some ⟨w.heap.size, 0, none⟩) 1 1 [.int .i64 x] := (Own.made (n := 1) (sz := 1) (heap_alloc_new w (.cells #[.int .i64 x] 3)) rfl (by decide) (by simp [Value.oneCell'])).sl
  have oA := o.grow ga
  clear hQ o
  conv => arg 2; whnf
  go_wp2_with (at_builtin; refine wpList_app TIn rfl rfl oA sE (by omega) (by omega) ?_; intro lo2 lc2 w9 o9 _ k9 b9)
  have h1 : Own w9 3 1 lo2 (m + 1) lc2 ((W ++ [x]).map (.int .i64)) := by rw [List.map_append]; exact o9
  exact HQ.out lo2 lc2 w9 h1 ((Keep.of_grow _ ga).trans k9) (fun y hy => (b9 y hy).imp id (fun h => Nat.le_trans ga.size h))

theorem rds_len (k sz n : Nat) : (rds k sz n).length = 3 * n := by
  induction n with
  | zero => rfl
  | succ n ih => rw [rds_succ, List.length_append, ih]; simp [rdS]; omega
theorem pk_want (hid safe : Bool) (k kk sz n : Nat) (kd : Int) (h1 : 1 ≤ sz) (h2 : sz ≤ 10) (hk : kk + sz ≤ if hid = true then 25 else 92) (he : hid = false → k = kk) (hkd : kd = if hid = true then 2 else 1) :
    (¬ (hid = false ∧ safe = false ∧ inB k sz = true ∧ 0 < n) → kindsT 200 (([dS aw0, dS pk1, dS (pkC hid safe)] ++ rds kk sz n) ++ [dS pkU]) = (([1, 2] ++ [pkS0 hid safe]) ++ kds (pkw hid safe (inB k sz) kd) kd n) ++ [kd]) ∧
    (hid = false → safe = false → inB k sz = true → 0 < n → kindsT 200 (([dS aw0, dS pk1, dS (pkC hid safe)] ++ rds kk sz n) ++ [dS pkU]) = List.replicate (3 + 3 * n + 1) 4) := by
  have e1 : ([dS aw0, dS pk1, dS (pkC hid safe)] ++ rds kk sz n) ++ [dS pkU] = dS aw0 :: dS pk1 :: dS (pkC hid safe) :: pkT kk sz n := rfl
  rw [e1]
  refine ⟨fun hno => ?_, fun a b c d => ?_⟩
  · have h := pk_all hid safe kk sz n h1 h2 hk (fun e => hno ⟨e.1, e.2.1, by rw [he e.1]; exact e.2.2.1, e.2.2.2⟩)
    have hw : (if hid = false ∧ safe = true ∧ inB kk sz = true then (2 : Int) else if hid = true then 2 else 1) = pkw hid safe (inB k sz) kd := by
      cases hid
      · obtain rfl := he rfl
        rw [hkd]
        cases safe <;> cases inB k sz <;> rfl
      · rw [hkd]; rfl
    rw [h, hw, ← hkd]
    simp [pkK, kds]
  · subst a b
    obtain rfl := he rfl
    exact pk_none k sz n h1 h2 (by simpa using hk) c d _ (by rw [← rds_len k sz n] ; simp [pkT, rds]; omega)
set_option maxRecDepth 100000 in
set_option maxHeartbeats 8000000 in
theorem pjKiW (a0 : Int) (hid safe : Bool) (a3 a4 : Int) (w : World) (_ : (Lit.int IntKind.i64 a0).wf = true) (_ : (Lit.int IntKind.i64 a3).wf = true) (_ : (Lit.int IntKind.i64 a4).wf = true) (R : Ending → World → Prop) (hR : ∀ w', Grow w w' → R (.returned (.bool true)) w') :
    Calls Try.prog 4 #[.int .i64 a0, .bool hid, .bool safe, .int .i64 a3, .int .i64 a4] w R := by
  have hml : maxLen = 9223372036854775807 := rfl
  have h7 := @pk7
  have hSw := @pkSw
  have h15 := @pk15
  have h17 := @pk17
  have h18 := @pk18
  have hLp := @pkLp
  have h27 := @pk27
  have h28 := @pk28
  go_enter Try.func4, Try.ntmps4
  cases hd1 : decide (a0 < 0) with
  | true =>
    go_wp2_with fail
    refine awake25C _ _ ?_
    intro w1 g1
    go_wp2_with fail
    exact g1
  | false =>
  cases hd2 : decide (15 < a0) with
  | true =>
    go_wp2_with fail
    refine awake25C _ _ ?_
    intro w1 g1
    go_wp2_with fail
    exact g1
  | false =>
  cases hd3 : decide (a4 < 1) with
  | true =>
    go_wp2_with fail
    refine awake25C _ _ ?_
    intro w1 g1
    go_wp2_with fail
    exact g1
  | false =>
  cases hd4 : decide (10 < a4) with
  | true =>
    go_wp2_with fail
    refine awake25C _ _ ?_
    intro w1 g1
    go_wp2_with fail
    exact g1
  | false =>
  have b1 := of_decide_eq_false hd1
  have b2 := of_decide_eq_false hd2
  have b3 := of_decide_eq_false hd3
  have b4 := of_decide_eq_false hd4
  obtain ⟨n, rfl⟩ : ∃ n : Nat, a0 = n := ⟨a0.toNat, by omega⟩
  obtain ⟨sz, rfl⟩ : ∃ n : Nat, a4 = n := ⟨a4.toNat, by omega⟩
  have hn : n ≤ 15 := by omega
  have hs1 : 1 ≤ sz := by omega
  have hs2 : sz ≤ 10 := by omega
  have hr := roundC a3 (93 - sz) (by omega) (by omega)
  have er : ((92 : Int) - sz + 1) = ((93 - sz : Nat) : Int) := by omega
  obtain ⟨N, hN⟩ : ∃ N, N = 93 - sz := ⟨_, rfl⟩
  have hk0 := rnd_lt a3 N (by omega)
  rw [← hN] at hr er
  have HN := Lib.hid hN
  have HR := Lib.hid hR
  clear hN b1 b2 b3 b4 hR
  go_wp2_with fail
  refine hr _ _ ?_
  clear hr er hd1 hd2 hd3 hd4
  obtain ⟨k, hk⟩ : ∃ k, k = rnd a3 N := ⟨_, rfl⟩
  rw [← hk] at hk0 ⊢
  have hk92 : k + sz ≤ 92 := by have := HN.out; omega
  clear hk0 hk
  go_wp2_with fail
  refine doC aw0 none 0 _ _ ?_
  intro w1 g1
  go_wp2_with fail
  refine doC pk1 none 0 _ _ ?_
  intro w2 g2
  have ix0 : ∀ v ∈ doV pkA none 0, v.oneCell' = true := doV_one _ _ _
  go_upto_region 6 with (refine wpList_bs2 rfl (.tmp 42) (.tmp 44) (doE aw0 none 0) (doE pk1 none 0) rfl rfl rfl ?_; intro gL w3 g3 hgL oL)
  have oW : Own (w3.alloc (.cells #[.int .i64 1, .int .i64 2] 3)) 3 1 (some ⟨w3.heap.size, 0, none⟩) 2 2 ([1, 2].map (.int .i64)) := Own.made (n := 2) (sz := 1) (heap_alloc_new w3 _) rfl (by decide) (by simp [Value.oneCell'])
  have oL4 := oL.grow (Grow.alloc w3 (.cells #[.int .i64 1, .int .i64 2] 3))
  have G4 := g1.trans (g2.trans (g3.trans (Grow.alloc w3 (.cells #[.int .i64 1, .int .i64 2] 3))))
  have hlt := oL.lt gL (by simp [blk])
  have hge0 : w.heap.size ≤ gL := by have := (g1.trans g2).size; omega
  have hge1 : w.heap.size ≤ w3.heap.size := (g1.trans (g2.trans g3)).size
  obtain ⟨gW, hgW⟩ : ∃ g, g = w3.heap.size := ⟨_, rfl⟩
  rw [← hgW] at oW hlt hge1 ⊢
  clear hgW oL g1 g2 g3 hgL
  generalize w3.alloc (.cells #[.int .i64 1, .int .i64 2] 3) = w4 at *
  have hszF : (Try.prog.info? 35).map (·.size) = some (doV pkA none 0).toArray.size := by kernel_rfl
  obtain ⟨o5, ga1, th1, al1⟩ := newvarZ (n := 6) (t := 35) w4 cmZ rfl cmZ_one (by omega) (F := doV pkA none 0) rfl ix0
  go_upto_region 7 with (refine wpList_store_mid rfl 35 _ _ rfl w4.heap.size 0 (doV pkA none 0).toArray rfl rfl th1 hszF al1 ?_)
  change Code.wp _ _ _ ⟨_, _⟩ ((w4.alloc (.cells cmZ.toArray 35)).setCells w4.heap.size 0 (doV pkA none 0))
  have hgL4 := oL4.lt
  have hgW4 := oW.lt
  have oL5 := oL4.grow ga1
  have oW5 := oW.grow ga1
  have G5 := G4.trans ga1
  generalize (w4.alloc (.cells cmZ.toArray 35)).setCells w4.heap.size 0 (doV pkA none 0) = w5 at *
  obtain ⟨q, hq⟩ : ∃ q, q = w4.heap.size := ⟨_, rfl⟩
  have hgq : w.heap.size ≤ q := by have := G4.size; omega
  rw [← hq] at o5 hgL4 hgW4 ⊢
  have hq1 : gL ≠ q := by have := hgL4 gL (by simp [blk]); omega
  have hq2 : gW ≠ q := by have := hgW4 gW (by simp [blk]); omega
  have ap5 : Apt w w5 (some ⟨gL, 0, none⟩) (some ⟨gW, 0, none⟩) := ⟨by simp [blk]; omega, by simp [blk]; omega, by simp [blk]; omega⟩
  clear hq th1 al1 ga1 hszF oL4 oW G4 hgL4 hgW4 hlt hge0 hge1 ix0
  refine h7 sz k hs2 (by omega) w5 ?_
  clear h7
  intros
  go_upto_block 0 with (fail)
  refine hSw hid safe a3 sz k q hs1 hs2 w5 o5 ?_
  clear hSw o5
  intro w6 o6 k6
  intros
  have G6 := G5.then k6 (fun y hy => by simp at hy; omega)
  have oL6 := oL5.keep k6 (fun y hy hm => by simp [blk] at hy hm; omega)
  have oW6 := oW5.keep k6 (fun y hy hm => by simp [blk] at hy hm; omega)
  have ap6 : Apt w w6 (some ⟨gL, 0, none⟩) (some ⟨gW, 0, none⟩) := ⟨ap5.a, ap5.b, ap5.d⟩
  have hkk : (if hid = true then rnd a3 (26 - sz) else k) + sz ≤ if hid = true then 25 else 92 := by
    cases hid
    · simpa using hk92
    · have := rnd_lt a3 (26 - sz) (by omega)
      simp; omega
  have hin : hid = false → k = (if hid = true then rnd a3 (26 - sz) else k) := fun e => by rw [e]; rfl
  obtain ⟨kk, hke⟩ : ∃ kk, kk = (if hid = true then rnd a3 (26 - sz) else k) := ⟨_, rfl⟩
  rw [← hke] at hkk hin
  obtain ⟨kd, hkd⟩ : ∃ kd : Int, kd = (if hid = true then 2 else 1) := ⟨_, rfl⟩
  rw [← hke, ← hkd]
  have Hkd := Lib.hid hkd
  have Hin := Lib.hid hin
  have Hkk := Lib.hid hkk
  clear hke hkd hin hkk k6 ap5 oL5 oW5 G5 hq1 hq2
  go_upto_region 15 with (fail)
  refine h15 q 2 (by omega) (some ⟨gL, 0, none⟩) 2 [doE aw0 none 0, doE pk1 none 0] (pkC hid safe) (by cases hid <;> cases safe <;> rfl) w6 oL6 o6 ?_
  clear h15 o6
  intro lo1 lc1 w7 oL7 k7 b7
  intros
  have ap7 := ap6.left (w' := w7) G6 oW6.lt b7
  have oW7 := oW6.keep k7 (fun y hy hm => ap6.d y hm hy)
  have G7 := G6.then k7 (fun y hy => ap6.a y hy)
  have hs7 : ([doE aw0 none 0, doE pk1 none 0] ++ [doE (pkC hid safe) none 0]).map (·.s) = [dS aw0, dS pk1, dS (pkC hid safe)] := rfl
  have hd7 : ∀ e ∈ [doE aw0 none 0, doE pk1 none 0] ++ [doE (pkC hid safe) none 0], e.s.cmd.data.length ≤ 1000 := fun e he => by
    simp only [List.cons_append, List.nil_append, List.mem_cons, List.not_mem_nil, or_false] at he
    rcases he with rfl | rfl | rfl
    · decide
    · decide
    · cases hid <;> cases safe <;> decide
  clear b7 ap6 oW6 G6 k7 oL6 hgq
  generalize [doE aw0 none 0, doE pk1 none 0] ++ [doE (pkC hid safe) none 0] = L7 at *
  have hw := pk_want hid safe k kk sz n kd hs1 hs2 Hkk.out Hin.out Hkd.out
  have HA := Lib.hid hw.1
  have HB := Lib.hid hw.2
  have Hs7 := Lib.hid hs7
  have Hd7 := Lib.hid hd7
  have OL7 := Lib.hid oL7
  have OW7 := Lib.hid oW7
  have AP7 := Lib.hid ap7
  clear hw hs7 hd7 oL7 oW7 ap7
  cases hid <;> cases safe
  · go_upto_region 18 with (fail)
    refine h18 2 (by omega) (some ⟨gW, 0, none⟩) 2 kd [1, 2] w7 OW7.out ?_
    intro wo8 wc8 w8 oW8 k8 b8
    intros
    have ap8 := AP7.out.right (w' := w8) G7 OL7.out.lt b8
    have oL8 := OL7.out.keep k8 (fun y hy hm => AP7.out.d y hy hm)
    have G8 := G7.then k8 (fun y hy => AP7.out.b y hy)
    clear k8 b8 OL7 OW7 AP7 G7 h17 h18
    go_upto_block 1 with (fail)
    refine hLp false false (inB k sz) sz kk n 3 hs2 hn (by omega) lo1 wo8 lc1 wc8 kd L7 ([1, 2] ++ [kd]) w w8 G8 oL8 oW8 ap8 ?_
    clear hLp oL8 oW8 ap8 G8
    intro lo9 wo9 lc9 wc9 L9 w9 hs9 hd9 oL9 oW9 ap9 G9
    intros
    go_upto_region 27 with (fail)
    refine h27 (3 + 3 * n) (by omega) lo9 lc9 L9 w9 oL9 ?_
    clear h27
    intro lo10 lc10 w10 oL10 k10 b10
    intros
    have ap10 := ap9.left (w' := w10) G9 oW9.lt b10
    have oW10 := oW9.keep k10 (fun y hy hm => ap9.d y hm hy)
    have G10 := G9.then k10 (fun y hy => ap9.a y hy)
    have hs10 : Hid ((L9 ++ [doE pkU none 0]).map (·.s) = ([dS aw0, dS pk1, dS (pkC false false)] ++ rds kk sz n) ++ [dS pkU]) := Lib.hid (by rw [List.map_append, hs9, Hs7.out]; rfl)
    have hd10 : Hid (∀ e ∈ L9 ++ [doE pkU none 0], e.s.cmd.data.length ≤ 1000000) := Lib.hid (fun e he => by
      rcases List.mem_append.1 he with h | h
      · rcases hd9 e h with h | h
        · exact Nat.le_trans (Hd7.out e h) (by decide)
        · exact Nat.le_trans h (by decide)
      · obtain rfl : e = doE pkU none 0 := by simpa using h
        decide)
    clear oL9 oW9 ap9 G9 k10 b10 hs9 hd9 Hs7 Hd7
    go_upto_region 28 with (fail)
    refine h28 (3 + 3 * n) (by omega) wo9 wc9 kd (([1, 2] ++ [kd]) ++ kds (pkw false false (inB k sz) kd) kd n) w10 oW10 ?_
    clear h28
    intro wo11 wc11 w11 oW11 k11 b11
    intros
    have oL11 := oL10.keep k11 (fun y hy hm => ap10.d y hy hm)
    have G11 := G10.then k11 (fun y hy => ap10.b y hy)
    clear oL10 oW10 ap10 G10 k11 b11
    have hlen : (L9 ++ [doE pkU none 0]).length = 3 + 3 * n + 1 := by
      have h := oL11.row.1
      rw [exs_len] at h
      omega
    generalize L9 ++ [doE pkU none 0] = L11 at *
    have hkC := fun ao c w s => kindsC 200 (by omega) (by omega) L11 ao (3 + 3 * n + 1) c hlen.symm (by omega) hd10.out w s
    have hmC := fun R hR => madeC L11 lo10 (3 + 3 * n + 1) lc10 hlen.symm (by omega) w11 oL11.sl R hR
    have OW11 := Lib.hid oW11
    rw [hs10.out] at hkC
    have Hmm := Lib.hid (show 3 + 3 * n + 1 ≤ 1000 by omega)
    clear oL11 hlen hs10 hd10 oW11
    go_upto_region 29 with (fail)
    generalize 3 + 3 * n + 1 = mm at *
    go_wp2_with fail
    refine hmC _ ?_
    clear hmC
    intro mo mc w12 oM g12 _
    go_wp2_with fail
    refine hkC mo mc w12 oM.sl _ ?_
    clear hkC oM
    intro ko kc w13 oK g13 _
    cases hi : inB k sz
    · have hA := HA.out (fun e => by rw [hi] at e; cases e.2.2.1)
      rw [show pkS0 false false = kd from by rw [Hkd.out]; rfl] at hA
      rw [hA] at oK
      clear HA HB hA
      go_wp2_with fail
      refine intsC _ mm (by have h := oK.row.1; rw [List.length_map, Nat.mul_one] at h; exact h.symm) (by have := Hmm.out; omega) _ _ _ _ _ oK.sl (OW11.out.grow (g12.trans g13)).sl _ ?_
      clear oK OW11
      intro w14 g14
      go_wp2_with fail
      refine awake25C _ _ ?_
      intro w15 g15
      have hf := HR.out _ (G11.trans (g12.trans (g13.trans (g14.trans g15))))
      clear HR G11 g12 g13 g14 g15
      go_wp2_with fail
      exact hf
    · cases hn0 : decide ((0 : Int) < (n : Int)) with
        | false =>
          obtain rfl : n = 0 := by have := of_decide_eq_false hn0; omega
          have hA := HA.out (fun e => by omega)
          rw [show pkS0 false false = kd from by rw [Hkd.out]; rfl] at hA
          rw [hA] at oK
          clear HA HB hA
          go_wp2_with fail
          refine intsC _ mm (by have h := oK.row.1; rw [List.length_map, Nat.mul_one] at h; exact h.symm) (by have := Hmm.out; omega) _ _ _ _ _ oK.sl (OW11.out.grow (g12.trans g13)).sl _ ?_
          clear oK OW11
          intro w14 g14
          go_wp2_with fail
          refine awake25C _ _ ?_
          intro w15 g15
          have hf := HR.out _ (G11.trans (g12.trans (g13.trans (g14.trans g15))))
          clear HR G11 g12 g13 g14 g15
          go_wp2_with fail
          exact hf
        | true =>
          have hn1 : 0 < n := by have := of_decide_eq_true hn0; omega
          rw [HB.out (by simp) (by simp) hi hn1, List.map_replicate] at oK
          clear HA HB OW11
          have hOd := @pkOdd
          go_upto_block 3 with (fail)
          refine hOd mm (by have := Hmm.out; omega) ko kc w13 oK.sl ?_
          clear hOd oK
          intros
          go_wp2_with fail
          refine awake25C _ _ ?_
          intro w15 g15
          have hf := HR.out _ (G11.trans (g12.trans (g13.trans g15)))
          clear HR G11 g12 g13 g15
          go_wp2_with fail
          exact hf
  · go_upto_region 17 with (fail)
    refine h17 2 (by omega) (some ⟨gW, 0, none⟩) 2 [1, 2] w7 OW7.out ?_
    intro wo8 wc8 w8 oW8 k8 b8
    intros
    have ap8 := AP7.out.right (w' := w8) G7 OL7.out.lt b8
    have oL8 := OL7.out.keep k8 (fun y hy hm => AP7.out.d y hy hm)
    have G8 := G7.then k8 (fun y hy => AP7.out.b y hy)
    clear k8 b8 OL7 OW7 AP7 G7 h17 h18
    go_upto_block 1 with (fail)
    refine hLp false true (inB k sz) sz kk n 3 hs2 hn (by omega) lo1 wo8 lc1 wc8 kd L7 ([1, 2] ++ [3]) w w8 G8 oL8 oW8 ap8 ?_
    clear hLp oL8 oW8 ap8 G8
    intro lo9 wo9 lc9 wc9 L9 w9 hs9 hd9 oL9 oW9 ap9 G9
    intros
    go_upto_region 27 with (fail)
    refine h27 (3 + 3 * n) (by omega) lo9 lc9 L9 w9 oL9 ?_
    clear h27
    intro lo10 lc10 w10 oL10 k10 b10
    intros
    have ap10 := ap9.left (w' := w10) G9 oW9.lt b10
    have oW10 := oW9.keep k10 (fun y hy hm => ap9.d y hm hy)
    have G10 := G9.then k10 (fun y hy => ap9.a y hy)
    have hs10 : Hid ((L9 ++ [doE pkU none 0]).map (·.s) = ([dS aw0, dS pk1, dS (pkC false true)] ++ rds kk sz n) ++ [dS pkU]) := Lib.hid (by rw [List.map_append, hs9, Hs7.out]; rfl)
    have hd10 : Hid (∀ e ∈ L9 ++ [doE pkU none 0], e.s.cmd.data.length ≤ 1000000) := Lib.hid (fun e he => by
      rcases List.mem_append.1 he with h | h
      · rcases hd9 e h with h | h
        · exact Nat.le_trans (Hd7.out e h) (by decide)
        · exact Nat.le_trans h (by decide)
      · obtain rfl : e = doE pkU none 0 := by simpa using h
        decide)
    clear oL9 oW9 ap9 G9 k10 b10 hs9 hd9 Hs7 Hd7
    go_upto_region 28 with (fail)
    refine h28 (3 + 3 * n) (by omega) wo9 wc9 kd (([1, 2] ++ [3]) ++ kds (pkw false true (inB k sz) kd) kd n) w10 oW10 ?_
    clear h28
    intro wo11 wc11 w11 oW11 k11 b11
    intros
    have oL11 := oL10.keep k11 (fun y hy hm => ap10.d y hy hm)
    have G11 := G10.then k11 (fun y hy => ap10.b y hy)
    clear oL10 oW10 ap10 G10 k11 b11
    have hlen : (L9 ++ [doE pkU none 0]).length = 3 + 3 * n + 1 := by
      have h := oL11.row.1
      rw [exs_len] at h
      omega
    generalize L9 ++ [doE pkU none 0] = L11 at *
    have hkC := fun ao c w s => kindsC 200 (by omega) (by omega) L11 ao (3 + 3 * n + 1) c hlen.symm (by omega) hd10.out w s
    have hmC := fun R hR => madeC L11 lo10 (3 + 3 * n + 1) lc10 hlen.symm (by omega) w11 oL11.sl R hR
    have OW11 := Lib.hid oW11
    rw [hs10.out] at hkC
    have Hmm := Lib.hid (show 3 + 3 * n + 1 ≤ 1000 by omega)
    clear oL11 hlen hs10 hd10 oW11
    go_upto_region 29 with (fail)
    generalize 3 + 3 * n + 1 = mm at *
    go_wp2_with fail
    refine hmC _ ?_
    clear hmC
    intro mo mc w12 oM g12 _
    go_wp2_with fail
    refine hkC mo mc w12 oM.sl _ ?_
    clear hkC oM
    intro ko kc w13 oK g13 _
    have hA := HA.out (fun e => by cases e.2.1)
    rw [show pkS0 false true = 3 from rfl] at hA
    rw [hA] at oK
    clear HA HB hA
    go_wp2_with fail
    refine intsC _ mm (by have h := oK.row.1; rw [List.length_map, Nat.mul_one] at h; exact h.symm) (by have := Hmm.out; omega) _ _ _ _ _ oK.sl (OW11.out.grow (g12.trans g13)).sl _ ?_
    clear oK OW11
    intro w14 g14
    go_wp2_with fail
    refine awake25C _ _ ?_
    intro w15 g15
    have hf := HR.out _ (G11.trans (g12.trans (g13.trans (g14.trans g15))))
    clear HR G11 g12 g13 g14 g15
    go_wp2_with fail
    exact hf
  · go_upto_region 18 with (fail)
    refine h18 2 (by omega) (some ⟨gW, 0, none⟩) 2 kd [1, 2] w7 OW7.out ?_
    intro wo8 wc8 w8 oW8 k8 b8
    intros
    have ap8 := AP7.out.right (w' := w8) G7 OL7.out.lt b8
    have oL8 := OL7.out.keep k8 (fun y hy hm => AP7.out.d y hy hm)
    have G8 := G7.then k8 (fun y hy => AP7.out.b y hy)
    clear k8 b8 OL7 OW7 AP7 G7 h17 h18
    go_upto_block 1 with (fail)
    refine hLp true false (inB k sz) sz kk n 3 hs2 hn (by omega) lo1 wo8 lc1 wc8 kd L7 ([1, 2] ++ [kd]) w w8 G8 oL8 oW8 ap8 ?_
    clear hLp oL8 oW8 ap8 G8
    intro lo9 wo9 lc9 wc9 L9 w9 hs9 hd9 oL9 oW9 ap9 G9
    intros
    go_upto_region 27 with (fail)
    refine h27 (3 + 3 * n) (by omega) lo9 lc9 L9 w9 oL9 ?_
    clear h27
    intro lo10 lc10 w10 oL10 k10 b10
    intros
    have ap10 := ap9.left (w' := w10) G9 oW9.lt b10
    have oW10 := oW9.keep k10 (fun y hy hm => ap9.d y hm hy)
    have G10 := G9.then k10 (fun y hy => ap9.a y hy)
    have hs10 : Hid ((L9 ++ [doE pkU none 0]).map (·.s) = ([dS aw0, dS pk1, dS (pkC true false)] ++ rds kk sz n) ++ [dS pkU]) := Lib.hid (by rw [List.map_append, hs9, Hs7.out]; rfl)
    have hd10 : Hid (∀ e ∈ L9 ++ [doE pkU none 0], e.s.cmd.data.length ≤ 1000000) := Lib.hid (fun e he => by
      rcases List.mem_append.1 he with h | h
      · rcases hd9 e h with h | h
        · exact Nat.le_trans (Hd7.out e h) (by decide)
        · exact Nat.le_trans h (by decide)
      · obtain rfl : e = doE pkU none 0 := by simpa using h
        decide)
    clear oL9 oW9 ap9 G9 k10 b10 hs9 hd9 Hs7 Hd7
    go_upto_region 28 with (fail)
    refine h28 (3 + 3 * n) (by omega) wo9 wc9 kd (([1, 2] ++ [kd]) ++ kds (pkw true false (inB k sz) kd) kd n) w10 oW10 ?_
    clear h28
    intro wo11 wc11 w11 oW11 k11 b11
    intros
    have oL11 := oL10.keep k11 (fun y hy hm => ap10.d y hy hm)
    have G11 := G10.then k11 (fun y hy => ap10.b y hy)
    clear oL10 oW10 ap10 G10 k11 b11
    have hlen : (L9 ++ [doE pkU none 0]).length = 3 + 3 * n + 1 := by
      have h := oL11.row.1
      rw [exs_len] at h
      omega
    generalize L9 ++ [doE pkU none 0] = L11 at *
    have hkC := fun ao c w s => kindsC 200 (by omega) (by omega) L11 ao (3 + 3 * n + 1) c hlen.symm (by omega) hd10.out w s
    have hmC := fun R hR => madeC L11 lo10 (3 + 3 * n + 1) lc10 hlen.symm (by omega) w11 oL11.sl R hR
    have OW11 := Lib.hid oW11
    rw [hs10.out] at hkC
    have Hmm := Lib.hid (show 3 + 3 * n + 1 ≤ 1000 by omega)
    clear oL11 hlen hs10 hd10 oW11
    go_upto_region 29 with (fail)
    generalize 3 + 3 * n + 1 = mm at *
    go_wp2_with fail
    refine hmC _ ?_
    clear hmC
    intro mo mc w12 oM g12 _
    go_wp2_with fail
    refine hkC mo mc w12 oM.sl _ ?_
    clear hkC oM
    intro ko kc w13 oK g13 _
    have hA := HA.out (fun e => by cases e.1)
    rw [show pkS0 true false = kd from by rw [Hkd.out]; rfl] at hA
    rw [hA] at oK
    clear HA HB hA
    go_wp2_with fail
    refine intsC _ mm (by have h := oK.row.1; rw [List.length_map, Nat.mul_one] at h; exact h.symm) (by have := Hmm.out; omega) _ _ _ _ _ oK.sl (OW11.out.grow (g12.trans g13)).sl _ ?_
    clear oK OW11
    intro w14 g14
    go_wp2_with fail
    refine awake25C _ _ ?_
    intro w15 g15
    have hf := HR.out _ (G11.trans (g12.trans (g13.trans (g14.trans g15))))
    clear HR G11 g12 g13 g14 g15
    go_wp2_with fail
    exact hf
  · go_upto_region 18 with (fail)
    refine h18 2 (by omega) (some ⟨gW, 0, none⟩) 2 kd [1, 2] w7 OW7.out ?_
    intro wo8 wc8 w8 oW8 k8 b8
    intros
    have ap8 := AP7.out.right (w' := w8) G7 OL7.out.lt b8
    have oL8 := OL7.out.keep k8 (fun y hy hm => AP7.out.d y hy hm)
    have G8 := G7.then k8 (fun y hy => AP7.out.b y hy)
    clear k8 b8 OL7 OW7 AP7 G7 h17 h18
    go_upto_block 1 with (fail)
    refine hLp true true (inB k sz) sz kk n 3 hs2 hn (by omega) lo1 wo8 lc1 wc8 kd L7 ([1, 2] ++ [kd]) w w8 G8 oL8 oW8 ap8 ?_
    clear hLp oL8 oW8 ap8 G8
    intro lo9 wo9 lc9 wc9 L9 w9 hs9 hd9 oL9 oW9 ap9 G9
    intros
    go_upto_region 27 with (fail)
    refine h27 (3 + 3 * n) (by omega) lo9 lc9 L9 w9 oL9 ?_
    clear h27
    intro lo10 lc10 w10 oL10 k10 b10
    intros
    have ap10 := ap9.left (w' := w10) G9 oW9.lt b10
    have oW10 := oW9.keep k10 (fun y hy hm => ap9.d y hm hy)
    have G10 := G9.then k10 (fun y hy => ap9.a y hy)
    have hs10 : Hid ((L9 ++ [doE pkU none 0]).map (·.s) = ([dS aw0, dS pk1, dS (pkC true true)] ++ rds kk sz n) ++ [dS pkU]) := Lib.hid (by rw [List.map_append, hs9, Hs7.out]; rfl)
    have hd10 : Hid (∀ e ∈ L9 ++ [doE pkU none 0], e.s.cmd.data.length ≤ 1000000) := Lib.hid (fun e he => by
      rcases List.mem_append.1 he with h | h
      · rcases hd9 e h with h | h
        · exact Nat.le_trans (Hd7.out e h) (by decide)
        · exact Nat.le_trans h (by decide)
      · obtain rfl : e = doE pkU none 0 := by simpa using h
        decide)
    clear oL9 oW9 ap9 G9 k10 b10 hs9 hd9 Hs7 Hd7
    go_upto_region 28 with (fail)
    refine h28 (3 + 3 * n) (by omega) wo9 wc9 kd (([1, 2] ++ [kd]) ++ kds (pkw true true (inB k sz) kd) kd n) w10 oW10 ?_
    clear h28
    intro wo11 wc11 w11 oW11 k11 b11
    intros
    have oL11 := oL10.keep k11 (fun y hy hm => ap10.d y hy hm)
    have G11 := G10.then k11 (fun y hy => ap10.b y hy)
    clear oL10 oW10 ap10 G10 k11 b11
    have hlen : (L9 ++ [doE pkU none 0]).length = 3 + 3 * n + 1 := by
      have h := oL11.row.1
      rw [exs_len] at h
      omega
    generalize L9 ++ [doE pkU none 0] = L11 at *
    have hkC := fun ao c w s => kindsC 200 (by omega) (by omega) L11 ao (3 + 3 * n + 1) c hlen.symm (by omega) hd10.out w s
    have hmC := fun R hR => madeC L11 lo10 (3 + 3 * n + 1) lc10 hlen.symm (by omega) w11 oL11.sl R hR
    have OW11 := Lib.hid oW11
    rw [hs10.out] at hkC
    have Hmm := Lib.hid (show 3 + 3 * n + 1 ≤ 1000 by omega)
    clear oL11 hlen hs10 hd10 oW11
    go_upto_region 29 with (fail)
    generalize 3 + 3 * n + 1 = mm at *
    go_wp2_with fail
    refine hmC _ ?_
    clear hmC
    intro mo mc w12 oM g12 _
    go_wp2_with fail
    refine hkC mo mc w12 oM.sl _ ?_
    clear hkC oM
    intro ko kc w13 oK g13 _
    have hA := HA.out (fun e => by cases e.1)
    rw [show pkS0 true true = kd from by rw [Hkd.out]; rfl] at hA
    rw [hA] at oK
    clear HA HB hA
    go_wp2_with fail
    refine intsC _ mm (by have h := oK.row.1; rw [List.length_map, Nat.mul_one] at h; exact h.symm) (by have := Hmm.out; omega) _ _ _ _ _ oK.sl (OW11.out.grow (g12.trans g13)).sl _ ?_
    clear oK OW11
    intro w14 g14
    go_wp2_with fail
    refine awake25C _ _ ?_
    intro w15 g15
    have hf := HR.out _ (G11.trans (g12.trans (g13.trans (g14.trans g15))))
    clear HR G11 g12 g13 g14 g15
    go_wp2_with fail
    exact hf
end Go.Proofs.Ytgchbcopbkoomaa
