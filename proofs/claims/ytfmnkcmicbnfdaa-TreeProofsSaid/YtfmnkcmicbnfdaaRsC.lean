/- The document's sum: what a block's turns made is added; the sum's bytes. -/
import Derived.Test.YtfmnkcmicbnfdaaShaK
import Derived.Test.YtfmnkcmicbnfdaaGSha1
import Derived.Test.YtfmnkcmicbnfdaaGMem
import Derived.Test.YtfmnkcmicbnfdaaGNew
namespace Go.Proofs.Ytfmnkcmicbnfdaa
open Go Go.RowKit

theorem addN_0 (A X : List Nat) (h : A.length = 8) : addN A X 0 = A := by
  apply List.ext_getElem
  · simp [addN_len, h]
  · intro i h1 h2; simp [addN, List.getD_eq_getElem?_getD, h2]
theorem addN_8 (s t : St) : addN s.list t.list 8 = (s.add t).list := by
  simp [addN, St.list, St.add, List.range_succ]
theorem St.list_lt {s : St} (h : s.ok) : ∀ x ∈ s.list, x < 4294967296 := by
  obtain ⟨h1, h2, h3, h4, h5, h6, h7, h8⟩ := h
  intro x hx
  simp only [St.list, List.mem_cons, List.not_mem_nil, or_false] at hx
  rcases hx with rfl | rfl | rfl | rfl | rfl | rfl | rfl | rfl <;> assumption
theorem U_cell {w : World} {g : Nat} {X : List Nat} {n : Nat} (h : Cells w g 0 (X.map U)) (i : Nat) (hi : i < X.length) (_hn : X.length = n) : w.cell? ⟨g, i, none⟩ = some (.int .u32 ((X.getD i 0 : Nat) : Int)) := by
  have := h.at (i := i) (v := U (X.getD i 0)) (by simp [hi])
  rwa [Nat.zero_add] at this
theorem own_set {w : World} {e : TypeId} {n g : Nat} {xs ys : List Value} (h : Own w e 1 (some ⟨g, 0, none⟩) n n xs) {i : Nat} (hi : i < n) (v : Value) (h1 : v.oneCell' = true) (hy : ys = xs.set i v) : Own (w.setCell ⟨g, i, none⟩ v) e 1 (some ⟨g, 0, none⟩) n n ys := by
  subst hy
  obtain ⟨g', u, eg, _, _, hs⟩ := own_put h (i := i) (by omega)
  cases eg
  exact hs v h1


set_option maxRecDepth 100000 in
set_option maxHeartbeats 2000000 in
theorem rS7 (qh qv : Nat) (s t : St) (hs : s.ok) (ht : t.ok) (hne : qv ≠ qh) {c0 c1 c2 c3 c4 c5 c6 c8 c9 c10 c11 c12 c13 c14 c16 c17 c18 c19 c20 c22 c23 c24 c25 c26 c27 c28 c29 c30 c31 c32 c33 c34 c35 c36 c37 c38 c39 c40 c41 c42 c43 c44 c45 c46 c47 c48 c49 c50 c51 c52 c53 c54 c55 c56 c57 c58 c59 c60 c61 c62 c63 c64 c65 c66 c67 c68 c69 c70 c71 c72 c73 c74 c75 c76 c77 c78 c79 c80 c81 c82 c83 c84 c85 c86 c87 c88 c89 c90 c91 c92 c93 c94 c95 c96 c97 c98 c99 c100 c101 c102 c103 c104 c105 c106 c107 c108 c109 c110 c111 c112 c113 c114 c115 c116 c117 c118 c119 c120 c121 c122 c123 c124 c125 c126 c127 c128 c129 c130 c131 c132 c133 c134 c135 c136 c137 c138 c139 c140 c141 c142 c143 c144 c145 c146 c147 c148 c149 c150 c151 c152 c153 c154 c155 c156 c157 c158 c159 c160 c161 c162 c163 c164 c165 c166 c167 c168 c169 c170 c171 c172 c173 c174 c175 c176 c177 c178 c179 c180 c181 c182 c183 c184 c185 c186 c187 c188 c189 c190 c191 c192 c193 c194 c195 c196 c197 c198 c199 c200 c201 c202 c203 c204 c205 c206 c207 c208 c209 c210 c211 c212 c213 c214 c215 c216 c217 c218 c219 c220 c221 c222 c223 c224 c225 c226 c227 c228 c229 c230 c231 c232 c233 c234 c235 c236 c237 c238 c239 c240 c241 c242 c243 c244 c245 c246 c247 c248 c249 c250 c251 c252 c253 c254 c255 c256 : Value} (w : World) (oh : Own w 141 1 (some ⟨qh, 0, none⟩) 8 8 (s.list.map U)) (ov : Own w 141 1 (some ⟨qv, 0, none⟩) 8 8 (t.list.map U)) {Q : Exit → Act → World → Prop}
    (hQ : ∀ (w' : World), Own w' 141 1 (some ⟨qh, 0, none⟩) 8 8 ((s.add t).list.map U) → Keep [qh] w w' → ∀ {u21 u227 u228 u229 u230 u231 u232 u233 u234 u235 u236 u237 u238 u239 : Value}, Q .normal ⟨List.toArray (c0 :: c1 :: c2 :: c3 :: c4 :: c5 :: c6 :: .pointer (some ⟨qh, 0, none⟩) :: c8 :: c9 :: c10 :: c11 :: c12 :: c13 :: c14 :: .pointer (some ⟨qv, 0, none⟩) :: c16 :: c17 :: c18 :: c19 :: c20 :: u21 :: c22 :: c23 :: c24 :: c25 :: c26 :: c27 :: c28 :: c29 :: c30 :: c31 :: c32 :: c33 :: c34 :: c35 :: c36 :: c37 :: c38 :: c39 :: c40 :: c41 :: c42 :: c43 :: c44 :: c45 :: c46 :: c47 :: c48 :: c49 :: c50 :: c51 :: c52 :: c53 :: c54 :: c55 :: c56 :: c57 :: c58 :: c59 :: c60 :: c61 :: c62 :: c63 :: c64 :: c65 :: c66 :: c67 :: c68 :: c69 :: c70 :: c71 :: c72 :: c73 :: c74 :: c75 :: c76 :: c77 :: c78 :: c79 :: c80 :: c81 :: c82 :: c83 :: c84 :: c85 :: c86 :: c87 :: c88 :: c89 :: c90 :: c91 :: c92 :: c93 :: c94 :: c95 :: c96 :: c97 :: c98 :: c99 :: c100 :: c101 :: c102 :: c103 :: c104 :: c105 :: c106 :: c107 :: c108 :: c109 :: c110 :: c111 :: c112 :: c113 :: c114 :: c115 :: c116 :: c117 :: c118 :: c119 :: c120 :: c121 :: c122 :: c123 :: c124 :: c125 :: c126 :: c127 :: c128 :: c129 :: c130 :: c131 :: c132 :: c133 :: c134 :: c135 :: c136 :: c137 :: c138 :: c139 :: c140 :: c141 :: c142 :: c143 :: c144 :: c145 :: c146 :: c147 :: c148 :: c149 :: c150 :: c151 :: c152 :: c153 :: c154 :: c155 :: c156 :: c157 :: c158 :: c159 :: c160 :: c161 :: c162 :: c163 :: c164 :: c165 :: c166 :: c167 :: c168 :: c169 :: c170 :: c171 :: c172 :: c173 :: c174 :: c175 :: c176 :: c177 :: c178 :: c179 :: c180 :: c181 :: c182 :: c183 :: c184 :: c185 :: c186 :: c187 :: c188 :: c189 :: c190 :: c191 :: c192 :: c193 :: c194 :: c195 :: c196 :: c197 :: c198 :: c199 :: c200 :: c201 :: c202 :: c203 :: c204 :: c205 :: c206 :: c207 :: c208 :: c209 :: c210 :: c211 :: c212 :: c213 :: c214 :: c215 :: c216 :: c217 :: c218 :: c219 :: c220 :: c221 :: c222 :: c223 :: c224 :: c225 :: c226 :: u227 :: u228 :: u229 :: u230 :: u231 :: u232 :: u233 :: u234 :: u235 :: u236 :: u237 :: u238 :: u239 :: c240 :: c241 :: c242 :: c243 :: c244 :: c245 :: c246 :: c247 :: c248 :: c249 :: c250 :: c251 :: c252 :: c253 :: c254 :: c255 :: c256 :: []), []⟩ w') :
    Code.wp Try.prog (blockAt Try.f109 12) Q ⟨List.toArray (c0 :: c1 :: c2 :: c3 :: c4 :: c5 :: c6 :: .pointer (some ⟨qh, 0, none⟩) :: c8 :: c9 :: c10 :: c11 :: c12 :: c13 :: c14 :: .pointer (some ⟨qv, 0, none⟩) :: c16 :: c17 :: c18 :: c19 :: c20 :: .int .i64 0 :: c22 :: c23 :: c24 :: c25 :: c26 :: c27 :: c28 :: c29 :: c30 :: c31 :: c32 :: c33 :: c34 :: c35 :: c36 :: c37 :: c38 :: c39 :: c40 :: c41 :: c42 :: c43 :: c44 :: c45 :: c46 :: c47 :: c48 :: c49 :: c50 :: c51 :: c52 :: c53 :: c54 :: c55 :: c56 :: c57 :: c58 :: c59 :: c60 :: c61 :: c62 :: c63 :: c64 :: c65 :: c66 :: c67 :: c68 :: c69 :: c70 :: c71 :: c72 :: c73 :: c74 :: c75 :: c76 :: c77 :: c78 :: c79 :: c80 :: c81 :: c82 :: c83 :: c84 :: c85 :: c86 :: c87 :: c88 :: c89 :: c90 :: c91 :: c92 :: c93 :: c94 :: c95 :: c96 :: c97 :: c98 :: c99 :: c100 :: c101 :: c102 :: c103 :: c104 :: c105 :: c106 :: c107 :: c108 :: c109 :: c110 :: c111 :: c112 :: c113 :: c114 :: c115 :: c116 :: c117 :: c118 :: c119 :: c120 :: c121 :: c122 :: c123 :: c124 :: c125 :: c126 :: c127 :: c128 :: c129 :: c130 :: c131 :: c132 :: c133 :: c134 :: c135 :: c136 :: c137 :: c138 :: c139 :: c140 :: c141 :: c142 :: c143 :: c144 :: c145 :: c146 :: c147 :: c148 :: c149 :: c150 :: c151 :: c152 :: c153 :: c154 :: c155 :: c156 :: c157 :: c158 :: c159 :: c160 :: c161 :: c162 :: c163 :: c164 :: c165 :: c166 :: c167 :: c168 :: c169 :: c170 :: c171 :: c172 :: c173 :: c174 :: c175 :: c176 :: c177 :: c178 :: c179 :: c180 :: c181 :: c182 :: c183 :: c184 :: c185 :: c186 :: c187 :: c188 :: c189 :: c190 :: c191 :: c192 :: c193 :: c194 :: c195 :: c196 :: c197 :: c198 :: c199 :: c200 :: c201 :: c202 :: c203 :: c204 :: c205 :: c206 :: c207 :: c208 :: c209 :: c210 :: c211 :: c212 :: c213 :: c214 :: c215 :: c216 :: c217 :: c218 :: c219 :: c220 :: c221 :: c222 :: c223 :: c224 :: c225 :: c226 :: c227 :: c228 :: c229 :: c230 :: c231 :: c232 :: c233 :: c234 :: c235 :: c236 :: c237 :: c238 :: c239 :: c240 :: c241 :: c242 :: c243 :: c244 :: c245 :: c246 :: c247 :: c248 :: c249 :: c250 :: c251 :: c252 :: c253 :: c254 :: c255 :: c256 :: []), []⟩ w := by
  conv => arg 2; whnf
  refine wp_block ?_
  obtain ⟨A, hA⟩ : ∃ A, A = s.list := ⟨_, rfl⟩
  obtain ⟨X, hX⟩ : ∃ A, A = t.list := ⟨_, rfl⟩
  have hQ' : ∀ (w' : World), Own w' 141 1 (some ⟨qh, 0, none⟩) 8 8 ((addN A X 8).map U) → Keep [qh] w w' → ∀ {u21 u227 u228 u229 u230 u231 u232 u233 u234 u235 u236 u237 u238 u239 : Value}, Q .normal ⟨List.toArray (c0 :: c1 :: c2 :: c3 :: c4 :: c5 :: c6 :: .pointer (some ⟨qh, 0, none⟩) :: c8 :: c9 :: c10 :: c11 :: c12 :: c13 :: c14 :: .pointer (some ⟨qv, 0, none⟩) :: c16 :: c17 :: c18 :: c19 :: c20 :: u21 :: c22 :: c23 :: c24 :: c25 :: c26 :: c27 :: c28 :: c29 :: c30 :: c31 :: c32 :: c33 :: c34 :: c35 :: c36 :: c37 :: c38 :: c39 :: c40 :: c41 :: c42 :: c43 :: c44 :: c45 :: c46 :: c47 :: c48 :: c49 :: c50 :: c51 :: c52 :: c53 :: c54 :: c55 :: c56 :: c57 :: c58 :: c59 :: c60 :: c61 :: c62 :: c63 :: c64 :: c65 :: c66 :: c67 :: c68 :: c69 :: c70 :: c71 :: c72 :: c73 :: c74 :: c75 :: c76 :: c77 :: c78 :: c79 :: c80 :: c81 :: c82 :: c83 :: c84 :: c85 :: c86 :: c87 :: c88 :: c89 :: c90 :: c91 :: c92 :: c93 :: c94 :: c95 :: c96 :: c97 :: c98 :: c99 :: c100 :: c101 :: c102 :: c103 :: c104 :: c105 :: c106 :: c107 :: c108 :: c109 :: c110 :: c111 :: c112 :: c113 :: c114 :: c115 :: c116 :: c117 :: c118 :: c119 :: c120 :: c121 :: c122 :: c123 :: c124 :: c125 :: c126 :: c127 :: c128 :: c129 :: c130 :: c131 :: c132 :: c133 :: c134 :: c135 :: c136 :: c137 :: c138 :: c139 :: c140 :: c141 :: c142 :: c143 :: c144 :: c145 :: c146 :: c147 :: c148 :: c149 :: c150 :: c151 :: c152 :: c153 :: c154 :: c155 :: c156 :: c157 :: c158 :: c159 :: c160 :: c161 :: c162 :: c163 :: c164 :: c165 :: c166 :: c167 :: c168 :: c169 :: c170 :: c171 :: c172 :: c173 :: c174 :: c175 :: c176 :: c177 :: c178 :: c179 :: c180 :: c181 :: c182 :: c183 :: c184 :: c185 :: c186 :: c187 :: c188 :: c189 :: c190 :: c191 :: c192 :: c193 :: c194 :: c195 :: c196 :: c197 :: c198 :: c199 :: c200 :: c201 :: c202 :: c203 :: c204 :: c205 :: c206 :: c207 :: c208 :: c209 :: c210 :: c211 :: c212 :: c213 :: c214 :: c215 :: c216 :: c217 :: c218 :: c219 :: c220 :: c221 :: c222 :: c223 :: c224 :: c225 :: c226 :: u227 :: u228 :: u229 :: u230 :: u231 :: u232 :: u233 :: u234 :: u235 :: u236 :: u237 :: u238 :: u239 :: c240 :: c241 :: c242 :: c243 :: c244 :: c245 :: c246 :: c247 :: c248 :: c249 :: c250 :: c251 :: c252 :: c253 :: c254 :: c255 :: c256 :: []), []⟩ w' := fun w' h1 h2 => hQ w' (by rw [← addN_8, ← hA, ← hX]; exact h1) h2
  have hAl : A.length = 8 := by rw [hA]; rfl
  have hXl : X.length = 8 := by rw [hX]; rfl
  rw [← hA] at oh
  rw [← hX] at ov
  have hAx : ∀ j, A.getD j 0 < 4294967296 := W32.getD (by rw [hA]; exact St.list_lt hs)
  have hXx : ∀ j, X.getD j 0 < 4294967296 := W32.getD (by rw [hX]; exact St.list_lt ht)
  rw [← addN_0 A X hAl] at oh
  clear hQ hA hX
  go_loopw [21] (fun vi wr => ∃ i : Nat, vi = .int .i64 (i : Int) ∧ i ≤ 8 ∧ Own wr 141 1 (some ⟨qh, 0, none⟩) 8 8 ((addN A X i).map U) ∧ Keep [qh] w wr) (fun vi _ => 8 - (intOf vi).toNat)
  case atStart => exact ⟨0, by simp, by omega, oh, Keep.refl _ _⟩
  case round =>
    clear oh
    obtain ⟨i, rfl, hi, oi, ki⟩ := hrel
    by_cases h8 : i < 8
    · have ov2 := ov.keep ki (by simp [blk]; exact hne)
      obtain ⟨g', off', eg, hch⟩ := oi.sl.hat (by omega)
      cases eg
      obtain ⟨g', off', eg, hcv⟩ := ov2.sl.hat (by omega)
      cases eg
      have ch := hch.at (addN_at A X i i h8)
      rw [Nat.zero_add, if_neg (by omega)] at ch
      have cv := U_cell hcv i (by omega) hXl
      have la := hAx i
      have lx := hXx i
      have hnx := addN_succ A X i h8
      obtain ⟨y, ey⟩ : ∃ y, y = A.getD i 0 := ⟨_, rfl⟩
      obtain ⟨z, ez⟩ : ∃ y, y = X.getD i 0 := ⟨_, rfl⟩
      rw [← ey] at ch la hnx
      rw [← ez] at cv lx hnx
      simp only [U] at ch
      have c1 := KW.cell (fp := []) (p0 := tt) ch (by simp)
      have c2 := KW.cell (fp := []) (p0 := tt) cv (by simp)
      have Hn := Lib.hid hnx
      clear ey ez hAx hXx hch hcv hnx ov2 hQ'
      go_upto_region 34 with (fail)
      refine wp_region_R (segL wr) (by kernel_rfl) segL_drew ?_
      unfold segL segK segR
      repeat (first | (refine wpV_skp rfl rfl ?_; simp only [List.set_cons_succ, List.set_cons_zero]) | (refine wpV_look rfl rfl rfl rfl rfl (fun K hK => ?_); go_big_quiet_op; refine hK _ ?_; clear hK K))
      refine wpV_end0 rfl rfl (by kernel_rfl) (fun w4 hC hF => ?_)
      obtain ⟨⟨w4, hk4, -⟩, rfl⟩ := hC
      clear hF c1 c2
      have o4 := oi.keep hk4 (by simp)
      obtain ⟨g3, v, eg, hv, hfz, -⟩ := own_put o4 (i := i) (by omega)
      cases eg
      unfold yields
      go_simp
      simp only [yUpon]
      have hk2 := fun u : Value => (ki.trans (Keep.of_nil hk4)).trans (Keep.setCell (fp := [qh]) w4 ⟨qh, i, none⟩ (by simp) u)
      have o5 := own_set o4 h8 (.int .u32 (((y : Int) + (z : Int)) % 4294967296)) rfl (ys := (addN A X (i + 1)).map U) (by rw [Hn.out]; congr 1)
      clear hv hfz o4 oi ch cv
      go_wp2_with fail
      go_roundw
      case rel => exact ⟨i + 1, by go_num, by omega, o5, hk2 _⟩
      case measure => simp [intOf]; omega
    · obtain rfl : i = 8 := by omega
      clear hAx hXx ov
      go_wp2_with fail
      exact hQ' _ oi ki


set_option maxRecDepth 100000 in
set_option maxHeartbeats 2000000 in
theorem rS8 (qh q : Nat) (s : St) (hs : s.ok) (hne : qh ≠ q) {c0 c1 c2 c3 c4 c5 c6 c8 c9 c10 c11 c12 c13 c14 c15 c16 c17 c18 c19 c20 c21 c24 c25 c26 c27 c28 c29 c30 c31 c32 c33 c34 c35 c36 c37 c38 c39 c40 c41 c42 c43 c44 c45 c46 c47 c48 c49 c50 c51 c52 c53 c54 c55 c56 c57 c58 c59 c60 c61 c62 c63 c64 c65 c66 c67 c68 c69 c70 c71 c72 c73 c74 c75 c76 c77 c78 c79 c80 c81 c82 c83 c84 c85 c86 c87 c88 c89 c90 c91 c92 c93 c94 c95 c96 c97 c98 c99 c100 c101 c102 c103 c104 c105 c106 c107 c108 c109 c110 c111 c112 c113 c114 c115 c116 c117 c118 c119 c120 c121 c122 c123 c124 c125 c126 c127 c128 c129 c130 c131 c132 c133 c134 c135 c136 c137 c138 c139 c140 c141 c142 c143 c144 c145 c146 c147 c148 c149 c150 c151 c152 c153 c154 c155 c156 c157 c158 c159 c160 c161 c162 c163 c164 c165 c166 c167 c168 c169 c170 c171 c172 c173 c174 c175 c176 c177 c178 c179 c180 c181 c182 c183 c184 c185 c186 c187 c188 c189 c190 c191 c192 c193 c194 c195 c196 c197 c198 c199 c200 c201 c202 c203 c204 c205 c206 c207 c208 c209 c210 c211 c212 c213 c214 c215 c216 c217 c218 c219 c220 c221 c222 c223 c224 c225 c226 c227 c228 c229 c230 c231 c232 c233 c234 c235 c236 c237 c238 c239 c240 c241 c242 c243 c244 c245 c246 c247 c248 c249 c250 c251 c252 c253 c254 c255 c256 : Value} (w : World) (oh : Own w 141 1 (some ⟨qh, 0, none⟩) 8 8 (s.list.map U)) (ov : Own w 123 1 (some ⟨q, 0, none⟩) 32 32 (List.replicate 32 (.int .u8 0))) {Q : Exit → Act → World → Prop}
    (hQ : ∀ (w' : World), Own w' 123 1 (some ⟨q, 0, none⟩) 32 32 ((outS s).map B) → Keep [q] w w' → ∀ {u23 u240 u241 u242 u243 u244 u245 u246 u247 u248 u249 u250 u251 u252 u253 u254 u255 : Value}, Q .normal ⟨List.toArray (c0 :: c1 :: c2 :: c3 :: c4 :: c5 :: c6 :: .pointer (some ⟨qh, 0, none⟩) :: c8 :: c9 :: c10 :: c11 :: c12 :: c13 :: c14 :: c15 :: c16 :: c17 :: c18 :: c19 :: c20 :: c21 :: .pointer (some ⟨q, 0, none⟩) :: u23 :: c24 :: c25 :: c26 :: c27 :: c28 :: c29 :: c30 :: c31 :: c32 :: c33 :: c34 :: c35 :: c36 :: c37 :: c38 :: c39 :: c40 :: c41 :: c42 :: c43 :: c44 :: c45 :: c46 :: c47 :: c48 :: c49 :: c50 :: c51 :: c52 :: c53 :: c54 :: c55 :: c56 :: c57 :: c58 :: c59 :: c60 :: c61 :: c62 :: c63 :: c64 :: c65 :: c66 :: c67 :: c68 :: c69 :: c70 :: c71 :: c72 :: c73 :: c74 :: c75 :: c76 :: c77 :: c78 :: c79 :: c80 :: c81 :: c82 :: c83 :: c84 :: c85 :: c86 :: c87 :: c88 :: c89 :: c90 :: c91 :: c92 :: c93 :: c94 :: c95 :: c96 :: c97 :: c98 :: c99 :: c100 :: c101 :: c102 :: c103 :: c104 :: c105 :: c106 :: c107 :: c108 :: c109 :: c110 :: c111 :: c112 :: c113 :: c114 :: c115 :: c116 :: c117 :: c118 :: c119 :: c120 :: c121 :: c122 :: c123 :: c124 :: c125 :: c126 :: c127 :: c128 :: c129 :: c130 :: c131 :: c132 :: c133 :: c134 :: c135 :: c136 :: c137 :: c138 :: c139 :: c140 :: c141 :: c142 :: c143 :: c144 :: c145 :: c146 :: c147 :: c148 :: c149 :: c150 :: c151 :: c152 :: c153 :: c154 :: c155 :: c156 :: c157 :: c158 :: c159 :: c160 :: c161 :: c162 :: c163 :: c164 :: c165 :: c166 :: c167 :: c168 :: c169 :: c170 :: c171 :: c172 :: c173 :: c174 :: c175 :: c176 :: c177 :: c178 :: c179 :: c180 :: c181 :: c182 :: c183 :: c184 :: c185 :: c186 :: c187 :: c188 :: c189 :: c190 :: c191 :: c192 :: c193 :: c194 :: c195 :: c196 :: c197 :: c198 :: c199 :: c200 :: c201 :: c202 :: c203 :: c204 :: c205 :: c206 :: c207 :: c208 :: c209 :: c210 :: c211 :: c212 :: c213 :: c214 :: c215 :: c216 :: c217 :: c218 :: c219 :: c220 :: c221 :: c222 :: c223 :: c224 :: c225 :: c226 :: c227 :: c228 :: c229 :: c230 :: c231 :: c232 :: c233 :: c234 :: c235 :: c236 :: c237 :: c238 :: c239 :: u240 :: u241 :: u242 :: u243 :: u244 :: u245 :: u246 :: u247 :: u248 :: u249 :: u250 :: u251 :: u252 :: u253 :: u254 :: u255 :: c256 :: []), []⟩ w') :
    Code.wp Try.prog (blockAt Try.f109 14) Q ⟨List.toArray (c0 :: c1 :: c2 :: c3 :: c4 :: c5 :: c6 :: .pointer (some ⟨qh, 0, none⟩) :: c8 :: c9 :: c10 :: c11 :: c12 :: c13 :: c14 :: c15 :: c16 :: c17 :: c18 :: c19 :: c20 :: c21 :: .pointer (some ⟨q, 0, none⟩) :: .int .i64 0 :: c24 :: c25 :: c26 :: c27 :: c28 :: c29 :: c30 :: c31 :: c32 :: c33 :: c34 :: c35 :: c36 :: c37 :: c38 :: c39 :: c40 :: c41 :: c42 :: c43 :: c44 :: c45 :: c46 :: c47 :: c48 :: c49 :: c50 :: c51 :: c52 :: c53 :: c54 :: c55 :: c56 :: c57 :: c58 :: c59 :: c60 :: c61 :: c62 :: c63 :: c64 :: c65 :: c66 :: c67 :: c68 :: c69 :: c70 :: c71 :: c72 :: c73 :: c74 :: c75 :: c76 :: c77 :: c78 :: c79 :: c80 :: c81 :: c82 :: c83 :: c84 :: c85 :: c86 :: c87 :: c88 :: c89 :: c90 :: c91 :: c92 :: c93 :: c94 :: c95 :: c96 :: c97 :: c98 :: c99 :: c100 :: c101 :: c102 :: c103 :: c104 :: c105 :: c106 :: c107 :: c108 :: c109 :: c110 :: c111 :: c112 :: c113 :: c114 :: c115 :: c116 :: c117 :: c118 :: c119 :: c120 :: c121 :: c122 :: c123 :: c124 :: c125 :: c126 :: c127 :: c128 :: c129 :: c130 :: c131 :: c132 :: c133 :: c134 :: c135 :: c136 :: c137 :: c138 :: c139 :: c140 :: c141 :: c142 :: c143 :: c144 :: c145 :: c146 :: c147 :: c148 :: c149 :: c150 :: c151 :: c152 :: c153 :: c154 :: c155 :: c156 :: c157 :: c158 :: c159 :: c160 :: c161 :: c162 :: c163 :: c164 :: c165 :: c166 :: c167 :: c168 :: c169 :: c170 :: c171 :: c172 :: c173 :: c174 :: c175 :: c176 :: c177 :: c178 :: c179 :: c180 :: c181 :: c182 :: c183 :: c184 :: c185 :: c186 :: c187 :: c188 :: c189 :: c190 :: c191 :: c192 :: c193 :: c194 :: c195 :: c196 :: c197 :: c198 :: c199 :: c200 :: c201 :: c202 :: c203 :: c204 :: c205 :: c206 :: c207 :: c208 :: c209 :: c210 :: c211 :: c212 :: c213 :: c214 :: c215 :: c216 :: c217 :: c218 :: c219 :: c220 :: c221 :: c222 :: c223 :: c224 :: c225 :: c226 :: c227 :: c228 :: c229 :: c230 :: c231 :: c232 :: c233 :: c234 :: c235 :: c236 :: c237 :: c238 :: c239 :: c240 :: c241 :: c242 :: c243 :: c244 :: c245 :: c246 :: c247 :: c248 :: c249 :: c250 :: c251 :: c252 :: c253 :: c254 :: c255 :: c256 :: []), []⟩ w := by
  conv => arg 2; whnf
  refine wp_block ?_
  have hAl : s.list.length = 8 := rfl
  have hAlt : ∀ j, s.list.getD j 0 < 4294967296 := W32.getD (St.list_lt hs)
  have hQ2 : ∀ (w' : World), Own w' 123 1 (some ⟨q, 0, none⟩) 32 32 (fil (fun i => B (outB s.list i)) (.int .u8 0) 32 32) → Keep [q] w w' → ∀ {u23 u240 u241 u242 u243 u244 u245 u246 u247 u248 u249 u250 u251 u252 u253 u254 u255 : Value}, Q .normal ⟨List.toArray (c0 :: c1 :: c2 :: c3 :: c4 :: c5 :: c6 :: .pointer (some ⟨qh, 0, none⟩) :: c8 :: c9 :: c10 :: c11 :: c12 :: c13 :: c14 :: c15 :: c16 :: c17 :: c18 :: c19 :: c20 :: c21 :: .pointer (some ⟨q, 0, none⟩) :: u23 :: c24 :: c25 :: c26 :: c27 :: c28 :: c29 :: c30 :: c31 :: c32 :: c33 :: c34 :: c35 :: c36 :: c37 :: c38 :: c39 :: c40 :: c41 :: c42 :: c43 :: c44 :: c45 :: c46 :: c47 :: c48 :: c49 :: c50 :: c51 :: c52 :: c53 :: c54 :: c55 :: c56 :: c57 :: c58 :: c59 :: c60 :: c61 :: c62 :: c63 :: c64 :: c65 :: c66 :: c67 :: c68 :: c69 :: c70 :: c71 :: c72 :: c73 :: c74 :: c75 :: c76 :: c77 :: c78 :: c79 :: c80 :: c81 :: c82 :: c83 :: c84 :: c85 :: c86 :: c87 :: c88 :: c89 :: c90 :: c91 :: c92 :: c93 :: c94 :: c95 :: c96 :: c97 :: c98 :: c99 :: c100 :: c101 :: c102 :: c103 :: c104 :: c105 :: c106 :: c107 :: c108 :: c109 :: c110 :: c111 :: c112 :: c113 :: c114 :: c115 :: c116 :: c117 :: c118 :: c119 :: c120 :: c121 :: c122 :: c123 :: c124 :: c125 :: c126 :: c127 :: c128 :: c129 :: c130 :: c131 :: c132 :: c133 :: c134 :: c135 :: c136 :: c137 :: c138 :: c139 :: c140 :: c141 :: c142 :: c143 :: c144 :: c145 :: c146 :: c147 :: c148 :: c149 :: c150 :: c151 :: c152 :: c153 :: c154 :: c155 :: c156 :: c157 :: c158 :: c159 :: c160 :: c161 :: c162 :: c163 :: c164 :: c165 :: c166 :: c167 :: c168 :: c169 :: c170 :: c171 :: c172 :: c173 :: c174 :: c175 :: c176 :: c177 :: c178 :: c179 :: c180 :: c181 :: c182 :: c183 :: c184 :: c185 :: c186 :: c187 :: c188 :: c189 :: c190 :: c191 :: c192 :: c193 :: c194 :: c195 :: c196 :: c197 :: c198 :: c199 :: c200 :: c201 :: c202 :: c203 :: c204 :: c205 :: c206 :: c207 :: c208 :: c209 :: c210 :: c211 :: c212 :: c213 :: c214 :: c215 :: c216 :: c217 :: c218 :: c219 :: c220 :: c221 :: c222 :: c223 :: c224 :: c225 :: c226 :: c227 :: c228 :: c229 :: c230 :: c231 :: c232 :: c233 :: c234 :: c235 :: c236 :: c237 :: c238 :: c239 :: u240 :: u241 :: u242 :: u243 :: u244 :: u245 :: u246 :: u247 :: u248 :: u249 :: u250 :: u251 :: u252 :: u253 :: u254 :: u255 :: c256 :: []), []⟩ w' := fun w' h1 h2 => hQ w' (by simpa [outS, fil, Function.comp_def] using h1) h2
  have oO' : Own w 123 1 (some ⟨q, 0, none⟩) 32 32 (fil (fun i => B (outB s.list i)) (.int .u8 0) 32 0) := by simpa [fil] using ov
  obtain ⟨A, hA⟩ : ∃ A, A = s.list := ⟨_, rfl⟩
  simp only [← hA] at hQ2 oO' hAlt hAl oh
  clear hA ov hQ
  obtain ⟨f, hf⟩ : ∃ f : Nat → Value, f = fun i => B (outB A i) := ⟨_, rfl⟩
  have hfv : ∀ i (a : Int), a = ((A.getD (i / 4) 0 / 2 ^ (24 - 8 * (i % 4)) % 256 : Nat) : Int) → Value.int .u8 a = f i := fun i a e => by
    rw [hf, e, ← outB_nat]; rfl
  have Hfv := Lib.hid hfv
  simp only [← hf] at oO' hQ2
  have Hlt := Lib.hid hAlt
  clear hf hfv hAlt
  go_loopw [23] (fun vi wr2 => ∃ i : Nat, vi = .int .i64 (i : Int) ∧ i ≤ 32 ∧ Own wr2 123 1 (some ⟨q, 0, none⟩) 32 32 (fil f (.int .u8 0) 32 i) ∧ Keep [q] w wr2) (fun vi _ => 32 - (intOf vi).toNat)
  case atStart => exact ⟨0, by simp, by omega, oO', Keep.refl _ _⟩
  case round =>
    clear oO'
    obtain ⟨i, rfl, hi32, oO, gW⟩ := hrel
    by_cases hi : i < 32
    · obtain ⟨c, hc⟩ : ∃ c, c = i / 4 := ⟨_, rfl⟩
      have hc8 : c < 8 := by omega
      obtain ⟨g', off', eg, hcs⟩ := (oh.keep gW (by simp [blk]; exact hne)).sl.hat (by omega)
      cases eg
      have c1 := U_cell hcs c (by omega) hAl
      have ha := Hlt.out c
      have hfv := Hfv.out i
      rw [← hc] at hfv
      obtain ⟨a, hae⟩ : ∃ a, a = A.getD c 0 := ⟨_, rfl⟩
      simp only [← hae] at c1 ha hfv
      obtain ⟨g3, v, eg, hv, hfz, hset⟩ := own_put oO (i := i) (by omega)
      cases eg
      have hn := hset (f i) (by rw [← Hfv.out i _ rfl]; rfl)
      rw [fil_next f _ 32 i hi] at hn
      have gn := gW.trans (Keep.setCell (fp := [q]) wr ⟨q, i, none⟩ (by simp) (f i))
      have Hfv2 := Lib.hid hfv
      clear hset hfv hcs hae hQ2
      have e1 : (i : Int) / 4 = (c : Int) := by omega
      have hb : i % 4 = 0 ∨ i % 4 = 1 ∨ i % 4 = 2 ∨ i % 4 = 3 := by omega
      clear hc
      rcases hb with hb | hb | hb | hb
      · have e2 : (i : Int) % 4 = 0 := by omega
        go_wp2_with fail
        go_roundw
        case rel =>
          rw [Hfv2.out _ (by rw [hb]; first | omega | (simp; omega) | simp)]
          exact ⟨i + 1, by go_num, by omega, hn, gn⟩
        case measure => simp [intOf]; omega
      · have e2 : (i : Int) % 4 = 1 := by omega
        go_wp2_with fail
        go_roundw
        case rel =>
          rw [Hfv2.out _ (by rw [hb]; first | omega | (simp; omega) | simp)]
          exact ⟨i + 1, by go_num, by omega, hn, gn⟩
        case measure => simp [intOf]; omega
      · have e2 : (i : Int) % 4 = 2 := by omega
        go_wp2_with fail
        go_roundw
        case rel =>
          rw [Hfv2.out _ (by rw [hb]; first | omega | (simp; omega) | simp)]
          exact ⟨i + 1, by go_num, by omega, hn, gn⟩
        case measure => simp [intOf]; omega
      · have e2 : (i : Int) % 4 = 3 := by omega
        go_wp2_with fail
        go_roundw
        case rel =>
          rw [Hfv2.out _ (by rw [hb]; first | omega | (simp; omega) | simp)]
          exact ⟨i + 1, by go_num, by omega, hn, gn⟩
        case measure => simp [intOf]; omega
    · obtain rfl : i = 32 := by omega
      clear Hlt Hfv oh
      go_wp2_with fail
      exact hQ2 _ oO gW


set_option maxRecDepth 100000 in
theorem rS23 (qh : Nat) (X : List Nat) (hX : X.length = 8) {c0 c1 c2 c3 c4 c5 c6 c8 c9 c10 c11 c12 c13 c14 c15 c16 c17 c18 c19 c20 c21 c22 c23 c24 c25 c26 c27 c28 c29 c30 c31 c32 c33 c34 c35 c36 c37 c38 c39 c40 c41 c42 c43 c44 c45 c46 c47 c48 c49 c50 c51 c52 c53 c54 c55 c56 c57 c58 c59 c60 c61 c62 c63 c64 c65 c66 c67 c68 c69 c70 c71 c72 c73 c74 c75 c76 c77 c78 c79 c80 c81 c82 c83 c84 c85 c86 c87 c88 c89 c90 c91 c92 c93 c94 c95 c96 c97 c98 c99 c100 c101 c102 c103 c104 c105 c106 c107 c108 c109 c110 c111 c112 c113 c114 c115 c116 c117 c118 c119 c120 c121 c122 c123 c124 c125 c126 c127 c128 c129 c130 c131 c132 c133 c134 c135 c136 c137 c138 c139 c140 c141 c142 c143 c144 c145 c146 c147 c148 c149 c150 c151 c152 c153 c154 c155 c156 c157 c158 c159 c160 c161 c162 c163 c164 c165 c166 c167 c168 c169 c170 c171 c172 c173 c174 c175 c176 c177 c178 c179 c180 c181 c182 c183 c184 c185 c186 c187 c188 c189 c190 c191 c192 c193 c194 c195 c196 c197 c198 c199 c200 c201 c202 c203 c204 c205 c206 c207 c208 c209 c210 c211 c212 c213 c214 c215 c216 c217 c218 c219 c220 c221 c222 c223 c224 c225 c226 c227 c228 c229 c230 c231 c232 c233 c234 c235 c236 c237 c238 c239 c240 c241 c242 c243 c244 c245 c246 c247 c248 c249 c250 c251 c252 c253 c254 c255 c256 : Value} (w : World) (oh : Own w 141 1 (some ⟨qh, 0, none⟩) 8 8 (X.map U)) {Q : Exit → Act → World → Prop}
    (hQ : ∀ (w' : World) (qv : Nat), Own w' 141 1 (some ⟨qv, 0, none⟩) 8 8 (X.map U) → Grow w w' → w.heap.size ≤ qv → ∀ {u141 : Value}, Q .normal ⟨List.toArray (c0 :: c1 :: c2 :: c3 :: c4 :: c5 :: c6 :: .pointer (some ⟨qh, 0, none⟩) :: c8 :: c9 :: c10 :: c11 :: c12 :: c13 :: c14 :: .pointer (some ⟨qv, 0, none⟩) :: c16 :: c17 :: c18 :: c19 :: c20 :: c21 :: c22 :: c23 :: c24 :: c25 :: c26 :: c27 :: c28 :: c29 :: c30 :: c31 :: c32 :: c33 :: c34 :: c35 :: c36 :: c37 :: c38 :: c39 :: c40 :: c41 :: c42 :: c43 :: c44 :: c45 :: c46 :: c47 :: c48 :: c49 :: c50 :: c51 :: c52 :: c53 :: c54 :: c55 :: c56 :: c57 :: c58 :: c59 :: c60 :: c61 :: c62 :: c63 :: c64 :: c65 :: c66 :: c67 :: c68 :: c69 :: c70 :: c71 :: c72 :: c73 :: c74 :: c75 :: c76 :: c77 :: c78 :: c79 :: c80 :: c81 :: c82 :: c83 :: c84 :: c85 :: c86 :: c87 :: c88 :: c89 :: c90 :: c91 :: c92 :: c93 :: c94 :: c95 :: c96 :: c97 :: c98 :: c99 :: c100 :: c101 :: c102 :: c103 :: c104 :: c105 :: c106 :: c107 :: c108 :: c109 :: c110 :: c111 :: c112 :: c113 :: c114 :: c115 :: c116 :: c117 :: c118 :: c119 :: c120 :: c121 :: c122 :: c123 :: c124 :: c125 :: c126 :: c127 :: c128 :: c129 :: c130 :: c131 :: c132 :: c133 :: c134 :: c135 :: c136 :: c137 :: c138 :: c139 :: c140 :: u141 :: c142 :: c143 :: c144 :: c145 :: c146 :: c147 :: c148 :: c149 :: c150 :: c151 :: c152 :: c153 :: c154 :: c155 :: c156 :: c157 :: c158 :: c159 :: c160 :: c161 :: c162 :: c163 :: c164 :: c165 :: c166 :: c167 :: c168 :: c169 :: c170 :: c171 :: c172 :: c173 :: c174 :: c175 :: c176 :: c177 :: c178 :: c179 :: c180 :: c181 :: c182 :: c183 :: c184 :: c185 :: c186 :: c187 :: c188 :: c189 :: c190 :: c191 :: c192 :: c193 :: c194 :: c195 :: c196 :: c197 :: c198 :: c199 :: c200 :: c201 :: c202 :: c203 :: c204 :: c205 :: c206 :: c207 :: c208 :: c209 :: c210 :: c211 :: c212 :: c213 :: c214 :: c215 :: c216 :: c217 :: c218 :: c219 :: c220 :: c221 :: c222 :: c223 :: c224 :: c225 :: c226 :: c227 :: c228 :: c229 :: c230 :: c231 :: c232 :: c233 :: c234 :: c235 :: c236 :: c237 :: c238 :: c239 :: c240 :: c241 :: c242 :: c243 :: c244 :: c245 :: c246 :: c247 :: c248 :: c249 :: c250 :: c251 :: c252 :: c253 :: c254 :: c255 :: c256 :: []), []⟩ w') :
    Code.wp Try.prog (regionAt Try.f109 23) Q ⟨List.toArray (c0 :: c1 :: c2 :: c3 :: c4 :: c5 :: c6 :: .pointer (some ⟨qh, 0, none⟩) :: c8 :: c9 :: c10 :: c11 :: c12 :: c13 :: c14 :: c15 :: c16 :: c17 :: c18 :: c19 :: c20 :: c21 :: c22 :: c23 :: c24 :: c25 :: c26 :: c27 :: c28 :: c29 :: c30 :: c31 :: c32 :: c33 :: c34 :: c35 :: c36 :: c37 :: c38 :: c39 :: c40 :: c41 :: c42 :: c43 :: c44 :: c45 :: c46 :: c47 :: c48 :: c49 :: c50 :: c51 :: c52 :: c53 :: c54 :: c55 :: c56 :: c57 :: c58 :: c59 :: c60 :: c61 :: c62 :: c63 :: c64 :: c65 :: c66 :: c67 :: c68 :: c69 :: c70 :: c71 :: c72 :: c73 :: c74 :: c75 :: c76 :: c77 :: c78 :: c79 :: c80 :: c81 :: c82 :: c83 :: c84 :: c85 :: c86 :: c87 :: c88 :: c89 :: c90 :: c91 :: c92 :: c93 :: c94 :: c95 :: c96 :: c97 :: c98 :: c99 :: c100 :: c101 :: c102 :: c103 :: c104 :: c105 :: c106 :: c107 :: c108 :: c109 :: c110 :: c111 :: c112 :: c113 :: c114 :: c115 :: c116 :: c117 :: c118 :: c119 :: c120 :: c121 :: c122 :: c123 :: c124 :: c125 :: c126 :: c127 :: c128 :: c129 :: c130 :: c131 :: c132 :: c133 :: c134 :: c135 :: c136 :: c137 :: c138 :: c139 :: c140 :: c141 :: c142 :: c143 :: c144 :: c145 :: c146 :: c147 :: c148 :: c149 :: c150 :: c151 :: c152 :: c153 :: c154 :: c155 :: c156 :: c157 :: c158 :: c159 :: c160 :: c161 :: c162 :: c163 :: c164 :: c165 :: c166 :: c167 :: c168 :: c169 :: c170 :: c171 :: c172 :: c173 :: c174 :: c175 :: c176 :: c177 :: c178 :: c179 :: c180 :: c181 :: c182 :: c183 :: c184 :: c185 :: c186 :: c187 :: c188 :: c189 :: c190 :: c191 :: c192 :: c193 :: c194 :: c195 :: c196 :: c197 :: c198 :: c199 :: c200 :: c201 :: c202 :: c203 :: c204 :: c205 :: c206 :: c207 :: c208 :: c209 :: c210 :: c211 :: c212 :: c213 :: c214 :: c215 :: c216 :: c217 :: c218 :: c219 :: c220 :: c221 :: c222 :: c223 :: c224 :: c225 :: c226 :: c227 :: c228 :: c229 :: c230 :: c231 :: c232 :: c233 :: c234 :: c235 :: c236 :: c237 :: c238 :: c239 :: c240 :: c241 :: c242 :: c243 :: c244 :: c245 :: c246 :: c247 :: c248 :: c249 :: c250 :: c251 :: c252 :: c253 :: c254 :: c255 :: c256 :: []), []⟩ w := by
  have i8 : (Try.prog.info? 141).map (·.size) = some 8 := by kernel_rfl
  have hrg : w.rangeAt qh 0 (X.map U) := own_range oh (by omega)
  obtain ⟨V, hV⟩ : ∃ V, V = X.map U := ⟨_, rfl⟩
  obtain ⟨v1, v2, v3, v4⟩ := newvar (t := 141) (n := 8) (F := X.map U) w (U 0) rfl (by unfold maxLen; omega) (by simpa using hX) (oneU X)
  have hsz8 : (Try.prog.info? 141).map (·.size) = some (X.map U).length := by rw [List.length_map, hX]; exact i8
  rw [← hV] at hrg v1 v2 v3 v4 hsz8
  simp only [← hV] at hQ
  clear hV hX oh
  conv => arg 2; whnf
  refine wp_region_lit ?_
  refine wpList_load_mid rfl 141 _ rfl qh 0 rfl V _ hrg Try.underlying141 rfl hsz8 ?_
  iterate 3 go_step
  refine wpList_store_mid rfl 141 _ _ rfl w.heap.size 0 V.toArray rfl rfl v3 (by simpa using hsz8) v4 ?_
  refine wpList_nil ?_
  exact hQ _ _ v1 v2 (Nat.le_refl _)
end Go.Proofs.Ytfmnkcmicbnfdaa
