/- The document's sum: a block's words. -/
import Derived.Test.YtfmnkcmicbnfdaaShaK
import Derived.Test.YtfmnkcmicbnfdaaGSha1
import Derived.Test.YtfmnkcmicbnfdaaGMem
namespace Go.Proofs.Ytfmnkcmicbnfdaa
open Go Go.RowKit


set_option maxRecDepth 100000 in
set_option maxHeartbeats 2000000 in
theorem rS4 (qw gm a c : Nat) (M l : List UInt8) {c0 c1 c2 c3 c4 c6 c7 c11 c12 c13 c14 c15 c16 c17 c18 c19 c20 c21 c22 c23 c24 c25 c26 c27 c28 c29 c30 c31 c32 c33 c34 c35 c36 c37 c38 c39 c40 c41 c42 c43 c44 c45 c46 c47 c48 c49 c50 c51 c52 c53 c54 c55 c56 c57 c58 c59 c60 c61 c62 c63 c64 c65 c66 c67 c68 c69 c70 c71 c72 c73 c74 c75 c76 c77 c78 c79 c80 c81 c82 c83 c84 c85 c86 c87 c88 c89 c90 c91 c92 c93 c94 c95 c96 c97 c98 c99 c100 c101 c102 c103 c104 c105 c106 c107 c108 c109 c110 c111 c112 c113 c114 c115 c116 c117 c118 c119 c120 c121 c122 c123 c124 c125 c126 c127 c128 c129 c130 c131 c132 c133 c134 c135 c136 c137 c138 c139 c140 c141 c142 c143 c144 c145 c146 c147 c148 c149 c150 c151 c152 c153 c154 c155 c156 c157 c158 c159 c160 c161 c162 c163 c164 c165 c166 c167 c168 c169 c170 c171 c172 c173 c174 c175 c176 c177 c178 c179 c180 c181 c182 c183 c184 c185 c186 c187 c188 c189 c190 c191 c192 c193 c194 c195 c196 c197 c198 c199 c200 c201 c202 c203 c204 c205 c206 c207 c208 c209 c210 c211 c212 c213 c214 c215 c216 c217 c218 c219 c220 c221 c222 c223 c224 c225 c226 c227 c228 c229 c230 c231 c232 c233 c234 c235 c236 c237 c238 c239 c240 c241 c242 c243 c244 c245 c246 c247 c248 c249 c250 c251 c252 c253 c254 c255 c256 : Value} (w2 : World) (haM : a + 64 ≤ M.length) (hXs : M.length ≤ 2000000) (hgq : gm ≠ qw)
    (hbyte : ∀ j, j < 64 → (M.map B)[a + j]? = some (.int .u8 ((l.getD j 0).toNat : Int)))
    (tx : Sl w2 1 (some ⟨gm, 0, none⟩) M.length c (M.map B)) (oz : Own w2 143 1 (some ⟨qw, 0, none⟩) 64 64 (arr (wOf l 0))) {Q : Exit → Act → World → Prop}
    (hQ : ∀ (w' : World), Own w' 143 1 (some ⟨qw, 0, none⟩) 64 64 (arr (wOf l 16)) → Keep [qw] w2 w' → ∀ {u10 u11 u61 u62 u63 u64 u65 u66 u67 u68 u69 u70 u71 u72 u73 u74 u75 u76 u77 u78 u79 u80 u81 u82 u83 u84 u85 u86 u87 u88 u89 u90 u91 u92 u93 u94 u95 u96 u97 u98 u99 : Value}, Q .normal ⟨List.toArray (c0 :: c1 :: c2 :: c3 :: c4 :: .slice (some ⟨gm, 0, none⟩) M.length c :: c6 :: c7 :: .int .i64 (a : Int) :: .pointer (some ⟨qw, 0, none⟩) :: u10 :: u11 :: c12 :: c13 :: c14 :: c15 :: c16 :: c17 :: c18 :: c19 :: c20 :: c21 :: c22 :: c23 :: c24 :: c25 :: c26 :: c27 :: c28 :: c29 :: c30 :: c31 :: c32 :: c33 :: c34 :: c35 :: c36 :: c37 :: c38 :: c39 :: c40 :: c41 :: c42 :: c43 :: c44 :: c45 :: c46 :: c47 :: c48 :: c49 :: c50 :: c51 :: c52 :: c53 :: c54 :: c55 :: c56 :: c57 :: c58 :: c59 :: c60 :: u61 :: u62 :: u63 :: u64 :: u65 :: u66 :: u67 :: u68 :: u69 :: u70 :: u71 :: u72 :: u73 :: u74 :: u75 :: u76 :: u77 :: u78 :: u79 :: u80 :: u81 :: u82 :: u83 :: u84 :: u85 :: u86 :: u87 :: u88 :: u89 :: u90 :: u91 :: u92 :: u93 :: u94 :: u95 :: u96 :: u97 :: u98 :: u99 :: c100 :: c101 :: c102 :: c103 :: c104 :: c105 :: c106 :: c107 :: c108 :: c109 :: c110 :: c111 :: c112 :: c113 :: c114 :: c115 :: c116 :: c117 :: c118 :: c119 :: c120 :: c121 :: c122 :: c123 :: c124 :: c125 :: c126 :: c127 :: c128 :: c129 :: c130 :: c131 :: c132 :: c133 :: c134 :: c135 :: c136 :: c137 :: c138 :: c139 :: c140 :: c141 :: c142 :: c143 :: c144 :: c145 :: c146 :: c147 :: c148 :: c149 :: c150 :: c151 :: c152 :: c153 :: c154 :: c155 :: c156 :: c157 :: c158 :: c159 :: c160 :: c161 :: c162 :: c163 :: c164 :: c165 :: c166 :: c167 :: c168 :: c169 :: c170 :: c171 :: c172 :: c173 :: c174 :: c175 :: c176 :: c177 :: c178 :: c179 :: c180 :: c181 :: c182 :: c183 :: c184 :: c185 :: c186 :: c187 :: c188 :: c189 :: c190 :: c191 :: c192 :: c193 :: c194 :: c195 :: c196 :: c197 :: c198 :: c199 :: c200 :: c201 :: c202 :: c203 :: c204 :: c205 :: c206 :: c207 :: c208 :: c209 :: c210 :: c211 :: c212 :: c213 :: c214 :: c215 :: c216 :: c217 :: c218 :: c219 :: c220 :: c221 :: c222 :: c223 :: c224 :: c225 :: c226 :: c227 :: c228 :: c229 :: c230 :: c231 :: c232 :: c233 :: c234 :: c235 :: c236 :: c237 :: c238 :: c239 :: c240 :: c241 :: c242 :: c243 :: c244 :: c245 :: c246 :: c247 :: c248 :: c249 :: c250 :: c251 :: c252 :: c253 :: c254 :: c255 :: c256 :: []), []⟩ w') :
    Code.wp Try.prog (blockAt Try.f109 6) Q ⟨List.toArray (c0 :: c1 :: c2 :: c3 :: c4 :: .slice (some ⟨gm, 0, none⟩) M.length c :: c6 :: c7 :: .int .i64 (a : Int) :: .pointer (some ⟨qw, 0, none⟩) :: .int .i64 0 :: c11 :: c12 :: c13 :: c14 :: c15 :: c16 :: c17 :: c18 :: c19 :: c20 :: c21 :: c22 :: c23 :: c24 :: c25 :: c26 :: c27 :: c28 :: c29 :: c30 :: c31 :: c32 :: c33 :: c34 :: c35 :: c36 :: c37 :: c38 :: c39 :: c40 :: c41 :: c42 :: c43 :: c44 :: c45 :: c46 :: c47 :: c48 :: c49 :: c50 :: c51 :: c52 :: c53 :: c54 :: c55 :: c56 :: c57 :: c58 :: c59 :: c60 :: c61 :: c62 :: c63 :: c64 :: c65 :: c66 :: c67 :: c68 :: c69 :: c70 :: c71 :: c72 :: c73 :: c74 :: c75 :: c76 :: c77 :: c78 :: c79 :: c80 :: c81 :: c82 :: c83 :: c84 :: c85 :: c86 :: c87 :: c88 :: c89 :: c90 :: c91 :: c92 :: c93 :: c94 :: c95 :: c96 :: c97 :: c98 :: c99 :: c100 :: c101 :: c102 :: c103 :: c104 :: c105 :: c106 :: c107 :: c108 :: c109 :: c110 :: c111 :: c112 :: c113 :: c114 :: c115 :: c116 :: c117 :: c118 :: c119 :: c120 :: c121 :: c122 :: c123 :: c124 :: c125 :: c126 :: c127 :: c128 :: c129 :: c130 :: c131 :: c132 :: c133 :: c134 :: c135 :: c136 :: c137 :: c138 :: c139 :: c140 :: c141 :: c142 :: c143 :: c144 :: c145 :: c146 :: c147 :: c148 :: c149 :: c150 :: c151 :: c152 :: c153 :: c154 :: c155 :: c156 :: c157 :: c158 :: c159 :: c160 :: c161 :: c162 :: c163 :: c164 :: c165 :: c166 :: c167 :: c168 :: c169 :: c170 :: c171 :: c172 :: c173 :: c174 :: c175 :: c176 :: c177 :: c178 :: c179 :: c180 :: c181 :: c182 :: c183 :: c184 :: c185 :: c186 :: c187 :: c188 :: c189 :: c190 :: c191 :: c192 :: c193 :: c194 :: c195 :: c196 :: c197 :: c198 :: c199 :: c200 :: c201 :: c202 :: c203 :: c204 :: c205 :: c206 :: c207 :: c208 :: c209 :: c210 :: c211 :: c212 :: c213 :: c214 :: c215 :: c216 :: c217 :: c218 :: c219 :: c220 :: c221 :: c222 :: c223 :: c224 :: c225 :: c226 :: c227 :: c228 :: c229 :: c230 :: c231 :: c232 :: c233 :: c234 :: c235 :: c236 :: c237 :: c238 :: c239 :: c240 :: c241 :: c242 :: c243 :: c244 :: c245 :: c246 :: c247 :: c248 :: c249 :: c250 :: c251 :: c252 :: c253 :: c254 :: c255 :: c256 :: []), []⟩ w2 := by
  conv => arg 2; whnf
  refine wp_block ?_
  go_loopw [10] (fun vi wr => ∃ i : Nat, vi = .int .i64 (i : Int) ∧ i ≤ 16 ∧ Own wr 143 1 (some ⟨qw, 0, none⟩) 64 64 (arr (wOf l i)) ∧ Keep [qw] w2 wr) (fun vi _ => 16 - (intOf vi).toNat)
  case atStart => exact ⟨0, by simp, by omega, oz, Keep.refl _ _⟩
  case round =>
    clear oz
    obtain ⟨i, rfl, hi, oi, ki⟩ := hrel
    have hWl := wOf_len l i
    by_cases h16 : i < 16
    · obtain ⟨g', off', eg, hcm⟩ := (tx.keep ki (by simp [blk]; omega)).hat (by omega)
      cases eg
      obtain ⟨P, hP⟩ : ∃ P, P = a + 4 * i := ⟨_, rfl⟩
      have hP4 : P + 4 ≤ M.length := by omega
      have eP : (a : Int) + 4 * (i : Int) = (P : Int) := by omega
      have hb := fun j (hj : j < 4) => KW.cell (fp := []) (p0 := tt) (hcm.at (i := P + j) (by have := hbyte (4 * i + j) (by omega); rwa [show a + (4 * i + j) = P + j by omega] at this)) (by simp)
      have b0 := hb 0 (by omega)
      have b1 := hb 1 (by omega)
      have b2 := hb 2 (by omega)
      have b3 := hb 3 (by omega)
      simp only [Nat.add_zero, Nat.zero_add] at b0 b1 b2 b3
      have hwn : wNew l (wOf l i) = be (l.getD (4 * i) 0).toNat (l.getD (4 * i + 1) 0).toNat (l.getD (4 * i + 2) 0).toNat (l.getD (4 * i + 3) 0).toNat := by
        unfold wNew; rw [hWl, if_pos h16]
      have x0 : _ < 256 := UInt8.toNat_lt (l.getD (4 * i) 0)
      have x1 : _ < 256 := UInt8.toNat_lt (l.getD (4 * i + 1) 0)
      have x2 : _ < 256 := UInt8.toNat_lt (l.getD (4 * i + 2) 0)
      have x3 : _ < 256 := UInt8.toNat_lt (l.getD (4 * i + 3) 0)
      obtain ⟨y0, e0⟩ : ∃ y, y = (l.getD (4 * i) 0).toNat := ⟨_, rfl⟩
      obtain ⟨y1, e1⟩ : ∃ y, y = (l.getD (4 * i + 1) 0).toNat := ⟨_, rfl⟩
      obtain ⟨y2, e2⟩ : ∃ y, y = (l.getD (4 * i + 2) 0).toNat := ⟨_, rfl⟩
      obtain ⟨y3, e3⟩ : ∃ y, y = (l.getD (4 * i + 3) 0).toNat := ⟨_, rfl⟩
      rw [← e0] at b0 x0 hwn
      rw [← e1] at b1 x1 hwn
      rw [← e2] at b2 x2 hwn
      rw [← e3] at b3 x3 hwn
      have Hwn := Lib.hid hwn
      have HP := Lib.hid hP
      clear e0 e1 e2 e3 hb hwn hcm hP
      go_upto_region 17 with (fail)
      refine wp_region_R (segL wr) (by kernel_rfl) segL_drew ?_
      unfold segL segK segR
      repeat (first | (refine wpV_skp rfl rfl ?_; simp only [List.set_cons_succ, List.set_cons_zero]) | (refine wpV_look rfl rfl rfl rfl rfl (fun K hK => ?_); go_big_quiet_op; refine hK _ ?_; clear hK K))
      refine wpV_end0 rfl rfl (by kernel_rfl) (fun w4 hC hF => ?_)
      obtain ⟨⟨w4, hk4, -⟩, rfl⟩ := hC
      clear hF b0 b1 b2 b3
      have o4 := oi.keep hk4 (by simp)
      obtain ⟨g3, v, eg, hv, hfz, -⟩ := own_put o4 (i := i) (by omega)
      cases eg
      unfold yields
      go_simp
      simp only [yUpon]
      have hk2 := fun u : Value => (ki.trans (Keep.of_nil hk4)).trans (Keep.setCell (fp := [qw]) w4 ⟨qw, i, none⟩ (by simp) u)
      have hn := put_next o4 (by omega : (wOf l i).length < 64)
      rw [hWl] at hn
      clear hv hfz o4 oi eP
      go_wp2_with fail
      go_roundw
      case rel =>
        refine ⟨i + 1, by go_num, by omega, ?_, hk2 _⟩
        simp only [wOf]
        rw [Hwn.out]
        exact hn _ _ (be_val _ _ _ _ x0 x1 x2 x3)
      case measure => simp [intOf]; omega
    · obtain rfl : i = 16 := by omega
      clear hbyte tx
      go_wp2_with fail
      exact hQ _ oi ki


set_option maxRecDepth 100000 in
set_option maxHeartbeats 2000000 in
theorem rS5 (qw : Nat) (l : List UInt8) {c0 c1 c2 c3 c4 c5 c6 c7 c8 c10 c11 c13 c14 c15 c16 c17 c18 c19 c20 c21 c22 c23 c24 c25 c26 c27 c28 c29 c30 c31 c32 c33 c34 c35 c36 c37 c38 c39 c40 c41 c42 c43 c44 c45 c46 c47 c48 c49 c50 c51 c52 c53 c54 c55 c56 c57 c58 c59 c60 c61 c62 c63 c64 c65 c66 c67 c68 c69 c70 c71 c72 c73 c74 c75 c76 c77 c78 c79 c80 c81 c82 c83 c84 c85 c86 c87 c88 c89 c90 c91 c92 c93 c94 c95 c96 c97 c98 c99 c100 c101 c102 c103 c104 c105 c106 c107 c108 c109 c110 c111 c112 c113 c114 c115 c116 c117 c118 c119 c120 c121 c122 c123 c124 c125 c126 c127 c128 c129 c130 c131 c132 c133 c134 c135 c136 c137 c138 c139 c140 c141 c142 c143 c144 c145 c146 c147 c148 c149 c150 c151 c152 c153 c154 c155 c156 c157 c158 c159 c160 c161 c162 c163 c164 c165 c166 c167 c168 c169 c170 c171 c172 c173 c174 c175 c176 c177 c178 c179 c180 c181 c182 c183 c184 c185 c186 c187 c188 c189 c190 c191 c192 c193 c194 c195 c196 c197 c198 c199 c200 c201 c202 c203 c204 c205 c206 c207 c208 c209 c210 c211 c212 c213 c214 c215 c216 c217 c218 c219 c220 c221 c222 c223 c224 c225 c226 c227 c228 c229 c230 c231 c232 c233 c234 c235 c236 c237 c238 c239 c240 c241 c242 c243 c244 c245 c246 c247 c248 c249 c250 c251 c252 c253 c254 c255 c256 : Value} (w2 : World) (oz : Own w2 143 1 (some ⟨qw, 0, none⟩) 64 64 (arr (wOf l 16))) {Q : Exit → Act → World → Prop}
    (hQ : ∀ (w' : World), Own w' 143 1 (some ⟨qw, 0, none⟩) 64 64 (arr (wOf l 64)) → Keep [qw] w2 w' → ∀ {u12 u13 u14 u100 u101 u102 u103 u104 u105 u106 u107 u108 u109 u110 u111 u112 u113 u114 u115 u116 u117 u118 u119 u120 u121 u122 u123 u124 u125 u126 u127 u128 u129 u130 u131 u132 u133 u134 u135 u136 u137 u138 u139 u140 : Value}, Q .normal ⟨List.toArray (c0 :: c1 :: c2 :: c3 :: c4 :: c5 :: c6 :: c7 :: c8 :: .pointer (some ⟨qw, 0, none⟩) :: c10 :: c11 :: u12 :: u13 :: u14 :: c15 :: c16 :: c17 :: c18 :: c19 :: c20 :: c21 :: c22 :: c23 :: c24 :: c25 :: c26 :: c27 :: c28 :: c29 :: c30 :: c31 :: c32 :: c33 :: c34 :: c35 :: c36 :: c37 :: c38 :: c39 :: c40 :: c41 :: c42 :: c43 :: c44 :: c45 :: c46 :: c47 :: c48 :: c49 :: c50 :: c51 :: c52 :: c53 :: c54 :: c55 :: c56 :: c57 :: c58 :: c59 :: c60 :: c61 :: c62 :: c63 :: c64 :: c65 :: c66 :: c67 :: c68 :: c69 :: c70 :: c71 :: c72 :: c73 :: c74 :: c75 :: c76 :: c77 :: c78 :: c79 :: c80 :: c81 :: c82 :: c83 :: c84 :: c85 :: c86 :: c87 :: c88 :: c89 :: c90 :: c91 :: c92 :: c93 :: c94 :: c95 :: c96 :: c97 :: c98 :: c99 :: u100 :: u101 :: u102 :: u103 :: u104 :: u105 :: u106 :: u107 :: u108 :: u109 :: u110 :: u111 :: u112 :: u113 :: u114 :: u115 :: u116 :: u117 :: u118 :: u119 :: u120 :: u121 :: u122 :: u123 :: u124 :: u125 :: u126 :: u127 :: u128 :: u129 :: u130 :: u131 :: u132 :: u133 :: u134 :: u135 :: u136 :: u137 :: u138 :: u139 :: u140 :: c141 :: c142 :: c143 :: c144 :: c145 :: c146 :: c147 :: c148 :: c149 :: c150 :: c151 :: c152 :: c153 :: c154 :: c155 :: c156 :: c157 :: c158 :: c159 :: c160 :: c161 :: c162 :: c163 :: c164 :: c165 :: c166 :: c167 :: c168 :: c169 :: c170 :: c171 :: c172 :: c173 :: c174 :: c175 :: c176 :: c177 :: c178 :: c179 :: c180 :: c181 :: c182 :: c183 :: c184 :: c185 :: c186 :: c187 :: c188 :: c189 :: c190 :: c191 :: c192 :: c193 :: c194 :: c195 :: c196 :: c197 :: c198 :: c199 :: c200 :: c201 :: c202 :: c203 :: c204 :: c205 :: c206 :: c207 :: c208 :: c209 :: c210 :: c211 :: c212 :: c213 :: c214 :: c215 :: c216 :: c217 :: c218 :: c219 :: c220 :: c221 :: c222 :: c223 :: c224 :: c225 :: c226 :: c227 :: c228 :: c229 :: c230 :: c231 :: c232 :: c233 :: c234 :: c235 :: c236 :: c237 :: c238 :: c239 :: c240 :: c241 :: c242 :: c243 :: c244 :: c245 :: c246 :: c247 :: c248 :: c249 :: c250 :: c251 :: c252 :: c253 :: c254 :: c255 :: c256 :: []), []⟩ w') :
    Code.wp Try.prog (blockAt Try.f109 8) Q ⟨List.toArray (c0 :: c1 :: c2 :: c3 :: c4 :: c5 :: c6 :: c7 :: c8 :: .pointer (some ⟨qw, 0, none⟩) :: c10 :: c11 :: .int .i64 16 :: c13 :: c14 :: c15 :: c16 :: c17 :: c18 :: c19 :: c20 :: c21 :: c22 :: c23 :: c24 :: c25 :: c26 :: c27 :: c28 :: c29 :: c30 :: c31 :: c32 :: c33 :: c34 :: c35 :: c36 :: c37 :: c38 :: c39 :: c40 :: c41 :: c42 :: c43 :: c44 :: c45 :: c46 :: c47 :: c48 :: c49 :: c50 :: c51 :: c52 :: c53 :: c54 :: c55 :: c56 :: c57 :: c58 :: c59 :: c60 :: c61 :: c62 :: c63 :: c64 :: c65 :: c66 :: c67 :: c68 :: c69 :: c70 :: c71 :: c72 :: c73 :: c74 :: c75 :: c76 :: c77 :: c78 :: c79 :: c80 :: c81 :: c82 :: c83 :: c84 :: c85 :: c86 :: c87 :: c88 :: c89 :: c90 :: c91 :: c92 :: c93 :: c94 :: c95 :: c96 :: c97 :: c98 :: c99 :: c100 :: c101 :: c102 :: c103 :: c104 :: c105 :: c106 :: c107 :: c108 :: c109 :: c110 :: c111 :: c112 :: c113 :: c114 :: c115 :: c116 :: c117 :: c118 :: c119 :: c120 :: c121 :: c122 :: c123 :: c124 :: c125 :: c126 :: c127 :: c128 :: c129 :: c130 :: c131 :: c132 :: c133 :: c134 :: c135 :: c136 :: c137 :: c138 :: c139 :: c140 :: c141 :: c142 :: c143 :: c144 :: c145 :: c146 :: c147 :: c148 :: c149 :: c150 :: c151 :: c152 :: c153 :: c154 :: c155 :: c156 :: c157 :: c158 :: c159 :: c160 :: c161 :: c162 :: c163 :: c164 :: c165 :: c166 :: c167 :: c168 :: c169 :: c170 :: c171 :: c172 :: c173 :: c174 :: c175 :: c176 :: c177 :: c178 :: c179 :: c180 :: c181 :: c182 :: c183 :: c184 :: c185 :: c186 :: c187 :: c188 :: c189 :: c190 :: c191 :: c192 :: c193 :: c194 :: c195 :: c196 :: c197 :: c198 :: c199 :: c200 :: c201 :: c202 :: c203 :: c204 :: c205 :: c206 :: c207 :: c208 :: c209 :: c210 :: c211 :: c212 :: c213 :: c214 :: c215 :: c216 :: c217 :: c218 :: c219 :: c220 :: c221 :: c222 :: c223 :: c224 :: c225 :: c226 :: c227 :: c228 :: c229 :: c230 :: c231 :: c232 :: c233 :: c234 :: c235 :: c236 :: c237 :: c238 :: c239 :: c240 :: c241 :: c242 :: c243 :: c244 :: c245 :: c246 :: c247 :: c248 :: c249 :: c250 :: c251 :: c252 :: c253 :: c254 :: c255 :: c256 :: []), []⟩ w2 := by
  conv => arg 2; whnf
  refine wp_block ?_
  go_loopw [12] (fun vi wr => ∃ i : Nat, vi = .int .i64 (i : Int) ∧ 16 ≤ i ∧ i ≤ 64 ∧ Own wr 143 1 (some ⟨qw, 0, none⟩) 64 64 (arr (wOf l i)) ∧ Keep [qw] w2 wr) (fun vi _ => 64 - (intOf vi).toNat)
  case atStart => exact ⟨16, by simp, by omega, by omega, oz, Keep.refl _ _⟩
  case round =>
    clear oz
    obtain ⟨i, rfl, hi16, hi, oi, hB3⟩ := hrel
    have hWl := wOf_len l i
    by_cases h64 : i < 64
    · have hWlt := wOf_lt l i
      obtain ⟨g', off', eg, hca⟩ := oi.sl.hat (by omega)
      cases eg
      have ha : ∀ j, j < i → ∀ n : KW [] tt wr, n.w.cell? ⟨qw, j, none⟩ = some (.int .u32 (((wOf l i).getD j 0 : Nat) : Int)) := fun j hj => KW.cell (fp := []) (p0 := tt) (by have := hca.at (arr_at (wOf l i) j (by omega)); rwa [Nat.zero_add] at this) (by simp)
      have hltW : ∀ j, (wOf l i).getD j 0 < 4294967296 := W32.getD hWlt
      have a16 := ha (i - 16) (by omega)
      have a15 := ha (i - 15) (by omega)
      have a7 := ha (i - 7) (by omega)
      have a2 := ha (i - 2) (by omega)
      have l16 := hltW (i - 16)
      have l15 := hltW (i - 15)
      have l7 := hltW (i - 7)
      have l2 := hltW (i - 2)
      have hwn : wNew l (wOf l i) = ((wOf l i).getD (i - 16) 0 + s0 ((wOf l i).getD (i - 15) 0) + (wOf l i).getD (i - 7) 0 + s1 ((wOf l i).getD (i - 2) 0)) % 4294967296 := by
        unfold wNew; rw [hWl, if_neg (by omega)]
      obtain ⟨y16, e0⟩ : ∃ y, y = (wOf l i).getD (i - 16) 0 := ⟨_, rfl⟩
      obtain ⟨y15, e1⟩ : ∃ y, y = (wOf l i).getD (i - 15) 0 := ⟨_, rfl⟩
      obtain ⟨y7, e2⟩ : ∃ y, y = (wOf l i).getD (i - 7) 0 := ⟨_, rfl⟩
      obtain ⟨y2, e3⟩ : ∃ y, y = (wOf l i).getD (i - 2) 0 := ⟨_, rfl⟩
      rw [← e0] at a16 l16 hwn
      rw [← e1] at a15 l15 hwn
      rw [← e2] at a7 l7 hwn
      rw [← e3] at a2 l2 hwn
      have Hwn := Lib.hid hwn
      clear e0 e1 e2 e3 ha hltW hwn hca hWlt
      have r1 := turnC y15 7 l15 (by decide)
      have r2 := turnC y15 18 l15 (by decide)
      have r3 := turnC y2 17 l2 (by decide)
      have r4 := turnC y2 19 l2 (by decide)
      have q1 := rotr_lt y15 7 l15
      have q2 := rotr_lt y15 18 l15
      have q3 := rotr_lt y2 17 l2
      have q4 := rotr_lt y2 19 l2
      have v0 : bits BinOp.xor IntKind.u32 (bits BinOp.xor IntKind.u32 ((rotr y15 7 : Nat) : Int) ((rotr y15 18 : Nat) : Int)) ((y15 : Int) / 8) = ((s0 y15 : Nat) : Int) := by
        rw [show (y15 : Int) / 8 = ((y15 / 8 : Nat) : Int) by simp, xor3_val _ _ _ q1 q2 (by omega)]; rfl
      have v1 : bits BinOp.xor IntKind.u32 (bits BinOp.xor IntKind.u32 ((rotr y2 17 : Nat) : Int) ((rotr y2 19 : Nat) : Int)) ((y2 : Int) / 1024) = ((s1 y2 : Nat) : Int) := by
        rw [show (y2 : Int) / 1024 = ((y2 / 1024 : Nat) : Int) by simp, xor3_val _ _ _ q3 q4 (by omega)]; rfl
      have t0 := s0_lt l15
      have t1 := s1_lt l2
      go_upto_region 21 with (fail)
      refine wp_region_R (segL wr) (by kernel_rfl) segL_drew ?_
      unfold segL segK segR
      repeat (first | (refine wpV_skp rfl rfl ?_; simp only [List.set_cons_succ, List.set_cons_zero]) | (refine wpV_look rfl rfl rfl rfl rfl (fun K hK => ?_); go_big_quiet_op; refine hK _ ?_; clear hK K))
      refine wpV_nil ?_
      intro w5 hC _
      obtain ⟨⟨w5, hk5, -⟩, rfl⟩ := hC
      have oi5 := oi.keep hk5 (by simp)
      have hB5 := hB3.trans (Keep.of_nil hk5)
      have A16 : ∀ n : KW [] tt w5, n.w.cell? ⟨qw, i - 16, none⟩ = some (.int .u32 (y16 : Int)) := fun n => a16 ⟨n.w, hk5.trans n.h, trivial⟩
      have A7 : ∀ n : KW [] tt w5, n.w.cell? ⟨qw, i - 7, none⟩ = some (.int .u32 (y7 : Int)) := fun n => a7 ⟨n.w, hk5.trans n.h, trivial⟩
      clear oi hB3 hk5 a16 a7 a15 a2
      go_wp2_with fail
      let V : Nat → Array Value → Value → World → Prop := fun i _ v _ => (i = 6 → v = .int .u32 ((rotr y15 7 : Nat) : Int)) ∧ (i = 8 → v = .int .u32 ((rotr y15 18 : Nat) : Int)) ∧ (i = 20 → v = .int .u32 ((rotr y2 17 : Nat) : Int)) ∧ (i = 22 → v = .int .u32 ((rotr y2 19 : Nat) : Int))
      refine wp_region_R (segK [] w5 [6, 8, 20, 22] V (fun _ _ _ _ _ _ h => h)) (by kernel_rfl) segK_drew ?_
      unfold segK segR
      repeat (first | (refine wpV_skp rfl rfl ?_; simp only [List.set_cons_succ, List.set_cons_zero]) | (refine wpV_look rfl rfl rfl rfl rfl (fun K hK => ?_); go_big_quiet_op; refine hK _ ?_; clear hK K))
      refine wpV_mk rfl rfl rfl [] rfl (fun vs w7 hC _ => yields_call (by kernel_rfl) ?_) (fun vs v w7 hC hV hF => ?_)
      · obtain ⟨⟨w7, hk, -⟩, rfl⟩ := hC
        exact r1 w7 _ (fun w8 g8 => ⟨_, rfl, ⟨Keep.of_grow [] g8, trivial⟩, by simp [V]⟩)
      obtain rfl := hV.1 rfl
      clear hV hC hF w7
      simp only [List.set_cons_succ, List.set_cons_zero]
      repeat (first | (refine wpV_skp rfl rfl ?_; simp only [List.set_cons_succ, List.set_cons_zero]) | (refine wpV_look rfl rfl rfl rfl rfl (fun K hK => ?_); go_big_quiet_op; refine hK _ ?_; clear hK K))
      refine wpV_mk rfl rfl rfl [] rfl (fun vs w7 hC _ => yields_call (by kernel_rfl) ?_) (fun vs v w7 hC hV hF => ?_)
      · obtain ⟨⟨w7, hk, -⟩, rfl⟩ := hC
        exact r2 w7 _ (fun w8 g8 => ⟨_, rfl, ⟨Keep.of_grow [] g8, trivial⟩, by simp [V]⟩)
      obtain rfl := hV.2.1 rfl
      clear hV hC hF w7
      simp only [List.set_cons_succ, List.set_cons_zero]
      repeat (first | (refine wpV_skp rfl rfl ?_; simp only [List.set_cons_succ, List.set_cons_zero]) | (refine wpV_look rfl rfl rfl rfl rfl (fun K hK => ?_); go_big_quiet_op; refine hK _ ?_; clear hK K))
      refine wpV_mk rfl rfl rfl [] rfl (fun vs w7 hC _ => yields_call (by kernel_rfl) ?_) (fun vs v w7 hC hV hF => ?_)
      · obtain ⟨⟨w7, hk, -⟩, rfl⟩ := hC
        exact r3 w7 _ (fun w8 g8 => ⟨_, rfl, ⟨Keep.of_grow [] g8, trivial⟩, by simp [V]⟩)
      obtain rfl := hV.2.2.1 rfl
      clear hV hC hF w7
      simp only [List.set_cons_succ, List.set_cons_zero]
      repeat (first | (refine wpV_skp rfl rfl ?_; simp only [List.set_cons_succ, List.set_cons_zero]) | (refine wpV_look rfl rfl rfl rfl rfl (fun K hK => ?_); go_big_quiet_op; refine hK _ ?_; clear hK K))
      refine wpV_mk rfl rfl rfl [] rfl (fun vs w7 hC _ => yields_call (by kernel_rfl) ?_) (fun vs v w7 hC hV hF => ?_)
      · obtain ⟨⟨w7, hk, -⟩, rfl⟩ := hC
        exact r4 w7 _ (fun w8 g8 => ⟨_, rfl, ⟨Keep.of_grow [] g8, trivial⟩, by simp [V]⟩)
      obtain rfl := hV.2.2.2 rfl
      clear hV hC hF w7
      simp only [List.set_cons_succ, List.set_cons_zero]
      repeat (first | (refine wpV_skp rfl rfl ?_; simp only [List.set_cons_succ, List.set_cons_zero]) | (refine wpV_look rfl rfl rfl rfl rfl (fun K hK => ?_); go_big_quiet_op; refine hK _ ?_; clear hK K))
      refine wpV_end0 rfl rfl (by kernel_rfl) (fun w6 hC hF => ?_)
      obtain ⟨⟨w6, hk6, -⟩, rfl⟩ := hC
      clear hF A16 A7 r1 r2 r3 r4
      have o6 := oi5.keep hk6 (by simp)
      obtain ⟨g3, v, eg, hv, hfz, -⟩ := own_put o6 (i := i) (by omega)
      cases eg
      unfold yields
      go_simp
      simp only [yUpon]
      have hB6 := fun u : Value => (hB5.trans (Keep.of_nil hk6)).trans (Keep.setCell (fp := [qw]) w6 ⟨qw, i, none⟩ (by simp) u)
      have hn := put_next o6 (by omega : (wOf l i).length < 64)
      rw [hWl] at hn
      clear hv hfz o6 oi5 hB5
      go_wp2_with fail
      go_roundw
      case rel =>
        refine ⟨i + 1, by go_num, by omega, by omega, ?_, hB6 _⟩
        simp only [wOf]
        rw [Hwn.out]
        exact hn _ _ (by omega)
      case measure => simp [intOf]; omega
    · obtain rfl : i = 64 := by omega
      go_wp2_with fail
      exact hQ _ oi hB3
end Go.Proofs.Ytfmnkcmicbnfdaa
