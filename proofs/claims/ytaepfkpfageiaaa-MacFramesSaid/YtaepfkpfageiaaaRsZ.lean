/- The document's sum: a turn's end: the eight numbers anew. -/
import Derived.Test.YtaepfkpfageiaaaShaK
import Derived.Test.YtaepfkpfageiaaaShaD
import Derived.Test.YtaepfkpfageiaaaBlk
namespace Go.Proofs.Ytaepfkpfageiaaa
open Go Go.RowKit


set_option maxRecDepth 100000 in
set_option maxHeartbeats 400000 in
theorem rS30 (qv T1 T2 X1 X5 sa sb sc sd se sf sg sh : Nat) {c0 c1 c2 c3 c4 c5 c6 c7 c8 c9 c10 c11 c12 c13 c14 c16 c17 c18 c21 c22 c23 c24 c25 c26 c27 c28 c29 c30 c31 c32 c33 c34 c35 c36 c37 c38 c39 c40 c41 c42 c43 c44 c45 c46 c47 c48 c49 c50 c51 c52 c53 c54 c55 c56 c57 c58 c59 c60 c61 c62 c63 c64 c65 c66 c67 c68 c69 c70 c71 c72 c73 c74 c75 c76 c77 c78 c79 c80 c81 c82 c83 c84 c85 c86 c87 c88 c89 c90 c91 c92 c93 c94 c95 c96 c97 c98 c99 c100 c101 c102 c103 c104 c105 c106 c107 c108 c109 c110 c111 c112 c113 c114 c115 c116 c117 c118 c119 c120 c121 c122 c123 c124 c125 c126 c127 c128 c129 c130 c131 c132 c133 c134 c135 c136 c137 c138 c139 c140 c141 c142 c143 c144 c145 c146 c147 c148 c149 c150 c151 c152 c153 c154 c155 c156 c157 c158 c159 c160 c161 c162 c163 c164 c165 c166 c167 c168 c169 c170 c171 c172 c173 c174 c175 c176 c177 c178 c179 c180 c181 c182 c183 c184 c185 c186 c187 c188 c189 c190 c191 c192 c193 c194 c195 c196 c197 c198 c199 c200 c201 c202 c203 c204 c205 c206 c207 c208 c209 c210 c211 c212 c213 c214 c215 c216 c217 c218 c219 c220 c221 c222 c223 c224 c225 c226 c227 c228 c229 c230 c231 c232 c233 c234 c235 c236 c237 c238 c239 c240 c241 c242 c243 c244 c245 c246 c247 c248 c249 c250 c251 c252 c253 c254 c255 c256 : Value} (w : World) (e2 : Hid (((T1 : Int) + (T2 : Int)) % 4294967296 = (X1 : Int))) (e3 : Hid (((sd : Int) + (T1 : Int)) % 4294967296 = (X5 : Int)))
    (oV : Own w 77 1 (some ⟨qv, 0, none⟩) 8 8 ([sa, sb, sc, sd, se, sf, sg, sh].map U)) {Q : Exit → Act → World → Prop}
    (_b1 : T1 < 4294967296) (_b2 : T2 < 4294967296) (_b3 : sd < 4294967296)
    (hQ : ∀ (w' : World), Own w' 77 1 (some ⟨qv, 0, none⟩) 8 8 ([X1, sa, sb, sc, X5, se, sf, sg].map U) → Keep [qv] w w' → ∀ {u207 u208 u209 u210 u211 u212 u213 u214 u215 u216 u217 u218 u219 u220 u221 u222 u223 u224 u225 u226 : Value}, Q .normal ⟨List.toArray (c0 :: c1 :: c2 :: c3 :: c4 :: c5 :: c6 :: c7 :: c8 :: c9 :: c10 :: c11 :: c12 :: c13 :: c14 :: .pointer (some ⟨qv, 0, none⟩) :: c16 :: c17 :: c18 :: .int .u32 (T1 : Int) :: .int .u32 (T2 : Int) :: c21 :: c22 :: c23 :: c24 :: c25 :: c26 :: c27 :: c28 :: c29 :: c30 :: c31 :: c32 :: c33 :: c34 :: c35 :: c36 :: c37 :: c38 :: c39 :: c40 :: c41 :: c42 :: c43 :: c44 :: c45 :: c46 :: c47 :: c48 :: c49 :: c50 :: c51 :: c52 :: c53 :: c54 :: c55 :: c56 :: c57 :: c58 :: c59 :: c60 :: c61 :: c62 :: c63 :: c64 :: c65 :: c66 :: c67 :: c68 :: c69 :: c70 :: c71 :: c72 :: c73 :: c74 :: c75 :: c76 :: c77 :: c78 :: c79 :: c80 :: c81 :: c82 :: c83 :: c84 :: c85 :: c86 :: c87 :: c88 :: c89 :: c90 :: c91 :: c92 :: c93 :: c94 :: c95 :: c96 :: c97 :: c98 :: c99 :: c100 :: c101 :: c102 :: c103 :: c104 :: c105 :: c106 :: c107 :: c108 :: c109 :: c110 :: c111 :: c112 :: c113 :: c114 :: c115 :: c116 :: c117 :: c118 :: c119 :: c120 :: c121 :: c122 :: c123 :: c124 :: c125 :: c126 :: c127 :: c128 :: c129 :: c130 :: c131 :: c132 :: c133 :: c134 :: c135 :: c136 :: c137 :: c138 :: c139 :: c140 :: c141 :: c142 :: c143 :: c144 :: c145 :: c146 :: c147 :: c148 :: c149 :: c150 :: c151 :: c152 :: c153 :: c154 :: c155 :: c156 :: c157 :: c158 :: c159 :: c160 :: c161 :: c162 :: c163 :: c164 :: c165 :: c166 :: c167 :: c168 :: c169 :: c170 :: c171 :: c172 :: c173 :: c174 :: c175 :: c176 :: c177 :: c178 :: c179 :: c180 :: c181 :: c182 :: c183 :: c184 :: c185 :: c186 :: c187 :: c188 :: c189 :: c190 :: c191 :: c192 :: c193 :: c194 :: c195 :: c196 :: c197 :: c198 :: c199 :: c200 :: c201 :: c202 :: c203 :: c204 :: c205 :: c206 :: u207 :: u208 :: u209 :: u210 :: u211 :: u212 :: u213 :: u214 :: u215 :: u216 :: u217 :: u218 :: u219 :: u220 :: u221 :: u222 :: u223 :: u224 :: u225 :: u226 :: c227 :: c228 :: c229 :: c230 :: c231 :: c232 :: c233 :: c234 :: c235 :: c236 :: c237 :: c238 :: c239 :: c240 :: c241 :: c242 :: c243 :: c244 :: c245 :: c246 :: c247 :: c248 :: c249 :: c250 :: c251 :: c252 :: c253 :: c254 :: c255 :: c256 :: []), []⟩ w') :
    Code.wp Try.prog (regionAt Try.f33 30) Q ⟨List.toArray (c0 :: c1 :: c2 :: c3 :: c4 :: c5 :: c6 :: c7 :: c8 :: c9 :: c10 :: c11 :: c12 :: c13 :: c14 :: .pointer (some ⟨qv, 0, none⟩) :: c16 :: c17 :: c18 :: .int .u32 (T1 : Int) :: .int .u32 (T2 : Int) :: c21 :: c22 :: c23 :: c24 :: c25 :: c26 :: c27 :: c28 :: c29 :: c30 :: c31 :: c32 :: c33 :: c34 :: c35 :: c36 :: c37 :: c38 :: c39 :: c40 :: c41 :: c42 :: c43 :: c44 :: c45 :: c46 :: c47 :: c48 :: c49 :: c50 :: c51 :: c52 :: c53 :: c54 :: c55 :: c56 :: c57 :: c58 :: c59 :: c60 :: c61 :: c62 :: c63 :: c64 :: c65 :: c66 :: c67 :: c68 :: c69 :: c70 :: c71 :: c72 :: c73 :: c74 :: c75 :: c76 :: c77 :: c78 :: c79 :: c80 :: c81 :: c82 :: c83 :: c84 :: c85 :: c86 :: c87 :: c88 :: c89 :: c90 :: c91 :: c92 :: c93 :: c94 :: c95 :: c96 :: c97 :: c98 :: c99 :: c100 :: c101 :: c102 :: c103 :: c104 :: c105 :: c106 :: c107 :: c108 :: c109 :: c110 :: c111 :: c112 :: c113 :: c114 :: c115 :: c116 :: c117 :: c118 :: c119 :: c120 :: c121 :: c122 :: c123 :: c124 :: c125 :: c126 :: c127 :: c128 :: c129 :: c130 :: c131 :: c132 :: c133 :: c134 :: c135 :: c136 :: c137 :: c138 :: c139 :: c140 :: c141 :: c142 :: c143 :: c144 :: c145 :: c146 :: c147 :: c148 :: c149 :: c150 :: c151 :: c152 :: c153 :: c154 :: c155 :: c156 :: c157 :: c158 :: c159 :: c160 :: c161 :: c162 :: c163 :: c164 :: c165 :: c166 :: c167 :: c168 :: c169 :: c170 :: c171 :: c172 :: c173 :: c174 :: c175 :: c176 :: c177 :: c178 :: c179 :: c180 :: c181 :: c182 :: c183 :: c184 :: c185 :: c186 :: c187 :: c188 :: c189 :: c190 :: c191 :: c192 :: c193 :: c194 :: c195 :: c196 :: c197 :: c198 :: c199 :: c200 :: c201 :: c202 :: c203 :: c204 :: c205 :: c206 :: c207 :: c208 :: c209 :: c210 :: c211 :: c212 :: c213 :: c214 :: c215 :: c216 :: c217 :: c218 :: c219 :: c220 :: c221 :: c222 :: c223 :: c224 :: c225 :: c226 :: c227 :: c228 :: c229 :: c230 :: c231 :: c232 :: c233 :: c234 :: c235 :: c236 :: c237 :: c238 :: c239 :: c240 :: c241 :: c242 :: c243 :: c244 :: c245 :: c246 :: c247 :: c248 :: c249 :: c250 :: c251 :: c252 :: c253 :: c254 :: c255 :: c256 :: []), []⟩ w := by
  have i8 : (Try.prog.info? 77).map (·.size) = some 8 := by kernel_rfl
  obtain ⟨g', off', eg, hcV⟩ := oV.sl.hat (by simp)
  cases eg
  have hv := fun j x (hj : ([sa, sb, sc, sd, se, sf, sg, sh].map U)[j]? = some (U x)) => (by have := hcV.at hj; rwa [Nat.zero_add] at this : w.cell? ⟨qv, j, none⟩ = some (U x))
  have m0 := hv 0 sa rfl
  have m1 := hv 1 sb rfl
  have m2 := hv 2 sc rfl
  have m3 := hv 3 sd rfl
  have m4 := hv 4 se rfl
  have m5 := hv 5 sf rfl
  have m6 := hv 6 sg rfl
  simp only [U] at m0 m1 m2 m3 m4 m5 m6
  clear hcV hv
  obtain ⟨-, v2, v3⟩ := store_words (P := Try.prog) (X := [X1, sa, sb, sc, X5, se, sf, sg]) rfl oV i8
  have hth := own_there oV ([X1, sa, sb, sc, X5, se, sf, sg].map U).toArray.size rfl
  have hall := one_all (oneU [X1, sa, sb, sc, X5, se, sf, sg])
  clear oV
  have hvs : ([X1, sa, sb, sc, X5, se, sf, sg].map U) = [.int .u32 (((T1 : Int) + (T2 : Int)) % 4294967296), .int .u32 (sa : Int), .int .u32 (sb : Int), .int .u32 (sc : Int), .int .u32 (((sd : Int) + (T1 : Int)) % 4294967296), .int .u32 (se : Int), .int .u32 (sf : Int), .int .u32 (sg : Int)] := by
    rw [e2.out, e3.out]; rfl
  have hbt : Try.prog.built 77 [(0, .int .u32 (((T1 : Int) + (T2 : Int)) % 4294967296)), (1, .int .u32 (sa : Int)), (2, .int .u32 (sb : Int)), (3, .int .u32 (sc : Int)), (4, .int .u32 (((sd : Int) + (T1 : Int)) % 4294967296)), (5, .int .u32 (se : Int)), (6, .int .u32 (sf : Int)), (7, .int .u32 (sg : Int))] = some ([X1, sa, sb, sc, X5, se, sf, sg].map U).toArray := by
    rw [hvs]; kernel_rfl
  generalize hvx : ([X1, sa, sb, sc, X5, se, sf, sg].map U) = vsx at *
  have hvl : vsx.length = 8 := by rw [← hvx]; rfl
  have hsz : (Try.prog.info? 77).map (·.size) = some vsx.toArray.size := by rw [List.size_toArray, hvl]; exact i8
  have hall2 := Lib.hid hall
  have hbt2 := Lib.hid hbt
  clear hvs hall hvl hbt hvx e2 e3
  conv => arg 2; whnf
  iterate 58 go_step
  refine wpList_built rfl 77 [(0, .tmp 209), (1, .tmp 211), (2, .tmp 213), (3, .tmp 215), (4, .tmp 219), (5, .tmp 221), (6, .tmp 223), (7, .tmp 225)] rfl rfl hbt2.out ?_
  refine wpList_store_mid rfl 77 _ _ rfl qv 0 vsx.toArray rfl rfl hth hsz hall2.out ?_
  refine wpList_nil ?_
  exact hQ _ v2 v3
end Go.Proofs.Ytaepfkpfageiaaa
