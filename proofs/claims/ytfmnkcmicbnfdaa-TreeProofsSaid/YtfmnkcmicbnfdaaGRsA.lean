/- The document's sum: a turn's end: the eight numbers anew. · The document's sum: the 64 turns of a block. -/
import Derived.Test.YtfmnkcmicbnfdaaShaK
import Derived.Test.YtfmnkcmicbnfdaaGSha1
import Derived.Test.YtfmnkcmicbnfdaaGMem

namespace Go.Proofs.Ytfmnkcmicbnfdaa
open Go Go.RowKit


set_option maxRecDepth 100000 in
set_option maxHeartbeats 400000 in
theorem rS30 (qv T1 T2 X1 X5 sa sb sc sd se sf sg sh : Nat) {c0 c1 c2 c3 c4 c5 c6 c7 c8 c9 c10 c11 c12 c13 c14 c16 c17 c18 c21 c22 c23 c24 c25 c26 c27 c28 c29 c30 c31 c32 c33 c34 c35 c36 c37 c38 c39 c40 c41 c42 c43 c44 c45 c46 c47 c48 c49 c50 c51 c52 c53 c54 c55 c56 c57 c58 c59 c60 c61 c62 c63 c64 c65 c66 c67 c68 c69 c70 c71 c72 c73 c74 c75 c76 c77 c78 c79 c80 c81 c82 c83 c84 c85 c86 c87 c88 c89 c90 c91 c92 c93 c94 c95 c96 c97 c98 c99 c100 c101 c102 c103 c104 c105 c106 c107 c108 c109 c110 c111 c112 c113 c114 c115 c116 c117 c118 c119 c120 c121 c122 c123 c124 c125 c126 c127 c128 c129 c130 c131 c132 c133 c134 c135 c136 c137 c138 c139 c140 c141 c142 c143 c144 c145 c146 c147 c148 c149 c150 c151 c152 c153 c154 c155 c156 c157 c158 c159 c160 c161 c162 c163 c164 c165 c166 c167 c168 c169 c170 c171 c172 c173 c174 c175 c176 c177 c178 c179 c180 c181 c182 c183 c184 c185 c186 c187 c188 c189 c190 c191 c192 c193 c194 c195 c196 c197 c198 c199 c200 c201 c202 c203 c204 c205 c206 c207 c208 c209 c210 c211 c212 c213 c214 c215 c216 c217 c218 c219 c220 c221 c222 c223 c224 c225 c226 c227 c228 c229 c230 c231 c232 c233 c234 c235 c236 c237 c238 c239 c240 c241 c242 c243 c244 c245 c246 c247 c248 c249 c250 c251 c252 c253 c254 c255 c256 : Value} (w : World) (e2 : Hid (((T1 : Int) + (T2 : Int)) % 4294967296 = (X1 : Int))) (e3 : Hid (((sd : Int) + (T1 : Int)) % 4294967296 = (X5 : Int)))
    (oV : Own w 141 1 (some ⟨qv, 0, none⟩) 8 8 ([sa, sb, sc, sd, se, sf, sg, sh].map U)) {Q : Exit → Act → World → Prop}
    (_b1 : T1 < 4294967296) (_b2 : T2 < 4294967296) (_b3 : sd < 4294967296)
    (hQ : ∀ (w' : World), Own w' 141 1 (some ⟨qv, 0, none⟩) 8 8 ([X1, sa, sb, sc, X5, se, sf, sg].map U) → Keep [qv] w w' → ∀ {u207 u208 u209 u210 u211 u212 u213 u214 u215 u216 u217 u218 u219 u220 u221 u222 u223 u224 u225 u226 : Value}, Q .normal ⟨List.toArray (c0 :: c1 :: c2 :: c3 :: c4 :: c5 :: c6 :: c7 :: c8 :: c9 :: c10 :: c11 :: c12 :: c13 :: c14 :: .pointer (some ⟨qv, 0, none⟩) :: c16 :: c17 :: c18 :: .int .u32 (T1 : Int) :: .int .u32 (T2 : Int) :: c21 :: c22 :: c23 :: c24 :: c25 :: c26 :: c27 :: c28 :: c29 :: c30 :: c31 :: c32 :: c33 :: c34 :: c35 :: c36 :: c37 :: c38 :: c39 :: c40 :: c41 :: c42 :: c43 :: c44 :: c45 :: c46 :: c47 :: c48 :: c49 :: c50 :: c51 :: c52 :: c53 :: c54 :: c55 :: c56 :: c57 :: c58 :: c59 :: c60 :: c61 :: c62 :: c63 :: c64 :: c65 :: c66 :: c67 :: c68 :: c69 :: c70 :: c71 :: c72 :: c73 :: c74 :: c75 :: c76 :: c77 :: c78 :: c79 :: c80 :: c81 :: c82 :: c83 :: c84 :: c85 :: c86 :: c87 :: c88 :: c89 :: c90 :: c91 :: c92 :: c93 :: c94 :: c95 :: c96 :: c97 :: c98 :: c99 :: c100 :: c101 :: c102 :: c103 :: c104 :: c105 :: c106 :: c107 :: c108 :: c109 :: c110 :: c111 :: c112 :: c113 :: c114 :: c115 :: c116 :: c117 :: c118 :: c119 :: c120 :: c121 :: c122 :: c123 :: c124 :: c125 :: c126 :: c127 :: c128 :: c129 :: c130 :: c131 :: c132 :: c133 :: c134 :: c135 :: c136 :: c137 :: c138 :: c139 :: c140 :: c141 :: c142 :: c143 :: c144 :: c145 :: c146 :: c147 :: c148 :: c149 :: c150 :: c151 :: c152 :: c153 :: c154 :: c155 :: c156 :: c157 :: c158 :: c159 :: c160 :: c161 :: c162 :: c163 :: c164 :: c165 :: c166 :: c167 :: c168 :: c169 :: c170 :: c171 :: c172 :: c173 :: c174 :: c175 :: c176 :: c177 :: c178 :: c179 :: c180 :: c181 :: c182 :: c183 :: c184 :: c185 :: c186 :: c187 :: c188 :: c189 :: c190 :: c191 :: c192 :: c193 :: c194 :: c195 :: c196 :: c197 :: c198 :: c199 :: c200 :: c201 :: c202 :: c203 :: c204 :: c205 :: c206 :: u207 :: u208 :: u209 :: u210 :: u211 :: u212 :: u213 :: u214 :: u215 :: u216 :: u217 :: u218 :: u219 :: u220 :: u221 :: u222 :: u223 :: u224 :: u225 :: u226 :: c227 :: c228 :: c229 :: c230 :: c231 :: c232 :: c233 :: c234 :: c235 :: c236 :: c237 :: c238 :: c239 :: c240 :: c241 :: c242 :: c243 :: c244 :: c245 :: c246 :: c247 :: c248 :: c249 :: c250 :: c251 :: c252 :: c253 :: c254 :: c255 :: c256 :: []), []⟩ w') :
    Code.wp Try.prog (regionAt Try.f109 30) Q ⟨List.toArray (c0 :: c1 :: c2 :: c3 :: c4 :: c5 :: c6 :: c7 :: c8 :: c9 :: c10 :: c11 :: c12 :: c13 :: c14 :: .pointer (some ⟨qv, 0, none⟩) :: c16 :: c17 :: c18 :: .int .u32 (T1 : Int) :: .int .u32 (T2 : Int) :: c21 :: c22 :: c23 :: c24 :: c25 :: c26 :: c27 :: c28 :: c29 :: c30 :: c31 :: c32 :: c33 :: c34 :: c35 :: c36 :: c37 :: c38 :: c39 :: c40 :: c41 :: c42 :: c43 :: c44 :: c45 :: c46 :: c47 :: c48 :: c49 :: c50 :: c51 :: c52 :: c53 :: c54 :: c55 :: c56 :: c57 :: c58 :: c59 :: c60 :: c61 :: c62 :: c63 :: c64 :: c65 :: c66 :: c67 :: c68 :: c69 :: c70 :: c71 :: c72 :: c73 :: c74 :: c75 :: c76 :: c77 :: c78 :: c79 :: c80 :: c81 :: c82 :: c83 :: c84 :: c85 :: c86 :: c87 :: c88 :: c89 :: c90 :: c91 :: c92 :: c93 :: c94 :: c95 :: c96 :: c97 :: c98 :: c99 :: c100 :: c101 :: c102 :: c103 :: c104 :: c105 :: c106 :: c107 :: c108 :: c109 :: c110 :: c111 :: c112 :: c113 :: c114 :: c115 :: c116 :: c117 :: c118 :: c119 :: c120 :: c121 :: c122 :: c123 :: c124 :: c125 :: c126 :: c127 :: c128 :: c129 :: c130 :: c131 :: c132 :: c133 :: c134 :: c135 :: c136 :: c137 :: c138 :: c139 :: c140 :: c141 :: c142 :: c143 :: c144 :: c145 :: c146 :: c147 :: c148 :: c149 :: c150 :: c151 :: c152 :: c153 :: c154 :: c155 :: c156 :: c157 :: c158 :: c159 :: c160 :: c161 :: c162 :: c163 :: c164 :: c165 :: c166 :: c167 :: c168 :: c169 :: c170 :: c171 :: c172 :: c173 :: c174 :: c175 :: c176 :: c177 :: c178 :: c179 :: c180 :: c181 :: c182 :: c183 :: c184 :: c185 :: c186 :: c187 :: c188 :: c189 :: c190 :: c191 :: c192 :: c193 :: c194 :: c195 :: c196 :: c197 :: c198 :: c199 :: c200 :: c201 :: c202 :: c203 :: c204 :: c205 :: c206 :: c207 :: c208 :: c209 :: c210 :: c211 :: c212 :: c213 :: c214 :: c215 :: c216 :: c217 :: c218 :: c219 :: c220 :: c221 :: c222 :: c223 :: c224 :: c225 :: c226 :: c227 :: c228 :: c229 :: c230 :: c231 :: c232 :: c233 :: c234 :: c235 :: c236 :: c237 :: c238 :: c239 :: c240 :: c241 :: c242 :: c243 :: c244 :: c245 :: c246 :: c247 :: c248 :: c249 :: c250 :: c251 :: c252 :: c253 :: c254 :: c255 :: c256 :: []), []⟩ w := by
  have i8 : (Try.prog.info? 141).map (·.size) = some 8 := by kernel_rfl
  obtain ⟨g', off', eg, hcV⟩ := oV.sl.hat (by simp)
  cases eg
  have hv := fun j x (hj : ([sa, sb, sc, sd, se, sf, sg, sh].map U)[j]? = some (U x)) => (by have := hcV.at hj; rwa [Nat.zero_add] at this : w.cell? ⟨qv, j, none⟩ = some (U x))
  have m0 := hv 0 sa rfl
  have m1 := hv 1 sb rfl
  have m2 := hv 2 sc rfl
  have m3 := hv 3 sd rfl
  have m4 := hv 4 se rfl
  have m5 := hv 5 sf rfl
  have m6 := hv 6 sg rfl
  simp only [U] at m0 m1 m2 m3 m4 m5 m6
  clear hcV hv
  obtain ⟨-, v2, v3⟩ := store_words (P := Try.prog) (X := [X1, sa, sb, sc, X5, se, sf, sg]) rfl oV i8
  have hth := own_there oV ([X1, sa, sb, sc, X5, se, sf, sg].map U).toArray.size rfl
  have hall := one_all (oneU [X1, sa, sb, sc, X5, se, sf, sg])
  clear oV
  have hvs : ([X1, sa, sb, sc, X5, se, sf, sg].map U) = [.int .u32 (((T1 : Int) + (T2 : Int)) % 4294967296), .int .u32 (sa : Int), .int .u32 (sb : Int), .int .u32 (sc : Int), .int .u32 (((sd : Int) + (T1 : Int)) % 4294967296), .int .u32 (se : Int), .int .u32 (sf : Int), .int .u32 (sg : Int)] := by
    rw [e2.out, e3.out]; rfl
  have hbt : Try.prog.built 141 [(0, .int .u32 (((T1 : Int) + (T2 : Int)) % 4294967296)), (1, .int .u32 (sa : Int)), (2, .int .u32 (sb : Int)), (3, .int .u32 (sc : Int)), (4, .int .u32 (((sd : Int) + (T1 : Int)) % 4294967296)), (5, .int .u32 (se : Int)), (6, .int .u32 (sf : Int)), (7, .int .u32 (sg : Int))] = some ([X1, sa, sb, sc, X5, se, sf, sg].map U).toArray := by
    rw [hvs]; kernel_rfl
  generalize hvx : ([X1, sa, sb, sc, X5, se, sf, sg].map U) = vsx at *
  have hvl : vsx.length = 8 := by rw [← hvx]; rfl
  have hsz : (Try.prog.info? 141).map (·.size) = some vsx.toArray.size := by rw [List.size_toArray, hvl]; exact i8
  have hall2 := Lib.hid hall
  have hbt2 := Lib.hid hbt
  clear hvs hall hvl hbt hvx e2 e3
  conv => arg 2; whnf
  iterate 58 go_step
  refine wpList_built rfl 141 [(0, .tmp 209), (1, .tmp 211), (2, .tmp 213), (3, .tmp 215), (4, .tmp 219), (5, .tmp 221), (6, .tmp 223), (7, .tmp 225)] rfl rfl hbt2.out ?_
  refine wpList_store_mid rfl 141 _ _ rfl qv 0 vsx.toArray rfl rfl hth hsz hall2.out ?_
  refine wpList_nil ?_
  exact hQ _ v2 v3
end Go.Proofs.Ytfmnkcmicbnfdaa

namespace Go.Proofs.Ytfmnkcmicbnfdaa
open Go Go.RowKit


set_option maxRecDepth 100000 in
set_option maxHeartbeats 2000000 in
theorem rS6 (p qw qv : Nat) (H K Wl : List Nat) (st : St) (hst : st.ok) (hWl : Wl.length = 64) (hWlt : ∀ x ∈ Wl, x < 4294967296) {c1 c2 c3 c4 c5 c6 c7 c8 c10 c11 c12 c13 c14 c17 c18 c19 c20 c21 c22 c23 c24 c25 c26 c27 c28 c29 c30 c31 c32 c33 c34 c35 c36 c37 c38 c39 c40 c41 c42 c43 c44 c45 c46 c47 c48 c49 c50 c51 c52 c53 c54 c55 c56 c57 c58 c59 c60 c61 c62 c63 c64 c65 c66 c67 c68 c69 c70 c71 c72 c73 c74 c75 c76 c77 c78 c79 c80 c81 c82 c83 c84 c85 c86 c87 c88 c89 c90 c91 c92 c93 c94 c95 c96 c97 c98 c99 c100 c101 c102 c103 c104 c105 c106 c107 c108 c109 c110 c111 c112 c113 c114 c115 c116 c117 c118 c119 c120 c121 c122 c123 c124 c125 c126 c127 c128 c129 c130 c131 c132 c133 c134 c135 c136 c137 c138 c139 c140 c141 c142 c143 c144 c145 c146 c147 c148 c149 c150 c151 c152 c153 c154 c155 c156 c157 c158 c159 c160 c161 c162 c163 c164 c165 c166 c167 c168 c169 c170 c171 c172 c173 c174 c175 c176 c177 c178 c179 c180 c181 c182 c183 c184 c185 c186 c187 c188 c189 c190 c191 c192 c193 c194 c195 c196 c197 c198 c199 c200 c201 c202 c203 c204 c205 c206 c207 c208 c209 c210 c211 c212 c213 c214 c215 c216 c217 c218 c219 c220 c221 c222 c223 c224 c225 c226 c227 c228 c229 c230 c231 c232 c233 c234 c235 c236 c237 c238 c239 c240 c241 c242 c243 c244 c245 c246 c247 c248 c249 c250 c251 c252 c253 c254 c255 c256 : Value} (w : World) (sm : Sm w p H K) (hpq : p ≠ qv) (hwv : qw ≠ qv)
    (oV0 : Own w 141 1 (some ⟨qv, 0, none⟩) 8 8 (st.list.map U)) (oW0 : Own w 143 1 (some ⟨qw, 0, none⟩) 64 64 (Wl.map U)) {Q : Exit → Act → World → Prop}
    (hQ : ∀ (w' : World), (rds K Wl st 64).ok → Own w' 141 1 (some ⟨qv, 0, none⟩) 8 8 ((rds K Wl st 64).list.map U) → Keep [qv] w w' → ∀ {u16 u17 u18 u19 u20 u142 u143 u144 u145 u146 u147 u148 u149 u150 u151 u152 u153 u154 u155 u156 u157 u158 u159 u160 u161 u162 u163 u164 u165 u166 u167 u168 u169 u170 u171 u172 u173 u174 u175 u176 u177 u178 u179 u180 u181 u182 u183 u184 u185 u186 u187 u188 u189 u190 u191 u192 u193 u194 u195 u196 u197 u198 u199 u200 u201 u202 u203 u204 u205 u206 u207 u208 u209 u210 u211 u212 u213 u214 u215 u216 u217 u218 u219 u220 u221 u222 u223 u224 u225 u226 : Value}, Q .normal ⟨List.toArray (.pointer (some ⟨p, 0, none⟩) :: c1 :: c2 :: c3 :: c4 :: c5 :: c6 :: c7 :: c8 :: .pointer (some ⟨qw, 0, none⟩) :: c10 :: c11 :: c12 :: c13 :: c14 :: .pointer (some ⟨qv, 0, none⟩) :: u16 :: u17 :: u18 :: u19 :: u20 :: c21 :: c22 :: c23 :: c24 :: c25 :: c26 :: c27 :: c28 :: c29 :: c30 :: c31 :: c32 :: c33 :: c34 :: c35 :: c36 :: c37 :: c38 :: c39 :: c40 :: c41 :: c42 :: c43 :: c44 :: c45 :: c46 :: c47 :: c48 :: c49 :: c50 :: c51 :: c52 :: c53 :: c54 :: c55 :: c56 :: c57 :: c58 :: c59 :: c60 :: c61 :: c62 :: c63 :: c64 :: c65 :: c66 :: c67 :: c68 :: c69 :: c70 :: c71 :: c72 :: c73 :: c74 :: c75 :: c76 :: c77 :: c78 :: c79 :: c80 :: c81 :: c82 :: c83 :: c84 :: c85 :: c86 :: c87 :: c88 :: c89 :: c90 :: c91 :: c92 :: c93 :: c94 :: c95 :: c96 :: c97 :: c98 :: c99 :: c100 :: c101 :: c102 :: c103 :: c104 :: c105 :: c106 :: c107 :: c108 :: c109 :: c110 :: c111 :: c112 :: c113 :: c114 :: c115 :: c116 :: c117 :: c118 :: c119 :: c120 :: c121 :: c122 :: c123 :: c124 :: c125 :: c126 :: c127 :: c128 :: c129 :: c130 :: c131 :: c132 :: c133 :: c134 :: c135 :: c136 :: c137 :: c138 :: c139 :: c140 :: c141 :: u142 :: u143 :: u144 :: u145 :: u146 :: u147 :: u148 :: u149 :: u150 :: u151 :: u152 :: u153 :: u154 :: u155 :: u156 :: u157 :: u158 :: u159 :: u160 :: u161 :: u162 :: u163 :: u164 :: u165 :: u166 :: u167 :: u168 :: u169 :: u170 :: u171 :: u172 :: u173 :: u174 :: u175 :: u176 :: u177 :: u178 :: u179 :: u180 :: u181 :: u182 :: u183 :: u184 :: u185 :: u186 :: u187 :: u188 :: u189 :: u190 :: u191 :: u192 :: u193 :: u194 :: u195 :: u196 :: u197 :: u198 :: u199 :: u200 :: u201 :: u202 :: u203 :: u204 :: u205 :: u206 :: u207 :: u208 :: u209 :: u210 :: u211 :: u212 :: u213 :: u214 :: u215 :: u216 :: u217 :: u218 :: u219 :: u220 :: u221 :: u222 :: u223 :: u224 :: u225 :: u226 :: c227 :: c228 :: c229 :: c230 :: c231 :: c232 :: c233 :: c234 :: c235 :: c236 :: c237 :: c238 :: c239 :: c240 :: c241 :: c242 :: c243 :: c244 :: c245 :: c246 :: c247 :: c248 :: c249 :: c250 :: c251 :: c252 :: c253 :: c254 :: c255 :: c256 :: []), []⟩ w') :
    Code.wp Try.prog (blockAt Try.f109 10) Q ⟨List.toArray (.pointer (some ⟨p, 0, none⟩) :: c1 :: c2 :: c3 :: c4 :: c5 :: c6 :: c7 :: c8 :: .pointer (some ⟨qw, 0, none⟩) :: c10 :: c11 :: c12 :: c13 :: c14 :: .pointer (some ⟨qv, 0, none⟩) :: .int .i64 0 :: c17 :: c18 :: c19 :: c20 :: c21 :: c22 :: c23 :: c24 :: c25 :: c26 :: c27 :: c28 :: c29 :: c30 :: c31 :: c32 :: c33 :: c34 :: c35 :: c36 :: c37 :: c38 :: c39 :: c40 :: c41 :: c42 :: c43 :: c44 :: c45 :: c46 :: c47 :: c48 :: c49 :: c50 :: c51 :: c52 :: c53 :: c54 :: c55 :: c56 :: c57 :: c58 :: c59 :: c60 :: c61 :: c62 :: c63 :: c64 :: c65 :: c66 :: c67 :: c68 :: c69 :: c70 :: c71 :: c72 :: c73 :: c74 :: c75 :: c76 :: c77 :: c78 :: c79 :: c80 :: c81 :: c82 :: c83 :: c84 :: c85 :: c86 :: c87 :: c88 :: c89 :: c90 :: c91 :: c92 :: c93 :: c94 :: c95 :: c96 :: c97 :: c98 :: c99 :: c100 :: c101 :: c102 :: c103 :: c104 :: c105 :: c106 :: c107 :: c108 :: c109 :: c110 :: c111 :: c112 :: c113 :: c114 :: c115 :: c116 :: c117 :: c118 :: c119 :: c120 :: c121 :: c122 :: c123 :: c124 :: c125 :: c126 :: c127 :: c128 :: c129 :: c130 :: c131 :: c132 :: c133 :: c134 :: c135 :: c136 :: c137 :: c138 :: c139 :: c140 :: c141 :: c142 :: c143 :: c144 :: c145 :: c146 :: c147 :: c148 :: c149 :: c150 :: c151 :: c152 :: c153 :: c154 :: c155 :: c156 :: c157 :: c158 :: c159 :: c160 :: c161 :: c162 :: c163 :: c164 :: c165 :: c166 :: c167 :: c168 :: c169 :: c170 :: c171 :: c172 :: c173 :: c174 :: c175 :: c176 :: c177 :: c178 :: c179 :: c180 :: c181 :: c182 :: c183 :: c184 :: c185 :: c186 :: c187 :: c188 :: c189 :: c190 :: c191 :: c192 :: c193 :: c194 :: c195 :: c196 :: c197 :: c198 :: c199 :: c200 :: c201 :: c202 :: c203 :: c204 :: c205 :: c206 :: c207 :: c208 :: c209 :: c210 :: c211 :: c212 :: c213 :: c214 :: c215 :: c216 :: c217 :: c218 :: c219 :: c220 :: c221 :: c222 :: c223 :: c224 :: c225 :: c226 :: c227 :: c228 :: c229 :: c230 :: c231 :: c232 :: c233 :: c234 :: c235 :: c236 :: c237 :: c238 :: c239 :: c240 :: c241 :: c242 :: c243 :: c244 :: c245 :: c246 :: c247 :: c248 :: c249 :: c250 :: c251 :: c252 :: c253 :: c254 :: c255 :: c256 :: []), []⟩ w := by
  have i8 : (Try.prog.info? 141).map (·.size) = some 8 := by kernel_rfl
  have hHl := sm.2.1
  have hKl := sm.2.2.1
  conv => arg 2; whnf
  refine wp_block ?_
  go_loopw [16] (fun vi wr => ∃ (k : Nat) (s : St), vi = .int .i64 (k : Int) ∧ k ≤ 64 ∧ Hid (rds K Wl st k = s) ∧ s.ok ∧ Own wr 141 1 (some ⟨qv, 0, none⟩) 8 8 (s.list.map U) ∧ Own wr 143 1 (some ⟨qw, 0, none⟩) 64 64 (Wl.map U) ∧ Keep [qv] w wr) (fun vi _ => 64 - (intOf vi).toNat)
  case atStart => exact ⟨0, st, by simp, by omega, Lib.hid rfl, hst, oV0, oW0, Keep.refl _ _⟩
  case round =>
    clear oV0 oW0
    obtain ⟨k, s, rfl, hk, hrd, hok, oV, oW, hB4⟩ := hrel
    by_cases h64 : k < 64
    · obtain ⟨sa, sb, sc, sd, se, sf, sg, sh⟩ := s
      obtain ⟨i1, i2, i3, i4, i5, i6, i7, i8'⟩ := hok
      simp only at i1 i2 i3 i4 i5 i6 i7 i8'
      have hkl : k < K.length := by omega
      have cK : wr.cell? ⟨p, 8 + k, none⟩ = some (.int .u32 ((K.getD k 0 : Nat) : Int)) := by
        have := (sm.1.keep hB4 (by simp; exact hpq)).at (i := 8 + k) (v := U (K.getD k 0)) (by rw [List.map_append, List.getElem?_append_right (by simp [hHl])]; simp [hHl, hkl])
        rwa [Nat.zero_add] at this
      obtain ⟨g', off', eg, hcW⟩ := oW.sl.hat (by omega)
      cases eg
      have cW := U_at hcW (i := k) (by omega)
      rw [Nat.zero_add] at cW
      have hKk : K.getD k 0 < 4294967296 := W32.getD sm.2.2.2 k
      have hWk : Wl.getD k 0 < 4294967296 := W32.getD hWlt k
      have hnext : rds K Wl st (k + 1) = rd (K.getD k 0) (Wl.getD k 0) ⟨sa, sb, sc, sd, se, sf, sg, sh⟩ := by rw [rds, hrd.out]
      obtain ⟨Kk, eK⟩ : ∃ x, x = K.getD k 0 := ⟨_, rfl⟩
      obtain ⟨Wk, eW⟩ : ∃ x, x = Wl.getD k 0 := ⟨_, rfl⟩
      rw [← eK] at cK hKk hnext
      rw [← eW] at cW hWk hnext
      have Hn := Lib.hid hnext
      obtain ⟨g', off', eg, hcV⟩ := oV.sl.hat (by omega)
      cases eg
      have hv := fun j x (hj : ([sa, sb, sc, sd, se, sf, sg, sh].map U)[j]? = some (U x)) => (by have := hcV.at hj; rwa [Nat.zero_add] at this : wr.cell? ⟨qv, j, none⟩ = some (U x))
      have m0 := hv 0 sa rfl
      have m1 := hv 1 sb rfl
      have m2 := hv 2 sc rfl
      have m3 := hv 3 sd rfl
      have m4 := hv 4 se rfl
      have m5 := hv 5 sf rfl
      have m6 := hv 6 sg rfl
      have m7 := hv 7 sh rfl
      simp only [U] at m0 m1 m2 m3 m4 m5 m6 m7
      have eK1 := KW.cell (fp := []) (p0 := tt) cK (by simp)
      have eW1 := KW.cell (fp := []) (p0 := tt) cW (by simp)
      have n0 := KW.cell (fp := []) (p0 := tt) m0 (by simp)
      have n4 := KW.cell (fp := []) (p0 := tt) m4 (by simp)
      clear eK eW hnext hrd hcW hcV hv
      have r1 := turnC se 6 i5 (by decide)
      have r2 := turnC se 11 i5 (by decide)
      have r3 := turnC se 25 i5 (by decide)
      have r4 := turnC sa 2 i1 (by decide)
      have r5 := turnC sa 13 i1 (by decide)
      have r6 := turnC sa 22 i1 (by decide)
      have v1 := xor3_val _ _ _ (rotr_lt se 6 i5) (rotr_lt se 11 i5) (rotr_lt se 25 i5)
      have v0 := xor3_val _ _ _ (rotr_lt sa 2 i1) (rotr_lt sa 13 i1) (rotr_lt sa 22 i1)
      rw [show rotr se 6 ^^^ rotr se 11 ^^^ rotr se 25 = S1 se from rfl] at v1
      rw [show rotr sa 2 ^^^ rotr sa 13 ^^^ rotr sa 22 = S0 sa from rfl] at v0
      have vc := ch_val se sf sg i5 i6 i7
      have vm := mj_val sa sb sc i1 i2 i3
      have vn := not_val se i5
      have t1 := S1_lt i5
      have t0 := S0_lt i1
      have tc := ch_lt (f := sf) (g := sg) i5
      have tm := mj_lt (c := sc) i1 i2
      go_upto_region 27 with (fail)
      refine wp_region_R (segL wr) (by kernel_rfl) segL_drew ?_
      unfold segL segK segR
      repeat (first | (refine wpV_skp rfl rfl ?_; simp only [List.set_cons_succ, List.set_cons_zero]) | (refine wpV_look rfl rfl rfl rfl rfl (fun K hK => ?_); go_big_quiet_op; refine hK _ ?_; clear hK K))
      refine wpV_nil ?_
      intro w5 hC _
      obtain ⟨⟨w5, hk5, -⟩, rfl⟩ := hC
      have oV5 := oV.keep hk5 (by simp)
      have oW5 := oW.keep hk5 (by simp)
      have hB5 := hB4.trans (Keep.of_nil hk5)
      have c5 := fun (x : Addr) (v : Value) (h : wr.cell? x = some v) => KW.cell (fp := []) (p0 := tt) (hk5.cell h (by simp)) (by simp)
      have eK5 := c5 _ _ cK
      have eW5 := c5 _ _ cW
      have n5 := c5 _ _ m5
      have n6 := c5 _ _ m6
      have n7 := c5 _ _ m7
      have k1 := hk5.cell m1 (by simp)
      have k2 := hk5.cell m2 (by simp)
      clear c5 eK1 eW1 n0 n4 oV oW hB4 cK cW
      go_wp2_with fail
      let V : Nat → Array Value → Value → World → Prop := fun i _ v _ => (i = 3 → v = .int .u32 ((rotr se 6 : Nat) : Int)) ∧ (i = 5 → v = .int .u32 ((rotr se 11 : Nat) : Int)) ∧ (i = 8 → v = .int .u32 ((rotr se 25 : Nat) : Int))
      refine wp_region_R (segK [] w5 [3, 5, 8] V (fun _ _ _ _ _ _ h => h)) (by kernel_rfl) segK_drew ?_
      unfold segK segR
      repeat (first | (refine wpV_skp rfl rfl ?_; simp only [List.set_cons_succ, List.set_cons_zero]) | (refine wpV_look rfl rfl rfl rfl rfl (fun K hK => ?_); go_big_quiet_op; refine hK _ ?_; clear hK K))
      refine wpV_mk rfl rfl rfl [] rfl (fun vs w7 hC _ => yields_call (by kernel_rfl) ?_) (fun vs v w7 hC hV hF => ?_)
      · obtain ⟨⟨w7, hk, -⟩, rfl⟩ := hC
        exact r1 w7 _ (fun w8 g8 => ⟨_, rfl, ⟨Keep.of_grow [] g8, trivial⟩, by simp [V]⟩)
      obtain rfl := hV.1 rfl
      clear hV hC hF w7
      simp only [List.set_cons_succ, List.set_cons_zero]
      repeat (first | (refine wpV_skp rfl rfl ?_; simp only [List.set_cons_succ, List.set_cons_zero]) | (refine wpV_look rfl rfl rfl rfl rfl (fun K hK => ?_); go_big_quiet_op; refine hK _ ?_; clear hK K))
      refine wpV_mk rfl rfl rfl [] rfl (fun vs w7 hC _ => yields_call (by kernel_rfl) ?_) (fun vs v w7 hC hV hF => ?_)
      · obtain ⟨⟨w7, hk, -⟩, rfl⟩ := hC
        exact r2 w7 _ (fun w8 g8 => ⟨_, rfl, ⟨Keep.of_grow [] g8, trivial⟩, by simp [V]⟩)
      obtain rfl := hV.2.1 rfl
      clear hV hC hF w7
      simp only [List.set_cons_succ, List.set_cons_zero]
      repeat (first | (refine wpV_skp rfl rfl ?_; simp only [List.set_cons_succ, List.set_cons_zero]) | (refine wpV_look rfl rfl rfl rfl rfl (fun K hK => ?_); go_big_quiet_op; refine hK _ ?_; clear hK K))
      refine wpV_mk rfl rfl rfl [] rfl (fun vs w7 hC _ => yields_call (by kernel_rfl) ?_) (fun vs v w7 hC hV hF => ?_)
      · obtain ⟨⟨w7, hk, -⟩, rfl⟩ := hC
        exact r3 w7 _ (fun w8 g8 => ⟨_, rfl, ⟨Keep.of_grow [] g8, trivial⟩, by simp [V]⟩)
      obtain rfl := hV.2.2 rfl
      clear hV hC hF w7
      simp only [List.set_cons_succ, List.set_cons_zero]
      repeat (first | (refine wpV_skp rfl rfl ?_; simp only [List.set_cons_succ, List.set_cons_zero]) | (refine wpV_look rfl rfl rfl rfl rfl (fun K hK => ?_); go_big_quiet_op; refine hK _ ?_; clear hK K))
      refine wpV_nil ?_
      intro w6 hC _
      obtain ⟨⟨w6, hk6, -⟩, rfl⟩ := hC
      have oV6 := oV5.keep hk6 (by simp)
      have oW6 := oW5.keep hk6 (by simp)
      have hB6 := hB5.trans (Keep.of_nil hk6)
      have n1 := KW.cell (fp := []) (p0 := tt) (hk6.cell k1 (by simp)) (by simp)
      have n2 := KW.cell (fp := []) (p0 := tt) (hk6.cell k2 (by simp)) (by simp)
      have hk56 := hk5.trans hk6
      clear eK5 eW5 n5 n6 n7 oV5 oW5 hB5 k1 k2 r1 r2 r3
      go_upto_region 29 with (fail)
      obtain ⟨T1, hT1⟩ : ∃ x, x = (sh + S1 se + ch se sf sg + Kk + Wk) % 4294967296 := ⟨_, rfl⟩
      have hT1l : T1 < 4294967296 := by rw [hT1]; exact Nat.mod_lt _ (by decide)
      have ev : ((((sh : Int) + (S1 se : Nat) + (ch se sf sg : Nat) + (Kk : Int)) % 4294967296 + (Wk : Int)) % 4294967296) = ((T1 : Nat) : Int) := by omega
      simp only [ev]
      obtain ⟨T2, hT2⟩ : ∃ x, x = (S0 sa + mj sa sb sc) % 4294967296 := ⟨_, rfl⟩
      have e1 := Lib.hid (show (((S0 sa : Nat) : Int) + ((mj sa sb sc : Nat) : Int)) % 4294967296 = (T2 : Int) by omega)
      have hT2l : T2 < 4294967296 := by rw [hT2]; exact Nat.mod_lt _ (by decide)
      obtain ⟨X1, hX1⟩ : ∃ x, x = (T1 + T2) % 4294967296 := ⟨_, rfl⟩
      have e2 := Lib.hid (show ((T1 : Int) + (T2 : Int)) % 4294967296 = (X1 : Int) by omega)
      obtain ⟨X5, hX5⟩ : ∃ x, x = (sd + T1) % 4294967296 := ⟨_, rfl⟩
      have e3 := Lib.hid (show ((sd : Int) + (T1 : Int)) % 4294967296 = (X5 : Int) by omega)
      have hX1l : X1 < 4294967296 := by rw [hX1]; exact Nat.mod_lt _ (by decide)
      have hX5l : X5 < 4294967296 := by rw [hX5]; exact Nat.mod_lt _ (by decide)
      have hnew : Hid (rds K Wl st (k + 1) = ⟨X1, sa, sb, sc, X5, se, sf, sg⟩) := Lib.hid (by
        rw [Hn.out, rd, ← hT1, ← hT2, ← hX1, ← hX5])
      clear ev hT1 hT2 hX1 hX5 vc vn v1
      let V : Nat → Array Value → Value → World → Prop := fun i _ v _ => (i = 1 → v = .int .u32 ((rotr sa 2 : Nat) : Int)) ∧ (i = 3 → v = .int .u32 ((rotr sa 13 : Nat) : Int)) ∧ (i = 6 → v = .int .u32 ((rotr sa 22 : Nat) : Int))
      refine wp_region_R (segK [] w6 [1, 3, 6] V (fun _ _ _ _ _ _ h => h)) (by kernel_rfl) segK_drew ?_
      unfold segK segR
      repeat (first | (refine wpV_skp rfl rfl ?_; simp only [List.set_cons_succ, List.set_cons_zero]) | (refine wpV_look rfl rfl rfl rfl rfl (fun K hK => ?_); go_big_quiet_op; refine hK _ ?_; clear hK K))
      refine wpV_mk rfl rfl rfl [] rfl (fun vs w7 hC _ => yields_call (by kernel_rfl) ?_) (fun vs v w7 hC hV hF => ?_)
      · obtain ⟨⟨w7, hk, -⟩, rfl⟩ := hC
        exact r4 w7 _ (fun w8 g8 => ⟨_, rfl, ⟨Keep.of_grow [] g8, trivial⟩, by simp [V]⟩)
      obtain rfl := hV.1 rfl
      clear hV hC hF w7
      simp only [List.set_cons_succ, List.set_cons_zero]
      repeat (first | (refine wpV_skp rfl rfl ?_; simp only [List.set_cons_succ, List.set_cons_zero]) | (refine wpV_look rfl rfl rfl rfl rfl (fun K hK => ?_); go_big_quiet_op; refine hK _ ?_; clear hK K))
      refine wpV_mk rfl rfl rfl [] rfl (fun vs w7 hC _ => yields_call (by kernel_rfl) ?_) (fun vs v w7 hC hV hF => ?_)
      · obtain ⟨⟨w7, hk, -⟩, rfl⟩ := hC
        exact r5 w7 _ (fun w8 g8 => ⟨_, rfl, ⟨Keep.of_grow [] g8, trivial⟩, by simp [V]⟩)
      obtain rfl := hV.2.1 rfl
      clear hV hC hF w7
      simp only [List.set_cons_succ, List.set_cons_zero]
      repeat (first | (refine wpV_skp rfl rfl ?_; simp only [List.set_cons_succ, List.set_cons_zero]) | (refine wpV_look rfl rfl rfl rfl rfl (fun K hK => ?_); go_big_quiet_op; refine hK _ ?_; clear hK K))
      refine wpV_mk rfl rfl rfl [] rfl (fun vs w7 hC _ => yields_call (by kernel_rfl) ?_) (fun vs v w7 hC hV hF => ?_)
      · obtain ⟨⟨w7, hk, -⟩, rfl⟩ := hC
        exact r6 w7 _ (fun w8 g8 => ⟨_, rfl, ⟨Keep.of_grow [] g8, trivial⟩, by simp [V]⟩)
      obtain rfl := hV.2.2 rfl
      clear hV hC hF w7
      simp only [List.set_cons_succ, List.set_cons_zero]
      repeat (first | (refine wpV_skp rfl rfl ?_; simp only [List.set_cons_succ, List.set_cons_zero]) | (refine wpV_look rfl rfl rfl rfl rfl (fun K hK => ?_); go_big_quiet_op; refine hK _ ?_; clear hK K))
      refine wpV_nil ?_
      intro w8 hC _
      obtain ⟨⟨w8, hk8, -⟩, rfl⟩ := hC
      simp only [e1.out]
      have oV8 := oV6.keep hk8 (by simp)
      have hk58 := hk56.trans hk8
      have hB8 := hB6.trans (Keep.of_nil hk8)
      have oW8 := oW6.keep hk8 (by simp)
      have ok8 : St.ok ⟨X1, sa, sb, sc, X5, se, sf, sg⟩ := ⟨hX1l, i1, i2, i3, hX5l, i5, i6, i7⟩
      clear n1 n2 oV6 oW6 hB6 r4 r5 r6 m0 m1 m2 m3 m4 m5 m6 m7 vm v0
      clear tm tc t0 t1 hKk hWk
      go_upto_region 30 with (fail)
      refine rS30 qv T1 T2 X1 X5 sa sb sc sd se sf sg sh w8 e2 e3 oV8 hT1l hT2l i4 ?_
      intro w9 o9 k9
      intros
      have oW9 := oW8.keep k9 (by simp [blk]; omega)
      have hB9 := hB8.trans k9
      clear oV8 oW8 hB8
      go_wp2_with fail
      go_roundw
      case rel => exact ⟨k + 1, ⟨X1, sa, sb, sc, X5, se, sf, sg⟩, by go_num, by omega, hnew, ok8, o9, oW9, hB9⟩
      case measure => simp [intOf]; omega
    · obtain rfl : k = 64 := by omega
      rw [← hrd.out] at hok oV
      clear h64 hk hrd oW
      go_wp2_with fail
      exact hQ _ hok oV hB4
end Go.Proofs.Ytfmnkcmicbnfdaa
