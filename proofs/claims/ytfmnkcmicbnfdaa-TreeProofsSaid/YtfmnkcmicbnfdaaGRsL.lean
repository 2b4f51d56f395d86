/- The document's sum: block by block. · The document's sum. -/
import Derived.Test.YtfmnkcmicbnfdaaGRsA
import Derived.Test.YtfmnkcmicbnfdaaRsB
import Derived.Test.YtfmnkcmicbnfdaaRsC

namespace Go.Proofs.Ytfmnkcmicbnfdaa
open Go Go.RowKit


set_option maxRecDepth 100000 in
set_option maxHeartbeats 2000000 in
theorem rS3 (p gm qh c N : Nat) (H K : List Nat) (M : List UInt8) (s0 : St) (hs0 : s0.ok) (hN1 : M.length ≤ 64 * N) (hN2 : 64 * N ≤ M.length) (hNle : N ≤ 20000) {c1 c2 c3 c4 c6 c9 c10 c11 c12 c13 c14 c15 c16 c17 c18 c19 c20 c21 c22 c23 c24 c25 c26 c27 c28 c29 c30 c31 c32 c33 c34 c35 c36 c37 c38 c39 c40 c41 c42 c43 c44 c45 c46 c47 c48 c49 c50 c51 c52 c53 c54 c55 c56 c57 c58 c59 c60 c61 c62 c63 c64 c65 c66 c67 c68 c69 c70 c71 c72 c73 c74 c75 c76 c77 c78 c79 c80 c81 c82 c83 c84 c85 c86 c87 c88 c89 c90 c91 c92 c93 c94 c95 c96 c97 c98 c99 c100 c101 c102 c103 c104 c105 c106 c107 c108 c109 c110 c111 c112 c113 c114 c115 c116 c117 c118 c119 c120 c121 c122 c123 c124 c125 c126 c127 c128 c129 c130 c131 c132 c133 c134 c135 c136 c137 c138 c139 c140 c141 c142 c143 c144 c145 c146 c147 c148 c149 c150 c151 c152 c153 c154 c155 c156 c157 c158 c159 c160 c161 c162 c163 c164 c165 c166 c167 c168 c169 c170 c171 c172 c173 c174 c175 c176 c177 c178 c179 c180 c181 c182 c183 c184 c185 c186 c187 c188 c189 c190 c191 c192 c193 c194 c195 c196 c197 c198 c199 c200 c201 c202 c203 c204 c205 c206 c207 c208 c209 c210 c211 c212 c213 c214 c215 c216 c217 c218 c219 c220 c221 c222 c223 c224 c225 c226 c227 c228 c229 c230 c231 c232 c233 c234 c235 c236 c237 c238 c239 c240 c241 c242 c243 c244 c245 c246 c247 c248 c249 c250 c251 c252 c253 c254 c255 c256 : Value} (w : World) (sm : Sm w p H K)
    (tx : Sl w 1 (some ⟨gm, 0, none⟩) M.length c (M.map B)) (hgm : gm < w.heap.size) (hp : p < w.heap.size) (hgq : gm ≠ qh) (hpq : p ≠ qh)
    (oh : Own w 141 1 (some ⟨qh, 0, none⟩) 8 8 (s0.list.map U)) {Q : Exit → Act → World → Prop}
    (hQ : ∀ (w' : World), Own w' 141 1 (some ⟨qh, 0, none⟩) 8 8 ((mixN K s0 M N).list.map U) → Keep [qh] w w' → ∀ {u8 u9 u10 u11 u12 u13 u14 u15 u16 u17 u18 u19 u20 u21 u55 u56 u57 u58 u59 u60 u61 u62 u63 u64 u65 u66 u67 u68 u69 u70 u71 u72 u73 u74 u75 u76 u77 u78 u79 u80 u81 u82 u83 u84 u85 u86 u87 u88 u89 u90 u91 u92 u93 u94 u95 u96 u97 u98 u99 u100 u101 u102 u103 u104 u105 u106 u107 u108 u109 u110 u111 u112 u113 u114 u115 u116 u117 u118 u119 u120 u121 u122 u123 u124 u125 u126 u127 u128 u129 u130 u131 u132 u133 u134 u135 u136 u137 u138 u139 u140 u141 u142 u143 u144 u145 u146 u147 u148 u149 u150 u151 u152 u153 u154 u155 u156 u157 u158 u159 u160 u161 u162 u163 u164 u165 u166 u167 u168 u169 u170 u171 u172 u173 u174 u175 u176 u177 u178 u179 u180 u181 u182 u183 u184 u185 u186 u187 u188 u189 u190 u191 u192 u193 u194 u195 u196 u197 u198 u199 u200 u201 u202 u203 u204 u205 u206 u207 u208 u209 u210 u211 u212 u213 u214 u215 u216 u217 u218 u219 u220 u221 u222 u223 u224 u225 u226 u227 u228 u229 u230 u231 u232 u233 u234 u235 u236 u237 u238 u239 : Value}, Q .normal ⟨List.toArray (.pointer (some ⟨p, 0, none⟩) :: c1 :: c2 :: c3 :: c4 :: .slice (some ⟨gm, 0, none⟩) M.length c :: c6 :: .pointer (some ⟨qh, 0, none⟩) :: u8 :: u9 :: u10 :: u11 :: u12 :: u13 :: u14 :: u15 :: u16 :: u17 :: u18 :: u19 :: u20 :: u21 :: c22 :: c23 :: c24 :: c25 :: c26 :: c27 :: c28 :: c29 :: c30 :: c31 :: c32 :: c33 :: c34 :: c35 :: c36 :: c37 :: c38 :: c39 :: c40 :: c41 :: c42 :: c43 :: c44 :: c45 :: c46 :: c47 :: c48 :: c49 :: c50 :: c51 :: c52 :: c53 :: c54 :: u55 :: u56 :: u57 :: u58 :: u59 :: u60 :: u61 :: u62 :: u63 :: u64 :: u65 :: u66 :: u67 :: u68 :: u69 :: u70 :: u71 :: u72 :: u73 :: u74 :: u75 :: u76 :: u77 :: u78 :: u79 :: u80 :: u81 :: u82 :: u83 :: u84 :: u85 :: u86 :: u87 :: u88 :: u89 :: u90 :: u91 :: u92 :: u93 :: u94 :: u95 :: u96 :: u97 :: u98 :: u99 :: u100 :: u101 :: u102 :: u103 :: u104 :: u105 :: u106 :: u107 :: u108 :: u109 :: u110 :: u111 :: u112 :: u113 :: u114 :: u115 :: u116 :: u117 :: u118 :: u119 :: u120 :: u121 :: u122 :: u123 :: u124 :: u125 :: u126 :: u127 :: u128 :: u129 :: u130 :: u131 :: u132 :: u133 :: u134 :: u135 :: u136 :: u137 :: u138 :: u139 :: u140 :: u141 :: u142 :: u143 :: u144 :: u145 :: u146 :: u147 :: u148 :: u149 :: u150 :: u151 :: u152 :: u153 :: u154 :: u155 :: u156 :: u157 :: u158 :: u159 :: u160 :: u161 :: u162 :: u163 :: u164 :: u165 :: u166 :: u167 :: u168 :: u169 :: u170 :: u171 :: u172 :: u173 :: u174 :: u175 :: u176 :: u177 :: u178 :: u179 :: u180 :: u181 :: u182 :: u183 :: u184 :: u185 :: u186 :: u187 :: u188 :: u189 :: u190 :: u191 :: u192 :: u193 :: u194 :: u195 :: u196 :: u197 :: u198 :: u199 :: u200 :: u201 :: u202 :: u203 :: u204 :: u205 :: u206 :: u207 :: u208 :: u209 :: u210 :: u211 :: u212 :: u213 :: u214 :: u215 :: u216 :: u217 :: u218 :: u219 :: u220 :: u221 :: u222 :: u223 :: u224 :: u225 :: u226 :: u227 :: u228 :: u229 :: u230 :: u231 :: u232 :: u233 :: u234 :: u235 :: u236 :: u237 :: u238 :: u239 :: c240 :: c241 :: c242 :: c243 :: c244 :: c245 :: c246 :: c247 :: c248 :: c249 :: c250 :: c251 :: c252 :: c253 :: c254 :: c255 :: c256 :: []), []⟩ w') :
    Code.wp Try.prog (blockAt Try.f109 4) Q ⟨List.toArray (.pointer (some ⟨p, 0, none⟩) :: c1 :: c2 :: c3 :: c4 :: .slice (some ⟨gm, 0, none⟩) M.length c :: c6 :: .pointer (some ⟨qh, 0, none⟩) :: .int .i64 0 :: c9 :: c10 :: c11 :: c12 :: c13 :: c14 :: c15 :: c16 :: c17 :: c18 :: c19 :: c20 :: c21 :: c22 :: c23 :: c24 :: c25 :: c26 :: c27 :: c28 :: c29 :: c30 :: c31 :: c32 :: c33 :: c34 :: c35 :: c36 :: c37 :: c38 :: c39 :: c40 :: c41 :: c42 :: c43 :: c44 :: c45 :: c46 :: c47 :: c48 :: c49 :: c50 :: c51 :: c52 :: c53 :: c54 :: c55 :: c56 :: c57 :: c58 :: c59 :: c60 :: c61 :: c62 :: c63 :: c64 :: c65 :: c66 :: c67 :: c68 :: c69 :: c70 :: c71 :: c72 :: c73 :: c74 :: c75 :: c76 :: c77 :: c78 :: c79 :: c80 :: c81 :: c82 :: c83 :: c84 :: c85 :: c86 :: c87 :: c88 :: c89 :: c90 :: c91 :: c92 :: c93 :: c94 :: c95 :: c96 :: c97 :: c98 :: c99 :: c100 :: c101 :: c102 :: c103 :: c104 :: c105 :: c106 :: c107 :: c108 :: c109 :: c110 :: c111 :: c112 :: c113 :: c114 :: c115 :: c116 :: c117 :: c118 :: c119 :: c120 :: c121 :: c122 :: c123 :: c124 :: c125 :: c126 :: c127 :: c128 :: c129 :: c130 :: c131 :: c132 :: c133 :: c134 :: c135 :: c136 :: c137 :: c138 :: c139 :: c140 :: c141 :: c142 :: c143 :: c144 :: c145 :: c146 :: c147 :: c148 :: c149 :: c150 :: c151 :: c152 :: c153 :: c154 :: c155 :: c156 :: c157 :: c158 :: c159 :: c160 :: c161 :: c162 :: c163 :: c164 :: c165 :: c166 :: c167 :: c168 :: c169 :: c170 :: c171 :: c172 :: c173 :: c174 :: c175 :: c176 :: c177 :: c178 :: c179 :: c180 :: c181 :: c182 :: c183 :: c184 :: c185 :: c186 :: c187 :: c188 :: c189 :: c190 :: c191 :: c192 :: c193 :: c194 :: c195 :: c196 :: c197 :: c198 :: c199 :: c200 :: c201 :: c202 :: c203 :: c204 :: c205 :: c206 :: c207 :: c208 :: c209 :: c210 :: c211 :: c212 :: c213 :: c214 :: c215 :: c216 :: c217 :: c218 :: c219 :: c220 :: c221 :: c222 :: c223 :: c224 :: c225 :: c226 :: c227 :: c228 :: c229 :: c230 :: c231 :: c232 :: c233 :: c234 :: c235 :: c236 :: c237 :: c238 :: c239 :: c240 :: c241 :: c242 :: c243 :: c244 :: c245 :: c246 :: c247 :: c248 :: c249 :: c250 :: c251 :: c252 :: c253 :: c254 :: c255 :: c256 :: []), []⟩ w := by
  have i8 : (Try.prog.info? 141).map (·.size) = some 8 := by kernel_rfl
  have hml : maxLen = 9223372036854775807 := rfl
  conv => arg 2; whnf
  refine wp_block ?_
  go_loopw [8] (fun va wr => ∃ (n a : Nat) (s : St), va = .int .i64 (a : Int) ∧ Hid (a = 64 * n) ∧ a ≤ 64 * n ∧ 64 * n ≤ a ∧ n ≤ N ∧ Hid (s = mixN K s0 M n) ∧ s.ok ∧ Own wr 141 1 (some ⟨qh, 0, none⟩) 8 8 (s.list.map U) ∧ Keep [qh] w wr) (fun va _ => 64 * N - (intOf va).toNat)
  case atStart => exact ⟨0, 0, s0, by simp, Lib.hid rfl, by omega, by omega, by omega, Lib.hid rfl, hs0, oh, Keep.refl _ _⟩
  case round =>
    clear oh hs0
    obtain ⟨n, a, st, rfl, Ha, ha1, ha2, hn, hst, hok, oh, kr⟩ := hrel
    by_cases hnN : n < N
    · have haM : a + 64 ≤ M.length := by omega
      have haM1 : a < M.length := by omega
      have hst2 : Hid (mixS K st ((M.drop (64 * n)).take 64) = mixN K s0 M (n + 1)) := Lib.hid (by rw [mixN, ← hst.out])
      have hok2 : (mixN K s0 M (n + 1)).ok := by rw [← hst2.out]; exact mixS_ok _ _ _
      rw [← Ha.out] at hst2
      have hbyte : ∀ j, j < 64 → (M.map B)[a + j]? = some (.int .u8 ((((M.drop a).take 64).getD j 0).toNat : Int)) := fun j hj => by
        rw [List.getElem?_map, List.getElem?_eq_getElem (by omega)]
        simp [List.getD_eq_getElem?_getD, hj, List.getElem?_drop, List.getElem?_eq_getElem (show a + j < M.length by omega), B]
      obtain ⟨l, hle⟩ : ∃ l, l = (M.drop a).take 64 := ⟨_, rfl⟩
      rw [← hle] at hst2
      simp only [← hle] at hbyte
      have hqh := oh.lt qh (by simp [blk])
      have hszr := kr.size
      have oz0 : Own (wr.alloc (.cells (List.replicate 64 (U 0)).toArray 143)) 143 1 (some ⟨wr.heap.size, 0, none⟩) 64 64 (arr []) := Own.made (n := 64) (heap_alloc_new wr _) rfl (by decide) (by simp [U, Value.oneCell'])
      have oz : Own (wr.alloc (.cells (List.replicate 64 (U 0)).toArray 143)) 143 1 (some ⟨wr.heap.size, 0, none⟩) 64 64 (arr (wOf l 0)) := oz0
      clear oz0
      have ga := Grow.alloc wr (.cells (List.replicate 64 (U 0)).toArray 143)
      have oh2 := oh.grow ga
      have tx2 := (tx.keep kr (by simp [blk]; omega)).grow ga
      have sm2 : Sm (wr.alloc (.cells (List.replicate 64 (U 0)).toArray 143)) p H K := ⟨(sm.1.keep kr (by simp; omega)).keep (Keep.of_grow [] ga) (by simp), sm.2⟩
      have kr2 := kr.trans' (Keep.of_grow [] ga) (by simp)
      clear hle hst hn ga
      go_upto_region 13 with (fail)
      change Code.wp _ _ _ _ (wr.alloc (.cells (List.replicate 64 (U 0)).toArray 143))
      obtain ⟨qw, hqw⟩ : ∃ qw, qw = wr.heap.size := ⟨_, rfl⟩
      have hsz2 : (wr.alloc (.cells (List.replicate 64 (U 0)).toArray 143)).heap.size = wr.heap.size + 1 := by simp
      generalize (wr.alloc (.cells (List.replicate 64 (U 0)).toArray 143)) = w2 at *
      rw [← hqw] at oz hqh hszr hsz2 ⊢
      have hgw : gm < qw := by omega
      have hpw : p < qw := by omega
      have hww : w.heap.size ≤ qw := by omega
      have hsz3 : qw < w2.heap.size := by omega
      clear hqw oh hsz2 hszr
      go_upto_block 6 with (fail)
      refine rS4 qw gm a c M l w2 haM (by omega) (by omega) hbyte tx2 oz ?_
      intro w3 oz3 k3
      intros
      have oh3 := oh2.keep k3 (by simp [blk]; omega)
      have sm3 : Sm w3 p H K := ⟨sm2.1.keep k3 (by simp; omega), sm2.2⟩
      have kr3 := kr2.trans' k3 (by simp; omega)
      have hsz4 := k3.size
      clear tx2 oz oh2 sm2 kr2 hbyte
      go_upto_block 8 with (fail)
      refine rS5 qw l w3 oz3 ?_
      intro w4 oz4 k4
      intros
      have oh4 := oh3.keep k4 (by simp [blk]; omega)
      have sm4 : Sm w4 p H K := ⟨sm3.1.keep k4 (by simp; omega), sm3.2⟩
      have kr4 := kr3.trans' k4 (by simp; omega)
      have hsz5 := k4.size
      have hsz6 : qw < w4.heap.size := by omega
      clear oz3 oh3 sm3 kr3 k3 k4 hsz4 hsz5
      have hWl := wOf_len l 64
      have hWlt := wOf_lt l 64
      obtain ⟨Wl, hWe⟩ : ∃ W, W = wOf l 64 := ⟨_, rfl⟩
      have hmix : mixS K st l = st.add (rds K Wl st 64) := by rw [hWe]; rfl
      rw [← hWe] at oz4 hWl hWlt
      rw [hmix] at hst2
      have HWl := Lib.hid hWl
      clear hmix hWe
      have oW : Own w4 143 1 (some ⟨qw, 0, none⟩) 64 64 (Wl.map U) := by
        have : arr Wl = Wl.map U := by unfold arr; simp [hWl]
        rwa [this] at oz4
      clear oz4 hWl
      go_upto_region 23 with (fail)
      refine rS23 qh st.list rfl w4 oh4 ?_
      intro w5 qv v2 g5 hqv
      intros
      have oW5 := oW.grow g5
      have oh5 := oh4.grow g5
      have sm5 : Sm w5 p H K := ⟨sm4.1.keep (Keep.of_grow [] g5) (by simp), sm4.2⟩
      have kr5 := kr4.trans' (Keep.of_grow [] g5) (by simp)
      have hsz7 := g5.size
      clear oW oh4 sm4 kr4 g5
      go_upto_block 10 with (fail)
      refine rS6 p qw qv H K Wl st hok HWl.out hWlt w5 sm5 (by omega) (by omega) v2 oW5 ?_
      intro w6 hok6 v6 k6
      intros
      have oh6 := oh5.keep k6 (by simp [blk]; omega)
      have sm6 : Sm w6 p H K := ⟨sm5.1.keep k6 (by simp; omega), sm5.2⟩
      have kr6 := kr5.trans' k6 (by simp; omega)
      clear v2 oW5 oh5 sm5 kr5 k6 hWlt HWl
      obtain ⟨s6, hs6⟩ : ∃ s, s = rds K Wl st 64 := ⟨_, rfl⟩
      rw [← hs6] at hst2 hok6 v6
      clear hs6
      go_upto_block 12 with (fail)
      refine rS7 qh qv st s6 hok hok6 (by omega) w6 oh6 v6 ?_
      intro w7 oh7 k7
      intros
      have kr7 := kr6.trans k7
      rw [hst2.out] at oh7
      clear oh6 v6 sm6 kr6 k7 hok hok6 hst2
      obtain ⟨s7, hs7⟩ : ∃ s, s = mixN K s0 M (n + 1) := ⟨_, rfl⟩
      rw [← hs7] at oh7 hok2
      have Hs7 := Lib.hid hs7
      clear hs7
      go_wp2_with fail
      go_roundw
      case rel => exact ⟨n + 1, a + 64, s7, by go_num, Lib.hid (by rw [Ha.out]; omega), by omega, by omega, by omega, Hs7, hok2, oh7, kr7⟩
      case measure => simp [intOf]; omega
    · obtain rfl : n = N := by omega
      rw [hst.out] at oh
      have hge : M.length ≤ a := by omega
      clear hst hok Ha tx sm
      go_wp2_with fail
      exact hQ _ oh kr
end Go.Proofs.Ytfmnkcmicbnfdaa

namespace Go.Proofs.Ytfmnkcmicbnfdaa
open Go Go.RowKit

theorem smr {w : World} {p : Nat} {H K : List Nat} (s : Sm w p H K) : w.rangeAt p 0 (H.map U) ∧ p < w.heap.size := by
  have hHl := s.2.1
  have e : ∀ j v, (H.map U)[j]? = some v → w.cell? ⟨p, 0 + j, none⟩ = some v := fun j v hj => by
    have hj8 : j < 8 := by have := (List.getElem?_eq_some_iff.1 hj).1; simpa [hHl] using this
    refine s.1.at ?_
    rw [List.map_append, List.getElem?_append_left (by simpa [hHl] using hj8)]
    exact hj
  exact ⟨fun j v hj => e j v hj, World.block_lt_of_cell? w _ (e 0 (U (H.getD 0 0)) (by simp [hHl]))⟩


set_option maxRecDepth 100000 in
theorem rSr8 (p : Nat) (H K : List Nat) {c1 c2 c3 c4 c5 c6 c7 c8 c9 c10 c11 c12 c13 c14 c15 c16 c17 c18 c19 c20 c21 c22 c23 c24 c25 c26 c27 c28 c29 c30 c31 c32 c33 c34 c35 c36 c37 c38 c39 c40 c41 c42 c43 c44 c45 c46 c47 c48 c49 c50 c51 c52 c53 c54 c55 c56 c57 c58 c59 c60 c61 c62 c63 c64 c65 c66 c67 c68 c69 c70 c71 c72 c73 c74 c75 c76 c77 c78 c79 c80 c81 c82 c83 c84 c85 c86 c87 c88 c89 c90 c91 c92 c93 c94 c95 c96 c97 c98 c99 c100 c101 c102 c103 c104 c105 c106 c107 c108 c109 c110 c111 c112 c113 c114 c115 c116 c117 c118 c119 c120 c121 c122 c123 c124 c125 c126 c127 c128 c129 c130 c131 c132 c133 c134 c135 c136 c137 c138 c139 c140 c141 c142 c143 c144 c145 c146 c147 c148 c149 c150 c151 c152 c153 c154 c155 c156 c157 c158 c159 c160 c161 c162 c163 c164 c165 c166 c167 c168 c169 c170 c171 c172 c173 c174 c175 c176 c177 c178 c179 c180 c181 c182 c183 c184 c185 c186 c187 c188 c189 c190 c191 c192 c193 c194 c195 c196 c197 c198 c199 c200 c201 c202 c203 c204 c205 c206 c207 c208 c209 c210 c211 c212 c213 c214 c215 c216 c217 c218 c219 c220 c221 c222 c223 c224 c225 c226 c227 c228 c229 c230 c231 c232 c233 c234 c235 c236 c237 c238 c239 c240 c241 c242 c243 c244 c245 c246 c247 c248 c249 c250 c251 c252 c253 c254 c255 c256 : Value} (w : World) (sm : Sm w p H K) {Q : Exit → Act → World → Prop}
    (hQ : ∀ (w' : World) (qh : Nat), Own w' 141 1 (some ⟨qh, 0, none⟩) 8 8 (H.map U) → Grow w w' → w.heap.size ≤ qh → ∀ {u51 u52 u53 u54 : Value}, Q .normal ⟨List.toArray (.pointer (some ⟨p, 0, none⟩) :: c1 :: c2 :: c3 :: c4 :: c5 :: c6 :: .pointer (some ⟨qh, 0, none⟩) :: c8 :: c9 :: c10 :: c11 :: c12 :: c13 :: c14 :: c15 :: c16 :: c17 :: c18 :: c19 :: c20 :: c21 :: c22 :: c23 :: c24 :: c25 :: c26 :: c27 :: c28 :: c29 :: c30 :: c31 :: c32 :: c33 :: c34 :: c35 :: c36 :: c37 :: c38 :: c39 :: c40 :: c41 :: c42 :: c43 :: c44 :: c45 :: c46 :: c47 :: c48 :: c49 :: c50 :: u51 :: u52 :: u53 :: u54 :: c55 :: c56 :: c57 :: c58 :: c59 :: c60 :: c61 :: c62 :: c63 :: c64 :: c65 :: c66 :: c67 :: c68 :: c69 :: c70 :: c71 :: c72 :: c73 :: c74 :: c75 :: c76 :: c77 :: c78 :: c79 :: c80 :: c81 :: c82 :: c83 :: c84 :: c85 :: c86 :: c87 :: c88 :: c89 :: c90 :: c91 :: c92 :: c93 :: c94 :: c95 :: c96 :: c97 :: c98 :: c99 :: c100 :: c101 :: c102 :: c103 :: c104 :: c105 :: c106 :: c107 :: c108 :: c109 :: c110 :: c111 :: c112 :: c113 :: c114 :: c115 :: c116 :: c117 :: c118 :: c119 :: c120 :: c121 :: c122 :: c123 :: c124 :: c125 :: c126 :: c127 :: c128 :: c129 :: c130 :: c131 :: c132 :: c133 :: c134 :: c135 :: c136 :: c137 :: c138 :: c139 :: c140 :: c141 :: c142 :: c143 :: c144 :: c145 :: c146 :: c147 :: c148 :: c149 :: c150 :: c151 :: c152 :: c153 :: c154 :: c155 :: c156 :: c157 :: c158 :: c159 :: c160 :: c161 :: c162 :: c163 :: c164 :: c165 :: c166 :: c167 :: c168 :: c169 :: c170 :: c171 :: c172 :: c173 :: c174 :: c175 :: c176 :: c177 :: c178 :: c179 :: c180 :: c181 :: c182 :: c183 :: c184 :: c185 :: c186 :: c187 :: c188 :: c189 :: c190 :: c191 :: c192 :: c193 :: c194 :: c195 :: c196 :: c197 :: c198 :: c199 :: c200 :: c201 :: c202 :: c203 :: c204 :: c205 :: c206 :: c207 :: c208 :: c209 :: c210 :: c211 :: c212 :: c213 :: c214 :: c215 :: c216 :: c217 :: c218 :: c219 :: c220 :: c221 :: c222 :: c223 :: c224 :: c225 :: c226 :: c227 :: c228 :: c229 :: c230 :: c231 :: c232 :: c233 :: c234 :: c235 :: c236 :: c237 :: c238 :: c239 :: c240 :: c241 :: c242 :: c243 :: c244 :: c245 :: c246 :: c247 :: c248 :: c249 :: c250 :: c251 :: c252 :: c253 :: c254 :: c255 :: c256 :: []), []⟩ w') :
    Code.wp Try.prog (regionAt Try.f109 8) Q ⟨List.toArray (.pointer (some ⟨p, 0, none⟩) :: c1 :: c2 :: c3 :: c4 :: c5 :: c6 :: c7 :: c8 :: c9 :: c10 :: c11 :: c12 :: c13 :: c14 :: c15 :: c16 :: c17 :: c18 :: c19 :: c20 :: c21 :: c22 :: c23 :: c24 :: c25 :: c26 :: c27 :: c28 :: c29 :: c30 :: c31 :: c32 :: c33 :: c34 :: c35 :: c36 :: c37 :: c38 :: c39 :: c40 :: c41 :: c42 :: c43 :: c44 :: c45 :: c46 :: c47 :: c48 :: c49 :: c50 :: c51 :: c52 :: c53 :: c54 :: c55 :: c56 :: c57 :: c58 :: c59 :: c60 :: c61 :: c62 :: c63 :: c64 :: c65 :: c66 :: c67 :: c68 :: c69 :: c70 :: c71 :: c72 :: c73 :: c74 :: c75 :: c76 :: c77 :: c78 :: c79 :: c80 :: c81 :: c82 :: c83 :: c84 :: c85 :: c86 :: c87 :: c88 :: c89 :: c90 :: c91 :: c92 :: c93 :: c94 :: c95 :: c96 :: c97 :: c98 :: c99 :: c100 :: c101 :: c102 :: c103 :: c104 :: c105 :: c106 :: c107 :: c108 :: c109 :: c110 :: c111 :: c112 :: c113 :: c114 :: c115 :: c116 :: c117 :: c118 :: c119 :: c120 :: c121 :: c122 :: c123 :: c124 :: c125 :: c126 :: c127 :: c128 :: c129 :: c130 :: c131 :: c132 :: c133 :: c134 :: c135 :: c136 :: c137 :: c138 :: c139 :: c140 :: c141 :: c142 :: c143 :: c144 :: c145 :: c146 :: c147 :: c148 :: c149 :: c150 :: c151 :: c152 :: c153 :: c154 :: c155 :: c156 :: c157 :: c158 :: c159 :: c160 :: c161 :: c162 :: c163 :: c164 :: c165 :: c166 :: c167 :: c168 :: c169 :: c170 :: c171 :: c172 :: c173 :: c174 :: c175 :: c176 :: c177 :: c178 :: c179 :: c180 :: c181 :: c182 :: c183 :: c184 :: c185 :: c186 :: c187 :: c188 :: c189 :: c190 :: c191 :: c192 :: c193 :: c194 :: c195 :: c196 :: c197 :: c198 :: c199 :: c200 :: c201 :: c202 :: c203 :: c204 :: c205 :: c206 :: c207 :: c208 :: c209 :: c210 :: c211 :: c212 :: c213 :: c214 :: c215 :: c216 :: c217 :: c218 :: c219 :: c220 :: c221 :: c222 :: c223 :: c224 :: c225 :: c226 :: c227 :: c228 :: c229 :: c230 :: c231 :: c232 :: c233 :: c234 :: c235 :: c236 :: c237 :: c238 :: c239 :: c240 :: c241 :: c242 :: c243 :: c244 :: c245 :: c246 :: c247 :: c248 :: c249 :: c250 :: c251 :: c252 :: c253 :: c254 :: c255 :: c256 :: []), []⟩ w := by
  have i8 : (Try.prog.info? 141).map (·.size) = some 8 := by kernel_rfl
  have hX := sm.2.1
  have hrg := (smr sm).1
  obtain ⟨V, hV⟩ : ∃ V, V = H.map U := ⟨_, rfl⟩
  obtain ⟨v1, v2, v3, v4⟩ := newvar (t := 141) (n := 8) (F := H.map U) w (U 0) rfl (by unfold maxLen; omega) (by simpa using hX) (oneU H)
  have hsz8 : (Try.prog.info? 141).map (·.size) = some (H.map U).length := by rw [List.length_map, hX]; exact i8
  rw [← hV] at hrg v1 v2 v3 v4 hsz8
  simp only [← hV] at hQ
  clear hV hX sm
  conv => arg 2; whnf
  refine wp_region_lit ?_
  iterate 9 go_step
  refine wpList_load_mid rfl 141 _ rfl p 0 rfl V _ hrg Try.underlying141 rfl hsz8 ?_
  iterate 3 go_step
  refine wpList_store_mid rfl 141 _ _ rfl w.heap.size 0 V.toArray rfl rfl v3 (by simpa using hsz8) v4 ?_
  refine wpList_nil ?_
  exact hQ _ _ v1 v2 (Nat.le_refl _)


set_option maxRecDepth 100000 in
theorem rSr40 (q q2 : Nat) (F : List Value) {c0 c1 c2 c3 c5 c6 c7 c8 c9 c10 c11 c12 c13 c14 c15 c16 c17 c18 c19 c20 c21 c23 c24 c25 c26 c27 c28 c29 c30 c31 c32 c33 c34 c35 c36 c37 c38 c39 c40 c41 c42 c43 c44 c45 c46 c47 c48 c49 c50 c51 c52 c53 c54 c55 c56 c57 c58 c59 c60 c61 c62 c63 c64 c65 c66 c67 c68 c69 c70 c71 c72 c73 c74 c75 c76 c77 c78 c79 c80 c81 c82 c83 c84 c85 c86 c87 c88 c89 c90 c91 c92 c93 c94 c95 c96 c97 c98 c99 c100 c101 c102 c103 c104 c105 c106 c107 c108 c109 c110 c111 c112 c113 c114 c115 c116 c117 c118 c119 c120 c121 c122 c123 c124 c125 c126 c127 c128 c129 c130 c131 c132 c133 c134 c135 c136 c137 c138 c139 c140 c141 c142 c143 c144 c145 c146 c147 c148 c149 c150 c151 c152 c153 c154 c155 c156 c157 c158 c159 c160 c161 c162 c163 c164 c165 c166 c167 c168 c169 c170 c171 c172 c173 c174 c175 c176 c177 c178 c179 c180 c181 c182 c183 c184 c185 c186 c187 c188 c189 c190 c191 c192 c193 c194 c195 c196 c197 c198 c199 c200 c201 c202 c203 c204 c205 c206 c207 c208 c209 c210 c211 c212 c213 c214 c215 c216 c217 c218 c219 c220 c221 c222 c223 c224 c225 c226 c227 c228 c229 c230 c231 c232 c233 c234 c235 c236 c237 c238 c239 c240 c241 c242 c243 c244 c245 c246 c247 c248 c249 c250 c251 c252 c253 c254 c255 c256 : Value} (w : World) (hsz : (Try.prog.info? 123).map (·.size) = some F.length) (hrg : w.rangeAt q2 0 F) (hth : w.there q 0 F.toArray.size) (hall : F.toArray.all (·.oneCell') = true) {Q : Exit → Act → World → Prop}
    (hQ : ∀ {u256 : Value}, Q .normal ⟨List.toArray (c0 :: c1 :: c2 :: c3 :: .pointer (some ⟨q, 0, none⟩) :: c5 :: c6 :: c7 :: c8 :: c9 :: c10 :: c11 :: c12 :: c13 :: c14 :: c15 :: c16 :: c17 :: c18 :: c19 :: c20 :: c21 :: .pointer (some ⟨q2, 0, none⟩) :: c23 :: c24 :: c25 :: c26 :: c27 :: c28 :: c29 :: c30 :: c31 :: c32 :: c33 :: c34 :: c35 :: c36 :: c37 :: c38 :: c39 :: c40 :: c41 :: c42 :: c43 :: c44 :: c45 :: c46 :: c47 :: c48 :: c49 :: c50 :: c51 :: c52 :: c53 :: c54 :: c55 :: c56 :: c57 :: c58 :: c59 :: c60 :: c61 :: c62 :: c63 :: c64 :: c65 :: c66 :: c67 :: c68 :: c69 :: c70 :: c71 :: c72 :: c73 :: c74 :: c75 :: c76 :: c77 :: c78 :: c79 :: c80 :: c81 :: c82 :: c83 :: c84 :: c85 :: c86 :: c87 :: c88 :: c89 :: c90 :: c91 :: c92 :: c93 :: c94 :: c95 :: c96 :: c97 :: c98 :: c99 :: c100 :: c101 :: c102 :: c103 :: c104 :: c105 :: c106 :: c107 :: c108 :: c109 :: c110 :: c111 :: c112 :: c113 :: c114 :: c115 :: c116 :: c117 :: c118 :: c119 :: c120 :: c121 :: c122 :: c123 :: c124 :: c125 :: c126 :: c127 :: c128 :: c129 :: c130 :: c131 :: c132 :: c133 :: c134 :: c135 :: c136 :: c137 :: c138 :: c139 :: c140 :: c141 :: c142 :: c143 :: c144 :: c145 :: c146 :: c147 :: c148 :: c149 :: c150 :: c151 :: c152 :: c153 :: c154 :: c155 :: c156 :: c157 :: c158 :: c159 :: c160 :: c161 :: c162 :: c163 :: c164 :: c165 :: c166 :: c167 :: c168 :: c169 :: c170 :: c171 :: c172 :: c173 :: c174 :: c175 :: c176 :: c177 :: c178 :: c179 :: c180 :: c181 :: c182 :: c183 :: c184 :: c185 :: c186 :: c187 :: c188 :: c189 :: c190 :: c191 :: c192 :: c193 :: c194 :: c195 :: c196 :: c197 :: c198 :: c199 :: c200 :: c201 :: c202 :: c203 :: c204 :: c205 :: c206 :: c207 :: c208 :: c209 :: c210 :: c211 :: c212 :: c213 :: c214 :: c215 :: c216 :: c217 :: c218 :: c219 :: c220 :: c221 :: c222 :: c223 :: c224 :: c225 :: c226 :: c227 :: c228 :: c229 :: c230 :: c231 :: c232 :: c233 :: c234 :: c235 :: c236 :: c237 :: c238 :: c239 :: c240 :: c241 :: c242 :: c243 :: c244 :: c245 :: c246 :: c247 :: c248 :: c249 :: c250 :: c251 :: c252 :: c253 :: c254 :: c255 :: u256 :: []), []⟩ (w.setCells q 0 F)) :
    Code.wp Try.prog (regionAt Try.f109 40) Q ⟨List.toArray (c0 :: c1 :: c2 :: c3 :: .pointer (some ⟨q, 0, none⟩) :: c5 :: c6 :: c7 :: c8 :: c9 :: c10 :: c11 :: c12 :: c13 :: c14 :: c15 :: c16 :: c17 :: c18 :: c19 :: c20 :: c21 :: .pointer (some ⟨q2, 0, none⟩) :: c23 :: c24 :: c25 :: c26 :: c27 :: c28 :: c29 :: c30 :: c31 :: c32 :: c33 :: c34 :: c35 :: c36 :: c37 :: c38 :: c39 :: c40 :: c41 :: c42 :: c43 :: c44 :: c45 :: c46 :: c47 :: c48 :: c49 :: c50 :: c51 :: c52 :: c53 :: c54 :: c55 :: c56 :: c57 :: c58 :: c59 :: c60 :: c61 :: c62 :: c63 :: c64 :: c65 :: c66 :: c67 :: c68 :: c69 :: c70 :: c71 :: c72 :: c73 :: c74 :: c75 :: c76 :: c77 :: c78 :: c79 :: c80 :: c81 :: c82 :: c83 :: c84 :: c85 :: c86 :: c87 :: c88 :: c89 :: c90 :: c91 :: c92 :: c93 :: c94 :: c95 :: c96 :: c97 :: c98 :: c99 :: c100 :: c101 :: c102 :: c103 :: c104 :: c105 :: c106 :: c107 :: c108 :: c109 :: c110 :: c111 :: c112 :: c113 :: c114 :: c115 :: c116 :: c117 :: c118 :: c119 :: c120 :: c121 :: c122 :: c123 :: c124 :: c125 :: c126 :: c127 :: c128 :: c129 :: c130 :: c131 :: c132 :: c133 :: c134 :: c135 :: c136 :: c137 :: c138 :: c139 :: c140 :: c141 :: c142 :: c143 :: c144 :: c145 :: c146 :: c147 :: c148 :: c149 :: c150 :: c151 :: c152 :: c153 :: c154 :: c155 :: c156 :: c157 :: c158 :: c159 :: c160 :: c161 :: c162 :: c163 :: c164 :: c165 :: c166 :: c167 :: c168 :: c169 :: c170 :: c171 :: c172 :: c173 :: c174 :: c175 :: c176 :: c177 :: c178 :: c179 :: c180 :: c181 :: c182 :: c183 :: c184 :: c185 :: c186 :: c187 :: c188 :: c189 :: c190 :: c191 :: c192 :: c193 :: c194 :: c195 :: c196 :: c197 :: c198 :: c199 :: c200 :: c201 :: c202 :: c203 :: c204 :: c205 :: c206 :: c207 :: c208 :: c209 :: c210 :: c211 :: c212 :: c213 :: c214 :: c215 :: c216 :: c217 :: c218 :: c219 :: c220 :: c221 :: c222 :: c223 :: c224 :: c225 :: c226 :: c227 :: c228 :: c229 :: c230 :: c231 :: c232 :: c233 :: c234 :: c235 :: c236 :: c237 :: c238 :: c239 :: c240 :: c241 :: c242 :: c243 :: c244 :: c245 :: c246 :: c247 :: c248 :: c249 :: c250 :: c251 :: c252 :: c253 :: c254 :: c255 :: c256 :: []), []⟩ w := by
  conv => arg 2; whnf
  refine wp_region_lit ?_
  refine wpList_load_mid rfl 123 _ rfl q2 0 rfl F _ hrg Try.underlying123 rfl hsz ?_
  refine wpList_store_mid rfl 123 _ _ rfl q 0 F.toArray rfl rfl hth (by simpa using hsz) hall ?_
  refine wpList_nil ?_
  exact hQ

/-- The text that is being filled. -/
structure TxR (q : Nat) (w : World) (M : List UInt8) (ao : Option Addr) (c : Nat) (wr : World) : Prop where
  own : Own wr 5 1 ao M.length c (M.map B)
  out : Own wr 123 1 (some ⟨q, 0, none⟩) 32 32 (List.replicate 32 (.int .u8 0))
  gr : Grow w wr
  far : ∀ g ∈ blk ao, q < g
  q : Hid (q = w.heap.size)
theorem TxR.appA {q : Nat} {w wr w' : World} {o : Obj} {M Y : List UInt8} {ao ao' : Option Addr} {c c' : Nat} (h : TxR q w M ao c wr)
    (n : Nat) (hn : n = (M ++ Y).length) (hs : Own w' 5 1 ao' n c' (M.map B ++ Y.map B)) (k : Keep (blk ao) (wr.alloc o) w') (hb : ∀ g ∈ blk ao', g ∈ blk ao ∨ (wr.alloc o).heap.size ≤ g) : TxR q w (M ++ Y) ao' c' w' := by
  subst hn
  have kk := (Keep.alloc (blk ao) wr o).trans k
  refine ⟨by rw [List.map_append]; exact hs, h.out.keep kk ?_, h.gr.then kk ?_, fun g hg => ?_, h.q⟩
  · intro g hg hm; simp [blk] at hg; have := h.far g hm; omega
  · intro g hg; have := h.far g hg; have := h.q.out; omega
  · rcases hb g hg with h' | h'
    · exact h.far g h'
    · have := h.out.lt q (by simp [blk]); rw [sz_al] at h'; omega

set_option maxRecDepth 100000 in
set_option maxHeartbeats 4000000 in
theorem rSumC (p : Nat) (H K : List Nat) (hH : ∀ x ∈ H, x < 4294967296) (bo : Option Addr) (cap : Nat) (L : List UInt8) (w : World) (sm : Sm w p H K) (sb : Sl w 1 bo L.length cap (L.map B)) (hl : L.length ≤ 1000000)
    (R : Ending → World → Prop) (hR : ∀ w', Grow w w' → R (.returned (.agg ((sumOf H K L).map B).toArray)) w') :
    Calls Try.prog 109 #[.pointer (some ⟨p, 0, none⟩), .slice bo L.length cap] w R := by
  have hml : maxLen = 9223372036854775807 := rfl
  have hHl := sm.2.1
  have hok0 := ofL_ok H hH
  have i8 : (Try.prog.info? 141).map (·.size) = some 8 := by kernel_rfl
  have i64 : (Try.prog.info? 143).map (·.size) = some 64 := by kernel_rfl
  have i32 : (Try.prog.info? 123).map (·.size) = some 32 := by kernel_rfl
  obtain ⟨q, hq⟩ : ∃ q, q = w.heap.size := ⟨_, rfl⟩
  have oO : Own (w.alloc (.cells (List.replicate 32 (.int .u8 0)).toArray 123)) 123 1 (some ⟨w.heap.size, 0, none⟩) 32 32 (List.replicate 32 (.int .u8 0)) := Own.made (n := 32) (heap_alloc_new w _) rfl (by decide) (by simp [Value.oneCell'])
  have g1 := Grow.alloc w (.cells (List.replicate 32 (.int .u8 0)).toArray 123)
  go_enter Try.func109, Try.ntmps109
  go_upto_region 1 with (fail)
  change Code.wp _ _ _ _ (w.alloc (.cells (List.replicate 32 (.int .u8 0)).toArray 123))
  have sb1 := sb.grow g1
  generalize w.alloc (.cells (List.replicate 32 (.int .u8 0)).toArray 123) = w1 at *
  rw [← hq] at oO ⊢
  have Hq := Lib.hid hq
  clear hq
  have o0 : Own (w1.alloc (.cells #[] 5)) 5 1 (some ⟨w1.heap.size, 0, none⟩) 0 0 (([] : List UInt8).map B) := Own.made (n := 0) (heap_alloc_new w1 _) rfl (by decide) (by simp)
  go_wp2_with (first | (at_builtin; refine wpList_app TBy rfl rfl o0 (sb1.grow (Grow.alloc _ _)) (by omega) (by omega) ?_; intro ao1 cap1 w2 own1 _ keep1 blk1; simp only [Nat.zero_add, List.map_nil, List.nil_append] at own1) | (at_builtin; refine wpList_app TBy rfl rfl (own1.grow (Grow.alloc _ _)) (Own.made (n := 1) (heap_alloc_new _ _) rfl (by decide) (by simp [Value.oneCell'])).sl (by omega) (by omega) ?_; intro ao2 cap2 w3 own2 _ keep2 blk2))
  have T0 : TxR q w L ao1 cap1 w2 := by
    have kk := (Keep.alloc (blk (some ⟨w1.heap.size, 0, none⟩)) w1 (.cells #[] 5)).trans keep1
    refine ⟨own1, oO.keep kk ?_, g1.then kk ?_, fun g hg => ?_, Hq⟩
    · intro g hg hm; simp [blk] at hg hm; have := oO.lt q (by simp [blk]); omega
    · intro g hg; simp [blk] at hg; have := g1.size; omega
    · have := oO.lt q (by simp [blk])
      rcases blk1 g hg with h' | h'
      · simp [blk] at h'; omega
      · rw [sz_al] at h'; omega
  have hT := T0.appA (Y := [128]) (L.length + 1) (by simp) (by simpa [B] using own2) keep2 blk2
  rw [show L.length + 1 = (L ++ [128]).length by simp]
  clear T0 own1 own2 keep1 keep2 blk1 blk2 o0 oO g1 sb1 sb
  obtain ⟨M, hM⟩ : ∃ M, M = L ++ [128] := ⟨_, rfl⟩
  rw [← hM] at hT ⊢
  have HM := Lib.hid hM
  clear hM
  go_loopw [5] (fun vr wr => ∃ (j : Nat) (M : List UInt8) (ro : Option Addr) (rc : Nat), vr = .slice ro M.length rc ∧ Hid (M = L ++ 128 :: List.replicate j 0) ∧ Hid (j ≤ zerosN L.length) ∧ TxR q w M ro rc wr) (fun vr _ => 2000000 - lenV vr)
  case atStart => exact ⟨0, M, ao2, cap2, rfl, Lib.hid (by rw [HM.out]; rfl), Lib.hid (by omega), hT⟩
  case round =>
    clear hT HM
    obtain ⟨j, M, ro, rc, rfl, hM, hj, hT⟩ := hrel
    have hMl : M.length = L.length + 1 + j := by rw [hM.out]; simp; omega
    have hXs : M.length ≤ 1000100 := by have := hj.out; unfold zerosN at this; omega
    by_cases h56 : M.length % 64 = 56
    · have hj2 : j = zerosN L.length := by
        have := hj.out
        unfold zerosN at this ⊢
        omega
      have hM2 : Hid (M = midS L) := Lib.hid (by rw [hM.out, hj2]; rfl)
      clear hj hj2 hM hMl
      go_wp2_with fail
      go_loopw [5, 6] (fun vr vi wr => ∃ (i : Nat) (M : List UInt8) (ro : Option Addr) (rc : Nat), vi = .int .i64 (7 - (i : Int)) ∧ i ≤ 8 ∧ vr = .slice ro M.length rc ∧ Hid (M = midS L ++ (List.range i).map (lenB L.length)) ∧ M.length ≤ 1001000 + i ∧ TxR q w M ro rc wr) (fun _ vi _ => (intOf vi + 1).toNat)
      case atStart => exact ⟨0, M, ro, rc, by simp, by omega, rfl, Lib.hid (by simpa using hM2.out), by omega, hT⟩
      case round =>
        clear hT hM2 h56 hXs
        obtain ⟨i, M, ro, rc, rfl, hi8, rfl, hM, hXs, hT⟩ := hrel
        by_cases hi : i < 8
        · have hnext : Hid (M ++ [lenB L.length i] = midS L ++ (List.range (i + 1)).map (lenB L.length)) := Lib.hid (by rw [hM.out, List.range_succ, List.map_append, List.append_assoc]; rfl)
          have hv : ∀ (v : Int), v = ((lenB L.length i).toNat : Int) → List.map B M ++ [Value.int .u8 v] = List.map B M ++ List.map B [lenB L.length i] := by rintro v rfl; rfl
          have Hv := Lib.hid hv
          have hcc : i = 0 ∨ i = 1 ∨ i = 2 ∨ i = 3 ∨ i = 4 ∨ i = 5 ∨ i = 6 ∨ i = 7 := by omega
          clear hi8 hi hv
          rcases hcc with e | e | e | e | e | e | e | e
          all_goals
            go_wp2_with (at_builtin; refine wpList_app TBy rfl rfl (hT.own.grow (Grow.alloc _ _)) (Own.made (n := 1) (heap_alloc_new _ _) rfl (by decide) (by simp [Value.oneCell'])).sl (by omega) (by omega) ?_; intro ao' cap' w9 hown _ hkeep hblk)
            rw [Hv.out _ (by rw [lenB_nat, e]; first | omega | (simp; omega) | simp)] at hown
            have hT2 := hT.appA (Y := [lenB L.length i]) (M.length + 1) (by simp) hown hkeep hblk
            go_roundw
            case rel => exact ⟨i + 1, by first | (rw [e]; rfl) | (simp [e]; done) | (simp [e]; omega), by omega, _, ao', cap', by simp, hnext, by simp; omega, hT2⟩
            case measure => simp [intOf]; try omega
        · obtain rfl : i = 8 := by omega
          have hMp : M = padS L := hM.out
          have hm0 := padS_mod L
          have hpl := padS_len L
          have hR2 : ∀ s : St, s = mixN K (ofL H) (padS L) ((padS L).length / 64) → ∀ w', Grow w w' → R (.returned (.agg (((List.range 32).map (outB s.list)).map B).toArray)) w' := fun s e w' g => by
            have := hR w' g
            unfold sumOf outS at this
            rwa [← e] at this
          have HR2 := Lib.hid hR2
          rw [← hMp] at hm0 HR2
          clear hR hR2 hpl hM hi hi8
          go_upto_region 8 with (fail)
          obtain ⟨N, hN⟩ : ∃ N, M.length = 64 * N := ⟨M.length / 64, by omega⟩
          rw [show M.length / 64 = N by omega] at HR2
          have hNle : N ≤ 20000 := by omega
          have hMlen : 0 < M.length := by rw [hMp, padS_len]; omega
          have hN1 : M.length ≤ 64 * N := by omega
          have hN2 : 64 * N ≤ M.length := by omega
          clear hMp hm0 hXs hN i8 i64
          obtain ⟨gm, om, eg, -⟩ := hT.own.sl.hat hMlen
          subst eg
          obtain rfl : om = 0 := by
            rcases hT.own.row.2 with ⟨hv, -⟩ | ⟨g', cap', cur, hv, -⟩
            · simp at hv
            · simp only [Value.slice.injEq, Option.some.injEq, Addr.mk.injEq, and_true] at hv
              exact hv.1.2
          have sm1 : Sm wr p H K := ⟨sm.1.keep (Keep.of_grow [] hT.gr) (by simp), sm.2⟩
          have hpl : p < w.heap.size := (smr (K := K) sm).2
          refine rSr8 p H K wr sm1 ?_
          intro w2 qh oh g2 hqh
          intros
          have sm2 : Sm w2 p H K := ⟨sm1.1.keep (Keep.of_grow [] g2) (by simp), sm1.2⟩
          have tx2 := hT.own.sl.grow g2
          have oO2 := hT.out.grow g2
          have gw2 := hT.gr.trans g2
          have hgml := hT.own.lt gm (by simp [blk])
          have hqgm := hT.far gm (by simp [blk])
          have hqq := Hq.out
          have hsz2 := g2.size
          have hszr := hT.gr.size
          rw [← ofL_list H hHl] at oh
          clear sm1 hT g2
          go_upto_block 4 with (fail)
          refine rS3 p gm qh rc N H K M (ofL H) hok0 hN1 hN2 hNle w2 sm2 tx2 (by omega) (by omega) (by omega) (by omega) oh ?_
          intro w3 oh3 k3
          intros
          have oO3 := oO2.keep k3 (by simp [blk]; omega)
          have gw3 := gw2.then k3 (fun x hx => by simp at hx; omega)
          have hfin := HR2.out _ rfl
          have hok3 := mixN_ok K (ofL H) hok0 M N
          obtain ⟨st, hst⟩ : ∃ s, s = mixN K (ofL H) M N := ⟨_, rfl⟩
          rw [← hst] at oh3 hok3
          simp only [← hst] at hfin
          clear hst HR2 tx2 oO2 gw2 k3 sm2 oh
          have qo : Own (w3.alloc (.cells (List.replicate 32 (.int .u8 0)).toArray 123)) 123 1 (some ⟨w3.heap.size, 0, none⟩) 32 32 (List.replicate 32 (.int .u8 0)) := own_new w3 _ rfl (by omega)
          have ga := Grow.alloc w3 (.cells (List.replicate 32 (.int .u8 0)).toArray 123)
          have oh4 := oh3.grow ga
          have oO4 := oO3.grow ga
          have gw4 := gw3.trans ga
          have hqh3 := oh3.lt qh (by simp [blk])
          have hq3 := oO3.lt q (by simp [blk])
          clear oh3 oO3 gw3 ga
          go_upto_block 14 with (fail)
          change Code.wp _ _ _ _ (w3.alloc (.cells (List.replicate 32 (.int .u8 0)).toArray 123))
          obtain ⟨q2, hq2⟩ : ∃ q2, q2 = w3.heap.size := ⟨_, rfl⟩
          generalize (w3.alloc (.cells (List.replicate 32 (.int .u8 0)).toArray 123)) = w4 at *
          rw [← hq2] at qo hqh3 hq3 ⊢
          clear hq2
          refine rS8 qh q2 st hok3 (by omega) w4 oh4 qo ?_
          intro w5 o5 k5
          intros
          have oO5 := oO4.keep k5 (by simp [blk]; omega)
          have gw5 := gw4.then k5 (fun x hx => by simp at hx; omega)
          have hF : ((outS st).map B).length = 32 := by simp [outS]
          have hfin2 : ∀ w', Grow w w' → R (.returned (.agg ((outS st).map B).toArray)) w' := hfin
          have h1F := o5.one
          clear oh4 qo oO4 gw4 k5 hfin hok3
          obtain ⟨F, eF⟩ : ∃ F, F = (outS st).map B := ⟨_, rfl⟩
          rw [← eF] at o5 hF h1F
          simp only [← eF] at hfin2
          clear eF
          have hrg := own_range o5 (by omega)
          have hth : w5.there q 0 F.toArray.size := own_there oO5 _ (by simpa using hF)
          have hsz : (Try.prog.info? 123).map (·.size) = some F.length := by rw [hF]; exact i32
          have hall := one_all h1F
          have hrg2 := World.rangeAt_setCells_same w5 q 0 F (by simpa using hth)
          have gg := gw5.then (Keep.setCells q F 0 w5) (fun x hx => by simp at hx; omega)
          clear gw5 o5 oO5 h1F hF hqq
          go_upto_region 40 with (fail)
          refine rSr40 q q2 F w5 hsz hrg hth hall ?_
          intros
          go_wp2_with fail
          exact bodyPost_ret (v := .agg F.toArray) (results_mid Try.results109 _ _ q _ _ rfl hrg2 Try.underlying123 rfl hsz) rfl (hfin2 _ gg)
    · have hj2 : j + 1 ≤ zerosN L.length := by
        have := hj.out
        have e : j ≠ zerosN L.length := fun e => h56 (by rw [e] at hMl; unfold zerosN at hMl; omega)
        omega
      clear hMl
      go_wp2_with (at_builtin; refine wpList_app TBy rfl rfl (hT.own.grow (Grow.alloc _ _)) (Own.made (n := 1) (heap_alloc_new _ _) rfl (by decide) (by simp [Value.oneCell'])).sl (by omega) (by omega) ?_; intro ao' cap' w9 hown _ hkeep hblk)
      have hT2 := hT.appA (Y := [0]) (M.length + 1) (by simp) (by simpa [B] using hown) hkeep hblk
      rw [show M.length + 1 = (M ++ [0]).length by simp]
      go_roundw
      case rel => exact ⟨j + 1, _, ao', cap', rfl, Lib.hid (by rw [hM.out, List.replicate_succ']; simp), Lib.hid hj2, hT2⟩
      case measure => simp [lenV]; omega
end Go.Proofs.Ytfmnkcmicbnfdaa
