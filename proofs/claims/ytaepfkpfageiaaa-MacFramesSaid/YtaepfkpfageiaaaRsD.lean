/- The document's sum: block by block. -/
import Derived.Test.YtaepfkpfageiaaaRsA
import Derived.Test.YtaepfkpfageiaaaRsB
import Derived.Test.YtaepfkpfageiaaaRsC
namespace Go.Proofs.Ytaepfkpfageiaaa
open Go Go.RowKit


set_option maxRecDepth 100000 in
set_option maxHeartbeats 2000000 in
theorem rS3 (p gm qh c N : Nat) (H K : List Nat) (M : List UInt8) (s0 : St) (hs0 : s0.ok) (hN1 : M.length ≤ 64 * N) (hN2 : 64 * N ≤ M.length) (hNle : N ≤ 20000) {c1 c2 c3 c4 c6 c9 c10 c11 c12 c13 c14 c15 c16 c17 c18 c19 c20 c21 c22 c23 c24 c25 c26 c27 c28 c29 c30 c31 c32 c33 c34 c35 c36 c37 c38 c39 c40 c41 c42 c43 c44 c45 c46 c47 c48 c49 c50 c51 c52 c53 c54 c55 c56 c57 c58 c59 c60 c61 c62 c63 c64 c65 c66 c67 c68 c69 c70 c71 c72 c73 c74 c75 c76 c77 c78 c79 c80 c81 c82 c83 c84 c85 c86 c87 c88 c89 c90 c91 c92 c93 c94 c95 c96 c97 c98 c99 c100 c101 c102 c103 c104 c105 c106 c107 c108 c109 c110 c111 c112 c113 c114 c115 c116 c117 c118 c119 c120 c121 c122 c123 c124 c125 c126 c127 c128 c129 c130 c131 c132 c133 c134 c135 c136 c137 c138 c139 c140 c141 c142 c143 c144 c145 c146 c147 c148 c149 c150 c151 c152 c153 c154 c155 c156 c157 c158 c159 c160 c161 c162 c163 c164 c165 c166 c167 c168 c169 c170 c171 c172 c173 c174 c175 c176 c177 c178 c179 c180 c181 c182 c183 c184 c185 c186 c187 c188 c189 c190 c191 c192 c193 c194 c195 c196 c197 c198 c199 c200 c201 c202 c203 c204 c205 c206 c207 c208 c209 c210 c211 c212 c213 c214 c215 c216 c217 c218 c219 c220 c221 c222 c223 c224 c225 c226 c227 c228 c229 c230 c231 c232 c233 c234 c235 c236 c237 c238 c239 c240 c241 c242 c243 c244 c245 c246 c247 c248 c249 c250 c251 c252 c253 c254 c255 c256 : Value} (w : World) (sm : Sm w p H K)
    (tx : Sl w 1 (some ⟨gm, 0, none⟩) M.length c (M.map B)) (hgm : gm < w.heap.size) (hp : p < w.heap.size) (hgq : gm ≠ qh) (hpq : p ≠ qh)
    (oh : Own w 77 1 (some ⟨qh, 0, none⟩) 8 8 (s0.list.map U)) {Q : Exit → Act → World → Prop}
    (hQ : ∀ (w' : World), Own w' 77 1 (some ⟨qh, 0, none⟩) 8 8 ((mixN K s0 M N).list.map U) → Keep [qh] w w' → ∀ {u8 u9 u10 u11 u12 u13 u14 u15 u16 u17 u18 u19 u20 u21 u55 u56 u57 u58 u59 u60 u61 u62 u63 u64 u65 u66 u67 u68 u69 u70 u71 u72 u73 u74 u75 u76 u77 u78 u79 u80 u81 u82 u83 u84 u85 u86 u87 u88 u89 u90 u91 u92 u93 u94 u95 u96 u97 u98 u99 u100 u101 u102 u103 u104 u105 u106 u107 u108 u109 u110 u111 u112 u113 u114 u115 u116 u117 u118 u119 u120 u121 u122 u123 u124 u125 u126 u127 u128 u129 u130 u131 u132 u133 u134 u135 u136 u137 u138 u139 u140 u141 u142 u143 u144 u145 u146 u147 u148 u149 u150 u151 u152 u153 u154 u155 u156 u157 u158 u159 u160 u161 u162 u163 u164 u165 u166 u167 u168 u169 u170 u171 u172 u173 u174 u175 u176 u177 u178 u179 u180 u181 u182 u183 u184 u185 u186 u187 u188 u189 u190 u191 u192 u193 u194 u195 u196 u197 u198 u199 u200 u201 u202 u203 u204 u205 u206 u207 u208 u209 u210 u211 u212 u213 u214 u215 u216 u217 u218 u219 u220 u221 u222 u223 u224 u225 u226 u227 u228 u229 u230 u231 u232 u233 u234 u235 u236 u237 u238 u239 : Value}, Q .normal ⟨List.toArray (.pointer (some ⟨p, 0, none⟩) :: c1 :: c2 :: c3 :: c4 :: .slice (some ⟨gm, 0, none⟩) M.length c :: c6 :: .pointer (some ⟨qh, 0, none⟩) :: u8 :: u9 :: u10 :: u11 :: u12 :: u13 :: u14 :: u15 :: u16 :: u17 :: u18 :: u19 :: u20 :: u21 :: c22 :: c23 :: c24 :: c25 :: c26 :: c27 :: c28 :: c29 :: c30 :: c31 :: c32 :: c33 :: c34 :: c35 :: c36 :: c37 :: c38 :: c39 :: c40 :: c41 :: c42 :: c43 :: c44 :: c45 :: c46 :: c47 :: c48 :: c49 :: c50 :: c51 :: c52 :: c53 :: c54 :: u55 :: u56 :: u57 :: u58 :: u59 :: u60 :: u61 :: u62 :: u63 :: u64 :: u65 :: u66 :: u67 :: u68 :: u69 :: u70 :: u71 :: u72 :: u73 :: u74 :: u75 :: u76 :: u77 :: u78 :: u79 :: u80 :: u81 :: u82 :: u83 :: u84 :: u85 :: u86 :: u87 :: u88 :: u89 :: u90 :: u91 :: u92 :: u93 :: u94 :: u95 :: u96 :: u97 :: u98 :: u99 :: u100 :: u101 :: u102 :: u103 :: u104 :: u105 :: u106 :: u107 :: u108 :: u109 :: u110 :: u111 :: u112 :: u113 :: u114 :: u115 :: u116 :: u117 :: u118 :: u119 :: u120 :: u121 :: u122 :: u123 :: u124 :: u125 :: u126 :: u127 :: u128 :: u129 :: u130 :: u131 :: u132 :: u133 :: u134 :: u135 :: u136 :: u137 :: u138 :: u139 :: u140 :: u141 :: u142 :: u143 :: u144 :: u145 :: u146 :: u147 :: u148 :: u149 :: u150 :: u151 :: u152 :: u153 :: u154 :: u155 :: u156 :: u157 :: u158 :: u159 :: u160 :: u161 :: u162 :: u163 :: u164 :: u165 :: u166 :: u167 :: u168 :: u169 :: u170 :: u171 :: u172 :: u173 :: u174 :: u175 :: u176 :: u177 :: u178 :: u179 :: u180 :: u181 :: u182 :: u183 :: u184 :: u185 :: u186 :: u187 :: u188 :: u189 :: u190 :: u191 :: u192 :: u193 :: u194 :: u195 :: u196 :: u197 :: u198 :: u199 :: u200 :: u201 :: u202 :: u203 :: u204 :: u205 :: u206 :: u207 :: u208 :: u209 :: u210 :: u211 :: u212 :: u213 :: u214 :: u215 :: u216 :: u217 :: u218 :: u219 :: u220 :: u221 :: u222 :: u223 :: u224 :: u225 :: u226 :: u227 :: u228 :: u229 :: u230 :: u231 :: u232 :: u233 :: u234 :: u235 :: u236 :: u237 :: u238 :: u239 :: c240 :: c241 :: c242 :: c243 :: c244 :: c245 :: c246 :: c247 :: c248 :: c249 :: c250 :: c251 :: c252 :: c253 :: c254 :: c255 :: c256 :: []), []⟩ w') :
    Code.wp Try.prog (blockAt Try.f33 4) Q ⟨List.toArray (.pointer (some ⟨p, 0, none⟩) :: c1 :: c2 :: c3 :: c4 :: .slice (some ⟨gm, 0, none⟩) M.length c :: c6 :: .pointer (some ⟨qh, 0, none⟩) :: .int .i64 0 :: c9 :: c10 :: c11 :: c12 :: c13 :: c14 :: c15 :: c16 :: c17 :: c18 :: c19 :: c20 :: c21 :: c22 :: c23 :: c24 :: c25 :: c26 :: c27 :: c28 :: c29 :: c30 :: c31 :: c32 :: c33 :: c34 :: c35 :: c36 :: c37 :: c38 :: c39 :: c40 :: c41 :: c42 :: c43 :: c44 :: c45 :: c46 :: c47 :: c48 :: c49 :: c50 :: c51 :: c52 :: c53 :: c54 :: c55 :: c56 :: c57 :: c58 :: c59 :: c60 :: c61 :: c62 :: c63 :: c64 :: c65 :: c66 :: c67 :: c68 :: c69 :: c70 :: c71 :: c72 :: c73 :: c74 :: c75 :: c76 :: c77 :: c78 :: c79 :: c80 :: c81 :: c82 :: c83 :: c84 :: c85 :: c86 :: c87 :: c88 :: c89 :: c90 :: c91 :: c92 :: c93 :: c94 :: c95 :: c96 :: c97 :: c98 :: c99 :: c100 :: c101 :: c102 :: c103 :: c104 :: c105 :: c106 :: c107 :: c108 :: c109 :: c110 :: c111 :: c112 :: c113 :: c114 :: c115 :: c116 :: c117 :: c118 :: c119 :: c120 :: c121 :: c122 :: c123 :: c124 :: c125 :: c126 :: c127 :: c128 :: c129 :: c130 :: c131 :: c132 :: c133 :: c134 :: c135 :: c136 :: c137 :: c138 :: c139 :: c140 :: c141 :: c142 :: c143 :: c144 :: c145 :: c146 :: c147 :: c148 :: c149 :: c150 :: c151 :: c152 :: c153 :: c154 :: c155 :: c156 :: c157 :: c158 :: c159 :: c160 :: c161 :: c162 :: c163 :: c164 :: c165 :: c166 :: c167 :: c168 :: c169 :: c170 :: c171 :: c172 :: c173 :: c174 :: c175 :: c176 :: c177 :: c178 :: c179 :: c180 :: c181 :: c182 :: c183 :: c184 :: c185 :: c186 :: c187 :: c188 :: c189 :: c190 :: c191 :: c192 :: c193 :: c194 :: c195 :: c196 :: c197 :: c198 :: c199 :: c200 :: c201 :: c202 :: c203 :: c204 :: c205 :: c206 :: c207 :: c208 :: c209 :: c210 :: c211 :: c212 :: c213 :: c214 :: c215 :: c216 :: c217 :: c218 :: c219 :: c220 :: c221 :: c222 :: c223 :: c224 :: c225 :: c226 :: c227 :: c228 :: c229 :: c230 :: c231 :: c232 :: c233 :: c234 :: c235 :: c236 :: c237 :: c238 :: c239 :: c240 :: c241 :: c242 :: c243 :: c244 :: c245 :: c246 :: c247 :: c248 :: c249 :: c250 :: c251 :: c252 :: c253 :: c254 :: c255 :: c256 :: []), []⟩ w := by
  have i8 : (Try.prog.info? 77).map (·.size) = some 8 := by kernel_rfl
  have hml : maxLen = 9223372036854775807 := rfl
  conv => arg 2; whnf
  refine wp_block ?_
  go_loopw [8] (fun va wr => ∃ (n a : Nat) (s : St), va = .int .i64 (a : Int) ∧ Hid (a = 64 * n) ∧ a ≤ 64 * n ∧ 64 * n ≤ a ∧ n ≤ N ∧ Hid (s = mixN K s0 M n) ∧ s.ok ∧ Own wr 77 1 (some ⟨qh, 0, none⟩) 8 8 (s.list.map U) ∧ Keep [qh] w wr) (fun va _ => 64 * N - (intOf va).toNat)
  case atStart => exact ⟨0, 0, s0, by simp, Lib.hid rfl, by omega, by omega, by omega, Lib.hid rfl, hs0, oh, Keep.refl _ _⟩
  case round =>
    clear oh hs0
    obtain ⟨n, a, st, rfl, Ha, ha1, ha2, hn, hst, hok, oh, kr⟩ := hrel
    by_cases hnN : n < N
    · have haM : a + 64 ≤ M.length := by omega
      have haM1 : a < M.length := by omega
      have hst2 : Hid (mixS K st ((M.drop (64 * n)).take 64) = mixN K s0 M (n + 1)) := Lib.hid (by rw [mixN, ← hst.out])
      have hok2 : (mixN K s0 M (n + 1)).ok := by rw [← hst2.out]; exact mixS_ok _ _ _
      rw [← Ha.out] at hst2
      have hbyte : ∀ j, j < 64 → (M.map B)[a + j]? = some (.int .u8 ((((M.drop a).take 64).getD j 0).toNat : Int)) := fun j hj => by
        rw [List.getElem?_map, List.getElem?_eq_getElem (by omega)]
        simp [List.getD_eq_getElem?_getD, hj, List.getElem?_drop, List.getElem?_eq_getElem (show a + j < M.length by omega), B]
      obtain ⟨l, hle⟩ : ∃ l, l = (M.drop a).take 64 := ⟨_, rfl⟩
      rw [← hle] at hst2
      simp only [← hle] at hbyte
      have hqh := oh.lt qh (by simp [blk])
      have hszr := kr.size
      have oz0 : Own (wr.alloc (.cells (List.replicate 64 (U 0)).toArray 79)) 79 1 (some ⟨wr.heap.size, 0, none⟩) 64 64 (arr []) := Own.made (n := 64) (heap_alloc_new wr _) rfl (by decide) (by simp [U, Value.oneCell'])
      have oz : Own (wr.alloc (.cells (List.replicate 64 (U 0)).toArray 79)) 79 1 (some ⟨wr.heap.size, 0, none⟩) 64 64 (arr (wOf l 0)) := oz0
      clear oz0
      have ga := Grow.alloc wr (.cells (List.replicate 64 (U 0)).toArray 79)
      have oh2 := oh.grow ga
      have tx2 := (tx.keep kr (by simp [blk]; omega)).grow ga
      have sm2 : Sm (wr.alloc (.cells (List.replicate 64 (U 0)).toArray 79)) p H K := ⟨(sm.1.keep kr (by simp; omega)).keep (Keep.of_grow [] ga) (by simp), sm.2⟩
      have kr2 := kr.trans' (Keep.of_grow [] ga) (by simp)
      clear hle hst hn ga
      go_upto_region 13 with (fail)
      change Code.wp _ _ _ _ (wr.alloc (.cells (List.replicate 64 (U 0)).toArray 79))
      obtain ⟨qw, hqw⟩ : ∃ qw, qw = wr.heap.size := ⟨_, rfl⟩
      have hsz2 : (wr.alloc (.cells (List.replicate 64 (U 0)).toArray 79)).heap.size = wr.heap.size + 1 := by simp
      generalize (wr.alloc (.cells (List.replicate 64 (U 0)).toArray 79)) = w2 at *
      rw [← hqw] at oz hqh hszr hsz2 ⊢
      have hgw : gm < qw := by omega
      have hpw : p < qw := by omega
      have hww : w.heap.size ≤ qw := by omega
      have hsz3 : qw < w2.heap.size := by omega
      clear hqw oh hsz2 hszr
      go_upto_block 6 with (fail)
      refine rS4 qw gm a c M l w2 haM (by omega) (by omega) hbyte tx2 oz ?_
      intro w3 oz3 k3
      intros
      have oh3 := oh2.keep k3 (by simp [blk]; omega)
      have sm3 : Sm w3 p H K := ⟨sm2.1.keep k3 (by simp; omega), sm2.2⟩
      have kr3 := kr2.trans' k3 (by simp; omega)
      have hsz4 := k3.size
      clear tx2 oz oh2 sm2 kr2 hbyte
      go_upto_block 8 with (fail)
      refine rS5 qw l w3 oz3 ?_
      intro w4 oz4 k4
      intros
      have oh4 := oh3.keep k4 (by simp [blk]; omega)
      have sm4 : Sm w4 p H K := ⟨sm3.1.keep k4 (by simp; omega), sm3.2⟩
      have kr4 := kr3.trans' k4 (by simp; omega)
      have hsz5 := k4.size
      have hsz6 : qw < w4.heap.size := by omega
      clear oz3 oh3 sm3 kr3 k3 k4 hsz4 hsz5
      have hWl := wOf_len l 64
      have hWlt := wOf_lt l 64
      obtain ⟨Wl, hWe⟩ : ∃ W, W = wOf l 64 := ⟨_, rfl⟩
      have hmix : mixS K st l = st.add (rds K Wl st 64) := by rw [hWe]; rfl
      rw [← hWe] at oz4 hWl hWlt
      rw [hmix] at hst2
      have HWl := Lib.hid hWl
      clear hmix hWe
      have oW : Own w4 79 1 (some ⟨qw, 0, none⟩) 64 64 (Wl.map U) := by
        have : arr Wl = Wl.map U := by unfold arr; simp [hWl]
        rwa [this] at oz4
      clear oz4 hWl
      go_upto_region 23 with (fail)
      refine rS23 qh st.list rfl w4 oh4 ?_
      intro w5 qv v2 g5 hqv
      intros
      have oW5 := oW.grow g5
      have oh5 := oh4.grow g5
      have sm5 : Sm w5 p H K := ⟨sm4.1.keep (Keep.of_grow [] g5) (by simp), sm4.2⟩
      have kr5 := kr4.trans' (Keep.of_grow [] g5) (by simp)
      have hsz7 := g5.size
      clear oW oh4 sm4 kr4 g5
      go_upto_block 10 with (fail)
      refine rS6 p qw qv H K Wl st hok HWl.out hWlt w5 sm5 (by omega) (by omega) v2 oW5 ?_
      intro w6 hok6 v6 k6
      intros
      have oh6 := oh5.keep k6 (by simp [blk]; omega)
      have sm6 : Sm w6 p H K := ⟨sm5.1.keep k6 (by simp; omega), sm5.2⟩
      have kr6 := kr5.trans' k6 (by simp; omega)
      clear v2 oW5 oh5 sm5 kr5 k6 hWlt HWl
      obtain ⟨s6, hs6⟩ : ∃ s, s = rds K Wl st 64 := ⟨_, rfl⟩
      rw [← hs6] at hst2 hok6 v6
      clear hs6
      go_upto_block 12 with (fail)
      refine rS7 qh qv st s6 hok hok6 (by omega) w6 oh6 v6 ?_
      intro w7 oh7 k7
      intros
      have kr7 := kr6.trans k7
      rw [hst2.out] at oh7
      clear oh6 v6 sm6 kr6 k7 hok hok6 hst2
      obtain ⟨s7, hs7⟩ : ∃ s, s = mixN K s0 M (n + 1) := ⟨_, rfl⟩
      rw [← hs7] at oh7 hok2
      have Hs7 := Lib.hid hs7
      clear hs7
      go_wp2_with fail
      go_roundw
      case rel => exact ⟨n + 1, a + 64, s7, by go_num, Lib.hid (by rw [Ha.out]; omega), by omega, by omega, by omega, Hs7, hok2, oh7, kr7⟩
      case measure => simp [intOf]; omega
    · obtain rfl : n = N := by omega
      rw [hst.out] at oh
      have hge : M.length ≤ a := by omega
      clear hst hok Ha tx sm
      go_wp2_with fail
      exact hQ _ oh kr
end Go.Proofs.Ytaepfkpfageiaaa
