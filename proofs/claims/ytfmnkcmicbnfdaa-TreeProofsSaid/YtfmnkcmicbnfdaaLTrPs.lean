/- TreeProofs: its regions 19 and 21. -/
import Derived.Test.YtfmnkcmicbnfdaaLTrPr
namespace Go.Proofs.Ytfmnkcmicbnfdaa
open Go Go.RowKit

theorem u8_B (z : Int) : ∃ x : UInt8, (.int .u8 (z % 256) : Value) = B x := by
  refine ⟨UInt8.ofNat (z % 256).toNat, ?_⟩
  unfold B
  congr 1
  rw [UInt8.toNat_ofNat']
  omega
/-- A byte of a list of blocks is turned. -/
theorem bVs_put (P : List B16) (i : Nat) (hi : i < 16 * P.length) (x : UInt8) : ∃ P' : List B16, P'.length = P.length ∧ bVs P' = (bVs P).set i (B x) := by
  have h1 : i / 16 < P.length := by omega
  refine ⟨P.set (i / 16) ⟨(P[i / 16]).b.set (i % 16) x, by rw [List.length_set]; exact (P[i / 16]).h⟩, by simp, ?_⟩
  have hs : ∀ (P : List B16) (a j : Nat) (b : B16) (ha : a < P.length), j < 16 → b.b = (P[a]).b.set j x → bVs (P.set a b) = (bVs P).set (a * 16 + j) (B x) := by
    intro P
    induction P with
    | nil => intro a j b ha; simp at ha
    | cons p P ih =>
      intro a j b ha hj hb
      cases a with
      | zero =>
        simp only [List.getElem_cons_zero] at hb
        simp only [List.set_cons_zero, bVs, List.flatMap_cons, hb, List.map_set, Nat.zero_mul, Nat.zero_add]
        rw [List.set_append_left _ _ (by rw [List.length_map, p.h]; exact hj)]
      | succ a =>
        simp only [List.getElem_cons_succ] at hb
        have := ih a j b (by simpa using ha) hj hb
        simp only [bVs] at this
        simp only [List.set_cons_succ, bVs, List.flatMap_cons, this]
        rw [List.set_append_right _ _ (by rw [List.length_map, p.h]; omega), List.length_map, p.h]
        congr 2
        omega
  rw [hs P (i / 16) (i % 16) _ h1 (by omega) rfl]
  congr 1
  omega


set_option maxRecDepth 100000 in
set_option maxHeartbeats 4000000 in
theorem trPr19 (qo : Option Addr) (m mc i : Nat) (xb : Int) (P : List B16) (hm : m = P.length) (hmm : m ≤ 100000) (hi : i < 16 * m) {c0 c1 c2 c3 c4 c5 c6 c7 c8 c9 c10 c11 c12 c13 c14 c15 c16 c17 c18 c19 c21 c24 c25 c26 c27 c28 c29 c30 c31 c32 c33 c34 c35 c36 c37 c38 c39 c40 c41 c42 c43 c44 c45 c46 c47 c48 c49 c50 c51 c52 c53 c54 c55 c56 c57 c58 c59 c60 c61 c62 c63 c64 c65 c66 c67 c68 c69 c70 c71 c72 c73 c74 c75 c76 c77 c78 c79 c80 c81 c82 c83 c84 c85 c86 c87 c88 c89 c90 c91 c92 c93 c94 c95 c96 c97 c98 c99 c100 c101 c102 c103 c104 c105 c106 c107 c108 c109 c110 c111 c112 c113 c114 c115 c116 c117 c118 c119 c120 c121 c122 c123 c124 c125 c126 c127 c128 c129 c130 c131 c132 c133 c134 c135 c136 c137 c138 c139 c140 c141 c142 c143 c144 c145 c146 c147 c148 c149 c150 c151 c152 c153 c154 c155 c156 c157 c158 c159 c160 c161 c162 c163 c164 c165 c166 c167 c168 c169 c170 c171 c172 c173 c174 c175 c176 c177 c178 c179 c180 c181 c182 c183 c184 c185 c186 c187 c188 c189 c190 c191 c192 c193 c194 c195 c196 c197 c198 c199 c200 c201 c202 c203 c204 c205 c206 c207 c208 c209 c210 c211 c212 c213 c214 c215 c216 c217 : Value} (w : World) (o : Own w 33 16 qo m mc (bVs P)) {Q : Exit → Act → World → Prop}
    (hQ : ∀ (P' : List B16) (w' : World), P'.length = P.length → Own w' 33 16 qo m mc (bVs P') → Keep (blk qo) w w' → ∀ {u158 u159 u160 u161 u162 u163 u164 u165 u166 u167 u168 u169 u170 u171 u172 u173 u174 : Value}, Q .normal ⟨List.toArray (c0 :: c1 :: c2 :: c3 :: c4 :: c5 :: c6 :: c7 :: c8 :: c9 :: c10 :: c11 :: c12 :: c13 :: c14 :: c15 :: c16 :: c17 :: c18 :: c19 :: .slice qo m mc :: c21 :: .int .i64 (i : Int) :: .int .u8 xb :: c24 :: c25 :: c26 :: c27 :: c28 :: c29 :: c30 :: c31 :: c32 :: c33 :: c34 :: c35 :: c36 :: c37 :: c38 :: c39 :: c40 :: c41 :: c42 :: c43 :: c44 :: c45 :: c46 :: c47 :: c48 :: c49 :: c50 :: c51 :: c52 :: c53 :: c54 :: c55 :: c56 :: c57 :: c58 :: c59 :: c60 :: c61 :: c62 :: c63 :: c64 :: c65 :: c66 :: c67 :: c68 :: c69 :: c70 :: c71 :: c72 :: c73 :: c74 :: c75 :: c76 :: c77 :: c78 :: c79 :: c80 :: c81 :: c82 :: c83 :: c84 :: c85 :: c86 :: c87 :: c88 :: c89 :: c90 :: c91 :: c92 :: c93 :: c94 :: c95 :: c96 :: c97 :: c98 :: c99 :: c100 :: c101 :: c102 :: c103 :: c104 :: c105 :: c106 :: c107 :: c108 :: c109 :: c110 :: c111 :: c112 :: c113 :: c114 :: c115 :: c116 :: c117 :: c118 :: c119 :: c120 :: c121 :: c122 :: c123 :: c124 :: c125 :: c126 :: c127 :: c128 :: c129 :: c130 :: c131 :: c132 :: c133 :: c134 :: c135 :: c136 :: c137 :: c138 :: c139 :: c140 :: c141 :: c142 :: c143 :: c144 :: c145 :: c146 :: c147 :: c148 :: c149 :: c150 :: c151 :: c152 :: c153 :: c154 :: c155 :: c156 :: c157 :: u158 :: u159 :: u160 :: u161 :: u162 :: u163 :: u164 :: u165 :: u166 :: u167 :: u168 :: u169 :: u170 :: u171 :: u172 :: u173 :: u174 :: c175 :: c176 :: c177 :: c178 :: c179 :: c180 :: c181 :: c182 :: c183 :: c184 :: c185 :: c186 :: c187 :: c188 :: c189 :: c190 :: c191 :: c192 :: c193 :: c194 :: c195 :: c196 :: c197 :: c198 :: c199 :: c200 :: c201 :: c202 :: c203 :: c204 :: c205 :: c206 :: c207 :: c208 :: c209 :: c210 :: c211 :: c212 :: c213 :: c214 :: c215 :: c216 :: c217 :: []), []⟩ w') :
    Code.wp Try.prog (regionAt Try.f9 19) Q ⟨List.toArray (c0 :: c1 :: c2 :: c3 :: c4 :: c5 :: c6 :: c7 :: c8 :: c9 :: c10 :: c11 :: c12 :: c13 :: c14 :: c15 :: c16 :: c17 :: c18 :: c19 :: .slice qo m mc :: c21 :: .int .i64 (i : Int) :: .int .u8 xb :: c24 :: c25 :: c26 :: c27 :: c28 :: c29 :: c30 :: c31 :: c32 :: c33 :: c34 :: c35 :: c36 :: c37 :: c38 :: c39 :: c40 :: c41 :: c42 :: c43 :: c44 :: c45 :: c46 :: c47 :: c48 :: c49 :: c50 :: c51 :: c52 :: c53 :: c54 :: c55 :: c56 :: c57 :: c58 :: c59 :: c60 :: c61 :: c62 :: c63 :: c64 :: c65 :: c66 :: c67 :: c68 :: c69 :: c70 :: c71 :: c72 :: c73 :: c74 :: c75 :: c76 :: c77 :: c78 :: c79 :: c80 :: c81 :: c82 :: c83 :: c84 :: c85 :: c86 :: c87 :: c88 :: c89 :: c90 :: c91 :: c92 :: c93 :: c94 :: c95 :: c96 :: c97 :: c98 :: c99 :: c100 :: c101 :: c102 :: c103 :: c104 :: c105 :: c106 :: c107 :: c108 :: c109 :: c110 :: c111 :: c112 :: c113 :: c114 :: c115 :: c116 :: c117 :: c118 :: c119 :: c120 :: c121 :: c122 :: c123 :: c124 :: c125 :: c126 :: c127 :: c128 :: c129 :: c130 :: c131 :: c132 :: c133 :: c134 :: c135 :: c136 :: c137 :: c138 :: c139 :: c140 :: c141 :: c142 :: c143 :: c144 :: c145 :: c146 :: c147 :: c148 :: c149 :: c150 :: c151 :: c152 :: c153 :: c154 :: c155 :: c156 :: c157 :: c158 :: c159 :: c160 :: c161 :: c162 :: c163 :: c164 :: c165 :: c166 :: c167 :: c168 :: c169 :: c170 :: c171 :: c172 :: c173 :: c174 :: c175 :: c176 :: c177 :: c178 :: c179 :: c180 :: c181 :: c182 :: c183 :: c184 :: c185 :: c186 :: c187 :: c188 :: c189 :: c190 :: c191 :: c192 :: c193 :: c194 :: c195 :: c196 :: c197 :: c198 :: c199 :: c200 :: c201 :: c202 :: c203 :: c204 :: c205 :: c206 :: c207 :: c208 :: c209 :: c210 :: c211 :: c212 :: c213 :: c214 :: c215 :: c216 :: c217 :: []), []⟩ w := by
  have hml : maxLen = 9223372036854775807 := rfl
  have hle := o.sl.hle
  have hcap := o.sl.hcap
  have hlen : (bVs P).length = P.length * 16 := bVs_len P
  obtain ⟨gq, u, eq, hu, hfz, hput⟩ := own_put o (i := i) (by omega)
  subst eq
  obtain ⟨a, ha⟩ : ∃ a, a = i / 16 := ⟨_, rfl⟩
  obtain ⟨r, hr⟩ : ∃ r, r = i % 16 := ⟨_, rfl⟩
  have hia : a < m := by omega
  have hib : r < 16 := by omega
  have hadd : a * 16 + r = i := by omega
  have hE : (i : Int) % 16 = (r : Int) := by omega
  have hD : (i : Int) / 16 = (a : Int) := by omega
  have htm : (i : Int).tmod 16 = (r : Int) := by rw [Int.tmod_eq_emod_of_nonneg (by omega)]; omega
  have htd : (i : Int).tdiv 16 = (a : Int) := by rw [Int.tdiv_eq_ediv_of_nonneg (by omega)]; omega
  obtain ⟨gl, off, el, hcs⟩ := o.sl.hat (by omega)
  cases el
  obtain ⟨b, hb⟩ : ∃ b : UInt8, (bVs P)[i]? = some (B b) := by
    have hP : a < P.length := by omega
    have := bVs_at P a hP r (by omega)
    rw [hadd] at this
    rw [this, List.getElem?_map]
    have h2 : r < (P[a]).b.length := by rw [(P[a]).h]; omega
    rw [List.getElem?_eq_getElem h2]
    exact ⟨_, rfl⟩
  have hc : w.cell? ⟨gq, 0 + i, none⟩ = some (.int .u8 (b.toNat : Int)) := hcs.at hb
  rw [Nat.zero_add, ← hadd] at hc
  have q0 := KW.cell (fp := []) (p0 := tt) hc (by simp)
  rw [← hadd] at hfz
  have Hput := Lib.hid hput
  have hi63 : (i : Int) ≤ 9223372036854775807 := by omega
  have hap : ((a : Int) * 16 + (r : Int)) = (i : Int) := by omega
  have Hadd := Lib.hid hadd
  clear hu hput hb hcs hc hlen ha hr hadd
  conv => arg 2; whnf
  refine wp_region_R (segT w []) (by kernel_rfl) segT_drew ?_
  unfold segT segK segR
  repeat (first | (refine wpV_skp rfl rfl ?_; simp only [List.set_cons_succ, List.set_cons_zero]) | (refine wpV_look rfl rfl rfl rfl rfl (fun K hK => ?_); go_big_quiet_op; refine hK _ ?_; clear hK K))
  refine wpV_end0 rfl rfl (by kernel_rfl) (fun w7 hC hF => ?_)
  obtain ⟨⟨w7, hk7, -⟩, rfl⟩ := hC
  have o7 := o.keep hk7 (by simp)
  obtain ⟨gq', u7, eq7, hu7, hf7, hput7⟩ := own_put o7 (i := i) (by omega)
  cases eq7
  obtain ⟨x, hx⟩ := u8_B ((b.toNat : Int) + xb)
  obtain ⟨P', hl', hb'⟩ := bVs_put P i (by omega) x
  have ho := hput7 (B x) rfl
  rw [← hb'] at ho
  have hkp : Keep (blk (some ⟨gq, 0, none⟩)) w (w7.setCell ⟨gq, i, none⟩ (B x)) := (hk7.mono (by simp)).trans (Keep.setCell _ _ (by simp [blk]) _)
  have hf := fun {u158 u159 u160 u161 u162 u163 u164 u165 u166 u167 u168 u169 u170 u171 u172 u173 u174 : Value} => @hQ P' _ hl' ho hkp u158 u159 u160 u161 u162 u163 u164 u165 u166 u167 u168 u169 u170 u171 u172 u173 u174
  have ea : (⟨gq, i, none⟩ : Addr) = ⟨gq, a * 16 + r, none⟩ := by rw [Hadd.out]
  rw [← hx, ea] at hf
  rw [← Hadd.out] at hu7 hf7
  clear hQ ho hput7 hF o7 Hput hb' hkp q0 hx o hE hD htm htd hap hm ea hl'
  unfold yields
  go_simp
  simp only [yUpon]
  exact hf


set_option maxRecDepth 100000 in
set_option maxHeartbeats 8000000 in
theorem trPr21 (w0 : World) (t : Tre) (g : Tgs) {h : Int → Bool} {T : Nat → Nat → B16} {tx : Nat → List UInt8} {hs : Nat → Bool} {FP : List Nat} {cs : List Clm} (po : Option Addr) (pn pc : Nat) (Pf : List B16) {bp : Option Addr} (tb : t.bv = .pointer bp)
    (n k : Nat) (hn : n ≤ 1000) (hk : k < n) (hgn : g.n = n) (htx : ∀ i, (tx i).length ≤ 1000) (hcs : cs.length ≤ 80000) (ph : Nat) (qo : Option Addr) (m mc : Nat) (P : List B16) (hm : m = P.length) (hmm : m ≤ 100000) (q21 : Nat) (RT : B16) (hph : ph ∉ FP) (hqF : ∀ y ∈ blk qo, y ∉ FP) (hrF : q21 ∉ FP) {c1 c2 c3 c4 c5 c6 c7 c8 c9 c10 c11 c12 c14 c16 c18 c22 c23 c24 c25 c26 c27 c28 c29 c30 c31 c32 c33 c34 c35 c36 c37 c38 c39 c40 c41 c42 c43 c44 c45 c46 c47 c48 c49 c50 c51 c52 c53 c54 c55 c56 c57 c58 c59 c60 c61 c62 c63 c64 c65 c66 c67 c68 c69 c70 c71 c72 c73 c74 c75 c76 c77 c78 c79 c80 c81 c82 c83 c84 c85 c86 c87 c88 c89 c90 c91 c92 c93 c94 c95 c96 c97 c98 c99 c100 c101 c102 c103 c104 c105 c106 c107 c108 c109 c110 c111 c112 c113 c114 c115 c116 c117 c118 c119 c120 c121 c122 c123 c124 c125 c126 c127 c128 c129 c130 c131 c132 c133 c134 c135 c136 c137 c138 c139 c140 c141 c142 c143 c144 c145 c146 c147 c148 c149 c150 c151 c152 c153 c154 c155 c156 c157 c158 c159 c160 c161 c162 c163 c164 c165 c166 c167 c168 c169 c170 c171 c172 c173 c174 c175 c176 c177 c178 c179 c180 c181 c182 c183 c184 c185 c186 c187 c188 c189 c190 c191 c192 c193 c194 c195 c196 c197 c198 c199 c200 c201 c202 c203 c204 c205 c206 c207 c208 c209 c210 c211 c212 c213 c214 c215 c216 c217 : Value} (w : World)
    (q : Pq w0 w t g h T tx hs FP cs po pn pc Pf) (sm : Sm w ph Hs Ks) (oq : Own w 33 16 qo m mc (bVs P)) (orr : Own w 33 1 (some ⟨q21, 0, none⟩) 16 16 (RT.b.map B)) {Q : Exit → Act → World → Prop}
    (hQ : ∀ (w' : World), Grow w0 w' → ∀ {u184 u185 u186 u187 u188 u189 u190 u191 u192 u193 u194 u195 u196 u197 u198 u199 u200 u201 u202 u203 u204 u205 u206 u207 u208 u209 u210 u211 u212 u213 u214 u215 u216 u217 : Value}, Q .normal ⟨List.toArray (.int .i64 (n : Int) :: c1 :: c2 :: c3 :: c4 :: c5 :: c6 :: c7 :: c8 :: c9 :: c10 :: c11 :: .bool true :: .pointer bp :: c14 :: .pointer (some ⟨g.p, 0, none⟩) :: c16 :: .int .i64 (k : Int) :: c18 :: .pointer (some ⟨ph, 0, none⟩) :: .slice qo m mc :: .pointer (some ⟨q21, 0, none⟩) :: c22 :: c23 :: c24 :: c25 :: c26 :: c27 :: c28 :: c29 :: c30 :: c31 :: c32 :: c33 :: c34 :: c35 :: c36 :: c37 :: c38 :: c39 :: c40 :: c41 :: c42 :: c43 :: c44 :: c45 :: c46 :: c47 :: c48 :: c49 :: c50 :: c51 :: c52 :: c53 :: c54 :: c55 :: c56 :: c57 :: c58 :: c59 :: c60 :: c61 :: c62 :: c63 :: c64 :: c65 :: c66 :: c67 :: c68 :: c69 :: c70 :: c71 :: c72 :: c73 :: c74 :: c75 :: c76 :: c77 :: c78 :: c79 :: c80 :: c81 :: c82 :: c83 :: c84 :: c85 :: c86 :: c87 :: c88 :: c89 :: c90 :: c91 :: c92 :: c93 :: c94 :: c95 :: c96 :: c97 :: c98 :: c99 :: c100 :: c101 :: c102 :: c103 :: c104 :: c105 :: c106 :: c107 :: c108 :: c109 :: c110 :: c111 :: c112 :: c113 :: c114 :: c115 :: c116 :: c117 :: c118 :: c119 :: c120 :: c121 :: c122 :: c123 :: c124 :: c125 :: c126 :: c127 :: c128 :: c129 :: c130 :: c131 :: c132 :: c133 :: c134 :: c135 :: c136 :: c137 :: c138 :: c139 :: c140 :: c141 :: c142 :: c143 :: c144 :: c145 :: c146 :: c147 :: c148 :: c149 :: c150 :: c151 :: c152 :: c153 :: c154 :: c155 :: c156 :: c157 :: c158 :: c159 :: c160 :: c161 :: c162 :: c163 :: c164 :: c165 :: c166 :: c167 :: c168 :: c169 :: c170 :: c171 :: c172 :: c173 :: c174 :: c175 :: c176 :: c177 :: c178 :: c179 :: c180 :: c181 :: c182 :: c183 :: u184 :: u185 :: u186 :: u187 :: u188 :: u189 :: u190 :: u191 :: u192 :: u193 :: u194 :: u195 :: u196 :: u197 :: u198 :: u199 :: u200 :: u201 :: u202 :: u203 :: u204 :: u205 :: u206 :: u207 :: u208 :: u209 :: u210 :: u211 :: u212 :: u213 :: u214 :: u215 :: u216 :: u217 :: []), []⟩ w') :
    Code.wp Try.prog (regionAt Try.f9 21) Q ⟨List.toArray (.int .i64 (n : Int) :: c1 :: c2 :: c3 :: c4 :: c5 :: c6 :: c7 :: c8 :: c9 :: c10 :: c11 :: c12 :: .pointer bp :: c14 :: .pointer (some ⟨g.p, 0, none⟩) :: c16 :: .int .i64 (k : Int) :: c18 :: .pointer (some ⟨ph, 0, none⟩) :: .slice qo m mc :: .pointer (some ⟨q21, 0, none⟩) :: c22 :: c23 :: c24 :: c25 :: c26 :: c27 :: c28 :: c29 :: c30 :: c31 :: c32 :: c33 :: c34 :: c35 :: c36 :: c37 :: c38 :: c39 :: c40 :: c41 :: c42 :: c43 :: c44 :: c45 :: c46 :: c47 :: c48 :: c49 :: c50 :: c51 :: c52 :: c53 :: c54 :: c55 :: c56 :: c57 :: c58 :: c59 :: c60 :: c61 :: c62 :: c63 :: c64 :: c65 :: c66 :: c67 :: c68 :: c69 :: c70 :: c71 :: c72 :: c73 :: c74 :: c75 :: c76 :: c77 :: c78 :: c79 :: c80 :: c81 :: c82 :: c83 :: c84 :: c85 :: c86 :: c87 :: c88 :: c89 :: c90 :: c91 :: c92 :: c93 :: c94 :: c95 :: c96 :: c97 :: c98 :: c99 :: c100 :: c101 :: c102 :: c103 :: c104 :: c105 :: c106 :: c107 :: c108 :: c109 :: c110 :: c111 :: c112 :: c113 :: c114 :: c115 :: c116 :: c117 :: c118 :: c119 :: c120 :: c121 :: c122 :: c123 :: c124 :: c125 :: c126 :: c127 :: c128 :: c129 :: c130 :: c131 :: c132 :: c133 :: c134 :: c135 :: c136 :: c137 :: c138 :: c139 :: c140 :: c141 :: c142 :: c143 :: c144 :: c145 :: c146 :: c147 :: c148 :: c149 :: c150 :: c151 :: c152 :: c153 :: c154 :: c155 :: c156 :: c157 :: c158 :: c159 :: c160 :: c161 :: c162 :: c163 :: c164 :: c165 :: c166 :: c167 :: c168 :: c169 :: c170 :: c171 :: c172 :: c173 :: c174 :: c175 :: c176 :: c177 :: c178 :: c179 :: c180 :: c181 :: c182 :: c183 :: c184 :: c185 :: c186 :: c187 :: c188 :: c189 :: c190 :: c191 :: c192 :: c193 :: c194 :: c195 :: c196 :: c197 :: c198 :: c199 :: c200 :: c201 :: c202 :: c203 :: c204 :: c205 :: c206 :: c207 :: c208 :: c209 :: c210 :: c211 :: c212 :: c213 :: c214 :: c215 :: c216 :: c217 :: []), []⟩ w := by
  have hml : maxLen = 9223372036854775807 := rfl
  have haw := awake20C
  obtain ⟨gx, ofx, hxo, hcx⟩ := q.tg.txt.sl.hat (by omega)
  have o2 := obj_cell q.tg.obj 2 rfl
  rw [hxo] at o2
  have h2 := hcx.at (i := k) (v := .string (str (tx k))) (by simp [show k < g.n by omega])
  have x1 := q.tg.txt.sl.hle
  have x2 := q.tg.txt.sl.hcap
  rw [hgn] at o2 x1
  have p1 := KW.cell (fp := FP) (p0 := tt) o2 (fun hm => q.ga g.p (by simp [Tgs.all]) hm)
  have p2 := KW.cell (fp := FP) (p0 := tt) h2 (fun hm => q.ga gx (by simp [Tgs.all, hxo, blk]) hm)
  have htxk := htx k
  have hcv := fun w' => conv_str (P := Try.prog) (src := 9) (dst := 27) (e := 5) Try.underlying9 Try.underlying27 Try.underlying5 (str (tx k)) (tx k) rfl (by omega) w'
  have hflt := q.hb.bk.lt
  obtain ⟨v, hv⟩ : ∃ v, v = verS lawK n k (tx k) RT P := ⟨_, rfl⟩
  have hver := fun w' (q : Pq w0 w' t g h T tx hs FP cs po pn pc Pf) ko kc (ok : Own w' 5 1 ko 32 kc (lawK.map B)) (hko : ∀ y ∈ blk ko, w.heap.size ≤ y) a0 tc (st : Sl w' 1 a0 (tx k).length tc ((tx k).map B)) (hst : ∀ y ∈ blk a0, w.heap.size ≤ y) (oq : Own w' 33 16 qo m mc (bVs P)) => q.verify tb n k hn hk ko kc ok (fun y hy hm => by have := hko y hy; have := hflt y hm; omega) hcs RT a0 (tx k).length tc (tx k) htxk st (fun y hy => ⟨fun hm => by have := hst y (bz_sub hy); have := hflt y hm; omega, st.ltZ (by omega) y hy⟩) qo m mc P hm hmm oq hqF v hv
  have hrver := fun w' (sm : Sm w' ph Hs Ks) ko kc (ok : Own w' 5 1 ko 32 kc (lawK.map B)) a0 tc (st : Sl w' 1 a0 (tx k).length tc ((tx k).map B)) (oq : Own w' 33 16 qo m mc (bVs P)) => rVerifyC ph n k hn hk ko kc lawK lawK_len RT a0 (tx k).length tc (tx k) htxk qo m mc P hm hmm w' sm ok.sl st oq.sl
  simp only [← hv] at hrver
  have hl : ∀ w', Keep FP w w' → (Instr.loadAt 33 (.pointer (some ⟨q21, 0, none⟩))).run Try.prog w' = .ok (.agg (RT.b.map B).toArray) w' := fun w' k => load_arr (P := Try.prog) (t := 33) (by omega) (by rw [List.length_map]; exact RT.h) (orr.keep k (fun y hy hm => by simp [blk] at hy; exact hrF (hy ▸ hm))) Try.underlying33 rfl i16
  obtain ⟨X, hX⟩ : ∃ X, X = tx k := ⟨_, rfl⟩
  obtain ⟨XR, hXR⟩ : ∃ X, X = (RT.b.map B).toArray := ⟨_, rfl⟩
  simp only [← hX] at hver hrver hcv p2 htxk
  simp only [← hXR] at hver hrver hl
  have hvv : (v == v) = true := by simp
  clear o2 h2 hcx hxo hX hXR hv orr
  have : Nonempty (KW FP tt w) := ⟨⟨w, Keep.refl _ _, trivial⟩⟩
  let W : Nat → Array Value → Value → World → Prop := fun j _ u w' =>
    (j = 1 → ∃ ao c, u = .slice ao 32 c ∧ Own w' 5 1 ao 32 c (lawK.map B) ∧ ∀ y ∈ blk ao, w.heap.size ≤ y) ∧
    (j = 12 → ∃ ao c, u = .slice ao X.length c ∧ Sl w' 1 ao X.length c (X.map B) ∧ ∀ y ∈ blk ao, w.heap.size ≤ y) ∧
    (j = 14 → u = .bool v ∧ ∃ FP' cs', Pq w0 w' t g h T tx hs FP' cs' po pn pc Pf) ∧
    (j = 17 → ∃ ao c, u = .slice ao 32 c ∧ Own w' 5 1 ao 32 c (lawK.map B) ∧ ∀ y ∈ blk ao, w.heap.size ≤ y) ∧
    (j = 27 → ∃ ao c, u = .slice ao X.length c ∧ Sl w' 1 ao X.length c (X.map B) ∧ ∀ y ∈ blk ao, w.heap.size ≤ y) ∧
    (j = 29 → u = .bool v) ∧ (j = 32 → u = .bool true)
  conv => arg 2; whnf
  refine RC.wp_region_Y FP 14 [1, 12, 14, 17, 27, 29, 32] [(14, 99)] (by simp) W ?_ (fun w' => Pq w0 w' t g h T tx hs FP cs po pn pc Pf) (by kernel_rfl) q (fun w1 w2 g q => q.grow g) ?_
  · rintro i j vs u w1 w' hij hkl _ kp ⟨v1, v2, v3, v4, v5, v6, v7⟩
    have kp2 : Keep FP w1 w' := by
      by_cases e : i = 14
      · rw [if_pos e] at kp; exact kp
      · rw [if_neg e] at kp; exact kp.mono (by simp)
    have hnF : ∀ (a : List Nat), (∀ y ∈ a, w.heap.size ≤ y) → ∀ y ∈ a, y ∉ FP := fun a ha y hy hm => by have := ha y hy; have := hflt y hm; omega
    refine ⟨fun e => ?_, fun e => ?_, fun e => ?_, fun e => ?_, fun e => ?_, v6, v7⟩
    · obtain ⟨ao, c, e, o, hy⟩ := v1 e
      exact ⟨ao, c, e, o.keep kp2 (hnF _ hy), hy⟩
    · obtain ⟨ao, c, e, o, hy⟩ := v2 e
      exact ⟨ao, c, e, o.keep kp2 (hnF _ hy), hy⟩
    · obtain ⟨e1, FP', cs', q'⟩ := v3 e
      have e2 : i ≠ 14 := fun h => hij (h.trans e.symm)
      rw [if_neg e2] at kp
      exact ⟨e1, FP', cs', q'.grow kp.grow⟩
    · obtain ⟨ao, c, e, o, hy⟩ := v4 e
      exact ⟨ao, c, e, o.keep kp2 (hnF _ hy), hy⟩
    · obtain ⟨ao, c, e, o, hy⟩ := v5 e
      exact ⟨ao, c, e, o.keep kp2 (hnF _ hy), hy⟩
  unfold RC.segW
  repeat (first | (refine RC.wpV_skp rfl rfl ?_; simp only [List.set_cons_succ, List.set_cons_zero]) | (refine RC.wpV_val rfl rfl rfl rfl rfl _ (fun w hC => by obtain ⟨n, rfl⟩ := hC; exact exec_load (hl _ n.h)) ?_; simp only [List.set_cons_succ, List.set_cons_zero]) | (refine RC.wpV_look rfl rfl rfl rfl rfl (fun K hK => ?_); go_big_quiet_op; refine hK _ ?_; clear hK K))
  refine RC.wpV_mk rfl rfl rfl [] (by kernel_rfl) (fun vs7 w7 hC hF => yields_call (by kernel_rfl) ?_) (fun vs7 v w7 hC hV hF => ?_)
  · obtain ⟨⟨w7, hk, -⟩, rfl⟩ := hC
    exact keyC w7 _ (fun ao c w8 o8 g8 f8 => ⟨_, rfl, Keep.of_grow [] g8, ⟨fun _ => ⟨ao, c, rfl, o8, fun y hy => Nat.le_trans hk.size (f8 y hy)⟩, by simp, by simp, by simp, by simp, by simp, by simp⟩⟩)
  obtain ⟨b1, d1, rfl, -, -⟩ := hV.1 rfl
  clear hV hC hF w7
  simp only [List.set_cons_succ, List.set_cons_zero]
  repeat (first | (refine RC.wpV_skp rfl rfl ?_; simp only [List.set_cons_succ, List.set_cons_zero]) | (refine RC.wpV_val rfl rfl rfl rfl rfl _ (fun w hC => by obtain ⟨n, rfl⟩ := hC; exact exec_load (hl _ n.h)) ?_; simp only [List.set_cons_succ, List.set_cons_zero]) | (refine RC.wpV_look rfl rfl rfl rfl rfl (fun K hK => ?_); go_big_quiet_op; refine hK _ ?_; clear hK K))
  refine RC.wpV_mk rfl rfl rfl [] (by kernel_rfl) (fun vs7 w7 hC hF => ?_) (fun vs7 v w7 hC hV hF => ?_)
  · obtain ⟨⟨w7, hk, -⟩, rfl⟩ := hC
    obtain ⟨c, w8, hr, s8, g8⟩ := hcv w7
    exact yields_run (exec_conv hr) ⟨Keep.of_grow [] g8, ⟨by simp, fun _ => ⟨_, _, rfl, s8, fun y hy => by have := hk.size; simp [blk] at hy; omega⟩, by simp, by simp, by simp, by simp, by simp⟩⟩
  obtain ⟨b12, d12, rfl, -, -⟩ := hV.2.1 rfl
  clear hV hC hF w7
  simp only [List.set_cons_succ, List.set_cons_zero]
  repeat (first | (refine RC.wpV_skp rfl rfl ?_; simp only [List.set_cons_succ, List.set_cons_zero]) | (refine RC.wpV_val rfl rfl rfl rfl rfl _ (fun w hC => by obtain ⟨n, rfl⟩ := hC; exact exec_load (hl _ n.h)) ?_; simp only [List.set_cons_succ, List.set_cons_zero]) | (refine RC.wpV_look rfl rfl rfl rfl rfl (fun K hK => ?_); go_big_quiet_op; refine hK _ ?_; clear hK K))
  refine RC.wpV_mk rfl rfl rfl [1, 12, 99] (by kernel_rfl) (fun vs7 w7 hC hF => yields_call (by kernel_rfl) ?_) (fun vs7 v w7 hC hV hF => ?_)
  · have h99 := ((((hF 99 (by simp)).1.resolve_left (by simp)).1.resolve_left (by simp))).1 rfl
    obtain ⟨a1, c1, e1, ok1, hy1⟩ := (((hF 1 (by simp)).1.resolve_left (by simp)).2 rfl).1 rfl
    obtain ⟨a2, c2, e2, s2, hy2⟩ := ((hF 12 (by simp)).2 rfl).2.1 rfl
    obtain ⟨⟨w7, hk, -⟩, rfl⟩ := hC
    cases e1
    cases e2
    exact hver w7 h99 _ _ ok1 hy1 _ _ s2 hy2 (oq.keep hk hqF) _ (fun FP8 cs8 w8 q8 _ k8 _ => ⟨_, rfl, k8, ⟨by simp, by simp, fun _ => ⟨rfl, FP8, cs8, q8⟩, by simp, by simp, by simp, by simp⟩⟩)
  obtain ⟨rfl, -⟩ := hV.2.2.1 rfl
  clear hV hC hF w7
  simp only [List.set_cons_succ, List.set_cons_zero]
  repeat (first | (refine RC.wpV_skp rfl rfl ?_; simp only [List.set_cons_succ, List.set_cons_zero]) | (refine RC.wpV_val rfl rfl rfl rfl rfl _ (fun w hC => by obtain ⟨n, rfl⟩ := hC; exact exec_load (hl _ n.h)) ?_; simp only [List.set_cons_succ, List.set_cons_zero]) | (refine RC.wpV_look rfl rfl rfl rfl rfl (fun K hK => ?_); go_big_quiet_op; refine hK _ ?_; clear hK K))
  refine RC.wpV_mk rfl rfl rfl [] (by kernel_rfl) (fun vs7 w7 hC hF => yields_call (by kernel_rfl) ?_) (fun vs7 v w7 hC hV hF => ?_)
  · obtain ⟨⟨w7, hk, -⟩, rfl⟩ := hC
    exact keyC w7 _ (fun ao c w8 o8 g8 f8 => ⟨_, rfl, Keep.of_grow [] g8, ⟨by simp, by simp, by simp, fun _ => ⟨ao, c, rfl, o8, fun y hy => Nat.le_trans hk.size (f8 y hy)⟩, by simp, by simp, by simp⟩⟩)
  obtain ⟨b17, d17, rfl, -, -⟩ := hV.2.2.2.1 rfl
  clear hV hC hF w7
  simp only [List.set_cons_succ, List.set_cons_zero]
  repeat (first | (refine RC.wpV_skp rfl rfl ?_; simp only [List.set_cons_succ, List.set_cons_zero]) | (refine RC.wpV_val rfl rfl rfl rfl rfl _ (fun w hC => by obtain ⟨n, rfl⟩ := hC; exact exec_load (hl _ n.h)) ?_; simp only [List.set_cons_succ, List.set_cons_zero]) | (refine RC.wpV_look rfl rfl rfl rfl rfl (fun K hK => ?_); go_big_quiet_op; refine hK _ ?_; clear hK K))
  refine RC.wpV_mk rfl rfl rfl [] (by kernel_rfl) (fun vs7 w7 hC hF => ?_) (fun vs7 v w7 hC hV hF => ?_)
  · obtain ⟨⟨w7, hk, -⟩, rfl⟩ := hC
    obtain ⟨c, w8, hr, s8, g8⟩ := hcv w7
    exact yields_run (exec_conv hr) ⟨Keep.of_grow [] g8, ⟨by simp, by simp, by simp, by simp, fun _ => ⟨_, _, rfl, s8, fun y hy => by have := hk.size; simp [blk] at hy; omega⟩, by simp, by simp⟩⟩
  obtain ⟨b27, d27, rfl, -, -⟩ := hV.2.2.2.2.1 rfl
  clear hV hC hF w7
  simp only [List.set_cons_succ, List.set_cons_zero]
  repeat (first | (refine RC.wpV_skp rfl rfl ?_; simp only [List.set_cons_succ, List.set_cons_zero]) | (refine RC.wpV_val rfl rfl rfl rfl rfl _ (fun w hC => by obtain ⟨n, rfl⟩ := hC; exact exec_load (hl _ n.h)) ?_; simp only [List.set_cons_succ, List.set_cons_zero]) | (refine RC.wpV_look rfl rfl rfl rfl rfl (fun K hK => ?_); go_big_quiet_op; refine hK _ ?_; clear hK K))
  refine RC.wpV_mk rfl rfl rfl [17, 27] (by kernel_rfl) (fun vs7 w7 hC hF => yields_call (by kernel_rfl) ?_) (fun vs7 v w7 hC hV hF => ?_)
  · obtain ⟨a1, c1, e1, ok1, hy1⟩ := (((hF 17 (by simp)).1.resolve_left (by simp)).2 rfl).2.2.2.1 rfl
    obtain ⟨a2, c2, e2, s2, hy2⟩ := ((hF 27 (by simp)).2 rfl).2.2.2.2.1 rfl
    obtain ⟨⟨w7, hk, -⟩, rfl⟩ := hC
    cases e1
    cases e2
    exact hrver w7 ⟨sm.1.keep hk hph, sm.2⟩ _ _ ok1 _ _ s2 (oq.keep hk hqF) _ ⟨(Sm.lt (H := Hs) (K := Ks) ⟨sm.1.keep hk hph, sm.2⟩), fun y hy => by
      rcases List.mem_append.1 hy with hy | hy
      · exact ok1.lt y hy
      · exact (oq.keep hk hqF).lt y hy⟩ (fun w8 g8 => ⟨_, rfl, Keep.of_grow [] g8, ⟨by simp, by simp, by simp, by simp, by simp, fun _ => rfl, by simp⟩⟩)
  obtain rfl := hV.2.2.2.2.2.1 rfl
  clear hV hC hF w7
  simp only [List.set_cons_succ, List.set_cons_zero]
  repeat (first | (refine RC.wpV_skp rfl rfl ?_; simp only [List.set_cons_succ, List.set_cons_zero]) | (refine RC.wpV_val rfl rfl rfl rfl rfl _ (fun w hC => by obtain ⟨n, rfl⟩ := hC; exact exec_load (hl _ n.h)) ?_; simp only [List.set_cons_succ, List.set_cons_zero]) | (refine RC.wpV_look rfl rfl rfl rfl rfl (fun K hK => ?_); go_big_quiet_op; refine hK _ ?_; clear hK K))
  refine RC.wpV_mk rfl rfl rfl [] (by kernel_rfl) (fun vs7 w7 hC hF => yields_call (by kernel_rfl) ?_) (fun vs7 v w7 hC hV hF => ?_)
  · obtain ⟨⟨w7, hk, -⟩, rfl⟩ := hC
    exact haw w7 _ (fun w8 g8 => ⟨_, rfl, Keep.of_grow [] g8, ⟨by simp, by simp, by simp, by simp, by simp, by simp, fun _ => rfl⟩⟩)
  obtain rfl := hV.2.2.2.2.2.2 rfl
  clear hV hC hF w7
  simp only [List.set_cons_succ, List.set_cons_zero]
  repeat (first | (refine RC.wpV_skp rfl rfl ?_; simp only [List.set_cons_succ, List.set_cons_zero]) | (refine RC.wpV_val rfl rfl rfl rfl rfl _ (fun w hC => by obtain ⟨n, rfl⟩ := hC; exact exec_load (hl _ n.h)) ?_; simp only [List.set_cons_succ, List.set_cons_zero]) | (refine RC.wpV_look rfl rfl rfl rfl rfl (fun K hK => ?_); go_big_quiet_op; refine hK _ ?_; clear hK K))
  refine RC.wpV_nil ?_
  intro w9 hC hF
  obtain ⟨-, FP', cs', q'⟩ := (((((hF 14).1.resolve_left (by simp)).1.resolve_left (by simp)).1.resolve_left (by simp)).1.resolve_left (by simp)).2 rfl |>.2.2.1 rfl
  exact hQ _ q'.gr
end Go.Proofs.Ytfmnkcmicbnfdaa
