/- TreeProofs: its regions that draw their order. -/
import Derived.Test.YtfmnkcmicbnfdaaPqT
namespace Go.Proofs.Ytfmnkcmicbnfdaa
open Go Go.RowKit



set_option maxRecDepth 100000 in
set_option maxHeartbeats 8000000 in
theorem trPr10f (w0 : World) (t : Tre) (g : Tgs) {h : Int → Bool} {T : Nat → Nat → B16} {tx : Nat → List UInt8} {hs : Nat → Bool} {FP : List Nat} {cs : List Clm} (po : Option Addr) (pn pc : Nat) (Pf : List B16) {bp : Option Addr} (tb : t.bv = .pointer bp)
    (n k : Nat) (hn : n ≤ 1000) (hk : k < n) (htl : t.L = (wl t.n).length) (htn : t.n = n) (hgn : g.n = n) (_ : t.key = lawK) (htx : ∀ i, (tx i).length ≤ 1000) (hcs : cs.length ≤ 70000)
    (RT : B16) (ta : Option Addr) (tn tc : Nat) (text : List UInt8) (htxt : text.length ≤ 1000) (st0 : Sl w0 1 ta tn tc (text.map B)) (hpn : pn = Pf.length) (hpl : pn ≤ 100000)
    (hRT : RT = rootA t.n T) (hRT2 : RT = rootA g.n (nd lawK g.n (lvD lawK tx hs))) (hP2 : Pf = proofA g.n (nd lawK g.n (lvD lawK tx hs)) (beside g.n (k : Int))) (v : Bool) (hv : v = verS lawK n k text RT Pf) (hlt0 : ∀ y ∈ bz tn ta, y < w0.heap.size)
    (hhk : h (k : Int) = hs k) (hsk : hs k = false)
    (ph : Nat) {c1 c2 c4 c5 c6 c7 c8 c9 c10 c11 c12 c16 c20 c21 c22 c23 c24 c25 c26 c27 c28 c29 c30 c31 c32 c33 c34 c35 c36 c37 c38 c39 c40 c41 c42 c43 c44 c45 c46 c47 c48 c49 c50 c51 c52 c53 c54 c55 c56 c57 c58 c59 c60 c61 c62 c63 c64 c65 c66 c67 c68 c69 c70 c71 c72 c73 c74 c75 c76 c77 c78 c79 c80 c81 c82 c83 c84 c85 c86 c87 c88 c89 c90 c91 c92 c93 c94 c95 c96 c97 c98 c99 c100 c101 c102 c103 c104 c105 c106 c107 c108 c109 c110 c111 c112 c113 c114 c115 c116 c117 c118 c119 c120 c121 c122 c123 c124 c125 c126 c127 c128 c129 c130 c131 c132 c133 c134 c135 c136 c137 c138 c139 c140 c141 c142 c143 c144 c145 c146 c147 c148 c149 c150 c151 c152 c153 c154 c155 c156 c157 c158 c159 c160 c161 c162 c163 c164 c165 c166 c167 c168 c169 c170 c171 c172 c173 c174 c175 c176 c177 c178 c179 c180 c181 c182 c183 c184 c185 c186 c187 c188 c189 c190 c191 c192 c193 c194 c195 c196 c197 c198 c199 c200 c201 c202 c203 c204 c205 c206 c207 c208 c209 c210 c211 c212 c213 c214 c215 c216 c217 : Value} (w : World) (q : Pq w0 w t g h T tx hs FP cs po pn pc Pf) (sm : Sm w ph Hs Ks) (hph : ph ∉ FP) {Q : Exit → Act → World → Prop}
    (hQ : ∀ (FP' : List Nat) (cs' : List Clm) (w' : World), Pq w0 w' t g h T tx hs FP' cs' po pn pc Pf → cs'.length ≤ cs.length + 1100 → Keep FP w w' → (∀ y ∈ FP', y ∈ FP ∨ w.heap.size ≤ y) → ∀ {u59 u60 u61 u62 u63 u64 u65 u66 u67 u68 u69 u70 u71 u72 u73 u74 u75 u76 u77 u78 u79 u80 u81 u82 u83 u84 u85 u86 u87 u88 u89 u90 u91 u92 u93 u94 u95 u96 u97 u98 u99 u100 u101 u102 u103 u104 u105 u106 u107 u108 u109 u110 : Value}, Q .normal ⟨List.toArray (.int .i64 (n : Int) :: c1 :: c2 :: .slice ta tn tc :: c4 :: c5 :: c6 :: c7 :: c8 :: c9 :: c10 :: c11 :: c12 :: .pointer bp :: .pointer (some ⟨t.p, 0, none⟩) :: .pointer (some ⟨g.p, 0, none⟩) :: c16 :: .int .i64 (k : Int) :: .slice po pn pc :: .pointer (some ⟨ph, 0, none⟩) :: c20 :: c21 :: c22 :: c23 :: c24 :: c25 :: c26 :: c27 :: c28 :: c29 :: c30 :: c31 :: c32 :: c33 :: c34 :: c35 :: c36 :: c37 :: c38 :: c39 :: c40 :: c41 :: c42 :: c43 :: c44 :: c45 :: c46 :: c47 :: c48 :: c49 :: c50 :: c51 :: c52 :: c53 :: c54 :: c55 :: c56 :: c57 :: c58 :: u59 :: u60 :: u61 :: u62 :: u63 :: u64 :: u65 :: u66 :: u67 :: u68 :: u69 :: u70 :: u71 :: u72 :: u73 :: u74 :: u75 :: u76 :: u77 :: u78 :: u79 :: u80 :: u81 :: u82 :: u83 :: u84 :: u85 :: u86 :: u87 :: u88 :: u89 :: u90 :: u91 :: u92 :: u93 :: u94 :: u95 :: u96 :: u97 :: u98 :: u99 :: u100 :: u101 :: u102 :: u103 :: u104 :: u105 :: u106 :: u107 :: u108 :: u109 :: u110 :: .bool false :: c112 :: c113 :: c114 :: c115 :: c116 :: c117 :: c118 :: c119 :: c120 :: c121 :: c122 :: c123 :: c124 :: c125 :: c126 :: c127 :: c128 :: c129 :: c130 :: c131 :: c132 :: c133 :: c134 :: c135 :: c136 :: c137 :: c138 :: c139 :: c140 :: c141 :: c142 :: c143 :: c144 :: c145 :: c146 :: c147 :: c148 :: c149 :: c150 :: c151 :: c152 :: c153 :: c154 :: c155 :: c156 :: c157 :: c158 :: c159 :: c160 :: c161 :: c162 :: c163 :: c164 :: c165 :: c166 :: c167 :: c168 :: c169 :: c170 :: c171 :: c172 :: c173 :: c174 :: c175 :: c176 :: c177 :: c178 :: c179 :: c180 :: c181 :: c182 :: c183 :: c184 :: c185 :: c186 :: c187 :: c188 :: c189 :: c190 :: c191 :: c192 :: c193 :: c194 :: c195 :: c196 :: c197 :: c198 :: c199 :: c200 :: c201 :: c202 :: c203 :: c204 :: c205 :: c206 :: c207 :: c208 :: c209 :: c210 :: c211 :: c212 :: c213 :: c214 :: c215 :: c216 :: c217 :: []), []⟩ w') :
    Code.wp Try.prog (regionAt Try.f9 10) Q ⟨List.toArray (.int .i64 (n : Int) :: c1 :: c2 :: .slice ta tn tc :: c4 :: c5 :: c6 :: c7 :: c8 :: c9 :: c10 :: c11 :: c12 :: .pointer bp :: .pointer (some ⟨t.p, 0, none⟩) :: .pointer (some ⟨g.p, 0, none⟩) :: c16 :: .int .i64 (k : Int) :: .slice po pn pc :: .pointer (some ⟨ph, 0, none⟩) :: c20 :: c21 :: c22 :: c23 :: c24 :: c25 :: c26 :: c27 :: c28 :: c29 :: c30 :: c31 :: c32 :: c33 :: c34 :: c35 :: c36 :: c37 :: c38 :: c39 :: c40 :: c41 :: c42 :: c43 :: c44 :: c45 :: c46 :: c47 :: c48 :: c49 :: c50 :: c51 :: c52 :: c53 :: c54 :: c55 :: c56 :: c57 :: c58 :: c59 :: c60 :: c61 :: c62 :: c63 :: c64 :: c65 :: c66 :: c67 :: c68 :: c69 :: c70 :: c71 :: c72 :: c73 :: c74 :: c75 :: c76 :: c77 :: c78 :: c79 :: c80 :: c81 :: c82 :: c83 :: c84 :: c85 :: c86 :: c87 :: c88 :: c89 :: c90 :: c91 :: c92 :: c93 :: c94 :: c95 :: c96 :: c97 :: c98 :: c99 :: c100 :: c101 :: c102 :: c103 :: c104 :: c105 :: c106 :: c107 :: c108 :: c109 :: c110 :: c111 :: c112 :: c113 :: c114 :: c115 :: c116 :: c117 :: c118 :: c119 :: c120 :: c121 :: c122 :: c123 :: c124 :: c125 :: c126 :: c127 :: c128 :: c129 :: c130 :: c131 :: c132 :: c133 :: c134 :: c135 :: c136 :: c137 :: c138 :: c139 :: c140 :: c141 :: c142 :: c143 :: c144 :: c145 :: c146 :: c147 :: c148 :: c149 :: c150 :: c151 :: c152 :: c153 :: c154 :: c155 :: c156 :: c157 :: c158 :: c159 :: c160 :: c161 :: c162 :: c163 :: c164 :: c165 :: c166 :: c167 :: c168 :: c169 :: c170 :: c171 :: c172 :: c173 :: c174 :: c175 :: c176 :: c177 :: c178 :: c179 :: c180 :: c181 :: c182 :: c183 :: c184 :: c185 :: c186 :: c187 :: c188 :: c189 :: c190 :: c191 :: c192 :: c193 :: c194 :: c195 :: c196 :: c197 :: c198 :: c199 :: c200 :: c201 :: c202 :: c203 :: c204 :: c205 :: c206 :: c207 :: c208 :: c209 :: c210 :: c211 :: c212 :: c213 :: c214 :: c215 :: c216 :: c217 :: []), []⟩ w := by
  have hml : maxLen = 9223372036854775807 := rfl
  have hn1 : 1 ≤ n := by omega
  have hnt1 : 1 ≤ t.n := by omega
  have hnt2 : t.n ≤ 1000 := by omega
  have hng1 : 1 ≤ g.n := by omega
  have hng2 : g.n ≤ 1000 := by omega
  have hvv : (v == v) = true := by simp
  have hvv2 : (v != v) = false := by simp
  have hgp : g.p ∉ FP := fun hm => q.ga g.p (by simp [Tgs.all]) hm
  obtain ⟨gh, off, hho, hcl⟩ := q.tg.has.sl.hat (by omega)
  have o3 := obj_cell q.tg.obj 3 rfl
  rw [hho] at o3
  have h1 := hcl.at (i := k) (v := .bool (hs k)) (by simp [show k < g.n by omega])
  have hghF : gh ∉ FP := fun hm => q.ga gh (by simp [Tgs.all, hho, blk]) hm
  have x3 := q.tg.has.sl.hle
  have x4 := q.tg.has.sl.hcap
  rw [hgn] at o3 x3
  rw [hsk] at h1
  have p3 := KW.cell (fp := FP) (p0 := tt) o3 hgp
  have p4 := KW.cell (fp := FP) (p0 := tt) h1 hghF
  clear o3 h1 hcl hho
  have hbz : ∀ w' FP, Pq w0 w' t g h T tx hs FP cs po pn pc Pf → ∀ y ∈ bz tn ta, y ∉ FP ∧ y < w'.heap.size := fun w' FP q' y hy => by
    have := hlt0 y hy
    have := q'.gr.size
    exact ⟨fun hm => by have := q'.fr y hm; omega, by omega⟩
  conv => arg 2; whnf
  refine RC.wp_region_F (C0 := BaseF FP w) [0, 2, 3, 5, 6, 7, 9, 10, 12, 14, 15, 16, 17, 22, 23, 24, 26, 27, 28, 29, 30, 31, 32, 34, 35, 36, 38, 39, 40, 41, 42, 43, 44, 45, 46] (segB FP w w (Keep.refl _ w) []) (by kernel_rfl) segB_drew ?_
  unfold segB
  repeat (first | (refine RC.wpV_skp rfl rfl ?_; simp only [List.set_cons_succ, List.set_cons_zero]) | (refine RC.wpV_look rfl rfl rfl rfl rfl (fun K hK => ?_); go_big_quiet_op; refine hK _ ?_; clear hK K) | (refine RC.wpV_free rfl rfl rfl rfl (fun K hK => ?_); unfold BaseF; go_big_quiet_op; refine hK _ ?_; clear hK K))
  refine RC.wpV_tn rfl rfl (by kernel_rfl) (fun w7 hC hF => yields_call (by kernel_rfl) ?_)
  obtain ⟨⟨w7, hk7, -⟩, rfl⟩ := hC
  clear hF
  refine (q.grow hk7.grow).keyC _ ?_
  intro ko1 kc1 w1 ok1 hk1 gr1 q1
  have K1 : Keep FP w w1 := (hk7.mono (by simp)).trans (Keep.of_grow _ gr1)
  refine ⟨_, rfl, segB FP w w1 ((hk7.mono (by simp)).trans (Keep.of_grow _ gr1)) [], segB_at, ?_⟩
  unfold segB
  simp only [List.set_cons_succ, List.set_cons_zero]
  repeat (first | (refine RC.wpV_skp rfl rfl ?_; simp only [List.set_cons_succ, List.set_cons_zero]) | (refine RC.wpV_look rfl rfl rfl rfl rfl (fun K hK => ?_); go_big_quiet_op; refine hK _ ?_; clear hK K) | (refine RC.wpV_free rfl rfl rfl rfl (fun K hK => ?_); unfold BaseF; go_big_quiet_op; refine hK _ ?_; clear hK K))
  refine RC.wpV_tn rfl rfl (by kernel_rfl) (fun w7 hC hF => yields_call (by kernel_rfl) ?_)
  obtain ⟨⟨w7, hk7, -⟩, rfl⟩ := hC
  clear hF
  refine (q1.grow hk7.grow).root htl hnt1 hnt2 RT hRT _ ?_
  intro w2 gr2 q2
  have K2 : Keep FP w w2 := K1.trans ((hk7.mono (by simp)).trans (Keep.of_grow _ gr2))
  have ok2 := ok1.grow (hk7.grow.trans gr2)
  refine ⟨_, rfl, segB FP w w2 (K2) [], segB_at, ?_⟩
  unfold segB
  simp only [List.set_cons_succ, List.set_cons_zero]
  repeat (first | (refine RC.wpV_skp rfl rfl ?_; simp only [List.set_cons_succ, List.set_cons_zero]) | (refine RC.wpV_look rfl rfl rfl rfl rfl (fun K hK => ?_); go_big_quiet_op; refine hK _ ?_; clear hK K) | (refine RC.wpV_free rfl rfl rfl rfl (fun K hK => ?_); unfold BaseF; go_big_quiet_op; refine hK _ ?_; clear hK K))
  refine RC.wpV_tn rfl rfl (by kernel_rfl) (fun w7 hC hF => yields_call (by kernel_rfl) ?_)
  obtain ⟨⟨w7, hk7, -⟩, rfl⟩ := hC
  clear hF
  refine (q2.grow hk7.grow).verify tb n k hn hk ko1 kc1 (ok2.grow hk7.grow) (fun y hy => (hk1 y hy).1) (by omega) RT ta tn tc text htxt (st0.grow (q2.grow hk7.grow).gr) (hbz _ _ (q2.grow hk7.grow)) po pn pc Pf hpn hpl (q2.grow hk7.grow).pr q2.pf v hv _ ?_
  intro FP3 cs3 w3 q3 hl3 k3 in3
  have K2' : Keep FP w w7 := K2.trans (hk7.mono (by simp))
  have K3 : Keep FP w w3 := K2'.trans k3
  have IN3 : ∀ y ∈ FP3, y ∈ FP ∨ w.heap.size ≤ y := fun y hy => (in3 y hy).imp id fun h => Nat.le_trans K2'.size h
  refine ⟨_, rfl, segB FP w w3 (K3) [], segB_at, ?_⟩
  unfold segB
  simp only [List.set_cons_succ, List.set_cons_zero]
  repeat (first | (refine RC.wpV_skp rfl rfl ?_; simp only [List.set_cons_succ, List.set_cons_zero]) | (refine RC.wpV_look rfl rfl rfl rfl rfl (fun K hK => ?_); go_big_quiet_op; refine hK _ ?_; clear hK K) | (refine RC.wpV_free rfl rfl rfl rfl (fun K hK => ?_); unfold BaseF; go_big_quiet_op; refine hK _ ?_; clear hK K))
  refine RC.wpV_tn rfl rfl (by kernel_rfl) (fun w7 hC hF => yields_call (by kernel_rfl) ?_)
  obtain ⟨⟨w7, hk7, -⟩, rfl⟩ := hC
  clear hF
  refine (q3.grow hk7.grow).keyC _ ?_
  intro ko4 kc4 w4 ok4 _ gr4 q4
  have K4 : Keep FP w w4 := K3.trans ((hk7.mono (by simp)).trans (Keep.of_grow _ gr4))
  refine ⟨_, rfl, segB FP w w4 (K4) [], segB_at, ?_⟩
  unfold segB
  simp only [List.set_cons_succ, List.set_cons_zero]
  repeat (first | (refine RC.wpV_skp rfl rfl ?_; simp only [List.set_cons_succ, List.set_cons_zero]) | (refine RC.wpV_look rfl rfl rfl rfl rfl (fun K hK => ?_); go_big_quiet_op; refine hK _ ?_; clear hK K) | (refine RC.wpV_free rfl rfl rfl rfl (fun K hK => ?_); unfold BaseF; go_big_quiet_op; refine hK _ ?_; clear hK K))
  refine RC.wpV_tn rfl rfl (by kernel_rfl) (fun w7 hC hF => yields_call (by kernel_rfl) ?_)
  obtain ⟨⟨w7, hk7, -⟩, rfl⟩ := hC
  clear hF
  refine (q4.grow hk7.grow).rroot htx hng1 hng2 RT hRT2 _ ?_
  intro w5 gr5 q5
  have K5 : Keep FP w w5 := K4.trans ((hk7.mono (by simp)).trans (Keep.of_grow _ gr5))
  have ok5 := ok4.grow (hk7.grow.trans gr5)
  refine ⟨_, rfl, segB FP w w5 (K5) [], segB_at, ?_⟩
  unfold segB
  simp only [List.set_cons_succ, List.set_cons_zero]
  repeat (first | (refine RC.wpV_skp rfl rfl ?_; simp only [List.set_cons_succ, List.set_cons_zero]) | (refine RC.wpV_look rfl rfl rfl rfl rfl (fun K hK => ?_); go_big_quiet_op; refine hK _ ?_; clear hK K) | (refine RC.wpV_free rfl rfl rfl rfl (fun K hK => ?_); unfold BaseF; go_big_quiet_op; refine hK _ ?_; clear hK K))
  refine RC.wpV_tn rfl rfl (by kernel_rfl) (fun w7 hC hF => yields_call (by kernel_rfl) ?_)
  obtain ⟨⟨w7, hk7, -⟩, rfl⟩ := hC
  clear hF
  refine (q5.grow hk7.grow).rproof htx hng1 hng2 (k : Int) Pf hP2 pn hpn _ ?_
  intro ao6 c6 w6 o6 gr6 q6
  have K6 : Keep FP w w6 := K5.trans ((hk7.mono (by simp)).trans (Keep.of_grow _ gr6))
  have ok6 := ok5.grow (hk7.grow.trans gr6)
  refine ⟨_, rfl, segB FP w w6 (K6) [], segB_at, ?_⟩
  unfold segB
  simp only [List.set_cons_succ, List.set_cons_zero]
  repeat (first | (refine RC.wpV_skp rfl rfl ?_; simp only [List.set_cons_succ, List.set_cons_zero]) | (refine RC.wpV_look rfl rfl rfl rfl rfl (fun K hK => ?_); go_big_quiet_op; refine hK _ ?_; clear hK K) | (refine RC.wpV_free rfl rfl rfl rfl (fun K hK => ?_); unfold BaseF; go_big_quiet_op; refine hK _ ?_; clear hK K))
  refine RC.wpV_tn rfl rfl (by kernel_rfl) (fun w7 hC hF => yields_call (by kernel_rfl) ?_)
  obtain ⟨⟨w7, hk7, -⟩, rfl⟩ := hC
  clear hF
  refine (q6.grow hk7.grow).rverify ph ⟨sm.1.keep (K6.trans (hk7.mono (by simp))) hph, sm.2⟩ n k hn hk ko4 kc4 (ok6.grow hk7.grow) RT ta tn tc text htxt (st0.grow (q6.grow hk7.grow).gr) ao6 pn c6 Pf hpn hpl (o6.grow hk7.grow) v hv _ ?_
  intro w7b gr7 q7b
  have K7 : Keep FP w w7b := K6.trans ((hk7.mono (by simp)).trans (Keep.of_grow _ gr7))
  refine ⟨_, rfl, segB FP w w7b (K7) [], segB_at, ?_⟩
  unfold segB
  simp only [List.set_cons_succ, List.set_cons_zero]
  repeat (first | (refine RC.wpV_skp rfl rfl ?_; simp only [List.set_cons_succ, List.set_cons_zero]) | (refine RC.wpV_look rfl rfl rfl rfl rfl (fun K hK => ?_); go_big_quiet_op; refine hK _ ?_; clear hK K) | (refine RC.wpV_free rfl rfl rfl rfl (fun K hK => ?_); unfold BaseF; go_big_quiet_op; refine hK _ ?_; clear hK K))
  have hkk : k < t.n := by omega
  have hL0 : 0 < t.L := by rw [htl]; exact wl_pos _
  have hck := fun w' (gr : Grow w7b w') => checkNone (q7b.grow gr).hb.ht hL0 k hkk (by rw [hhk]; exact hsk) (.slice ta tn tc)
  repeat (first | (refine RC.wpV_skp rfl rfl ?_; simp only [List.set_cons_succ, List.set_cons_zero]) | (refine RC.wpV_look rfl rfl rfl rfl rfl (fun K hK => ?_); go_big_quiet_op; refine hK _ ?_; clear hK K) | (refine RC.wpV_free rfl rfl rfl rfl (fun K hK => ?_); unfold BaseF; go_big_quiet_op; refine hK _ ?_; clear hK K))
  refine RC.wpV_tn rfl rfl (by kernel_rfl) (fun w7 hC hF => yields_call (by kernel_rfl) ?_)
  obtain ⟨⟨w7, hk7, -⟩, rfl⟩ := hC
  clear hF
  refine hck w7 hk7.grow _ ?_
  intro w8 gr8
  have q8 := q7b.grow (hk7.grow.trans gr8)
  have K8 : Keep FP w w8 := K7.trans ((hk7.mono (by simp)).trans (Keep.of_grow _ gr8))
  have hq8 := fun w' (gr : Grow w8 w') {u59 u60 u61 u62 u63 u64 u65 u66 u67 u68 u69 u70 u71 u72 u73 u74 u75 u76 u77 u78 u79 u80 u81 u82 u83 u84 u85 u86 u87 u88 u89 u90 u91 u92 u93 u94 u95 u96 u97 u98 u99 u100 u101 u102 u103 u104 u105 u106 u107 u108 u109 u110 : Value} => @hQ FP3 _ w' (q8.grow gr) (by omega) (K8.trans (Keep.of_grow _ gr)) IN3 u59 u60 u61 u62 u63 u64 u65 u66 u67 u68 u69 u70 u71 u72 u73 u74 u75 u76 u77 u78 u79 u80 u81 u82 u83 u84 u85 u86 u87 u88 u89 u90 u91 u92 u93 u94 u95 u96 u97 u98 u99 u100 u101 u102 u103 u104 u105 u106 u107 u108 u109 u110
  refine ⟨_, rfl, segB FP w w8 (K8) [], segB_at, ?_⟩
  unfold segB
  simp only [List.set_cons_succ, List.set_cons_zero]
  repeat (first | (refine RC.wpV_skp rfl rfl ?_; simp only [List.set_cons_succ, List.set_cons_zero]) | (refine RC.wpV_look rfl rfl rfl rfl rfl (fun K hK => ?_); go_big_quiet_op; refine hK _ ?_; clear hK K) | (refine RC.wpV_free rfl rfl rfl rfl (fun K hK => ?_); unfold BaseF; go_big_quiet_op; refine hK _ ?_; clear hK K))
  refine RC.wpV_nil ?_
  intro w9 hC hF
  obtain ⟨⟨w9, hk9, -⟩, rfl⟩ := hC
  exact hq8 _ hk9.grow


set_option maxRecDepth 100000 in
set_option maxHeartbeats 8000000 in
theorem trPr10t (w0 : World) (t : Tre) (g : Tgs) {h : Int → Bool} {T : Nat → Nat → B16} {tx : Nat → List UInt8} {hs : Nat → Bool} {FP : List Nat} {cs : List Clm} (po : Option Addr) (pn pc : Nat) (Pf : List B16) {bp : Option Addr} (tb : t.bv = .pointer bp)
    (n k : Nat) (hn : n ≤ 1000) (hk : k < n) (htl : t.L = (wl t.n).length) (htn : t.n = n) (hgn : g.n = n) (htk : t.key = lawK) (htx : ∀ i, (tx i).length ≤ 1000) (hcs : cs.length ≤ 70000)
    (RT : B16) (ta : Option Addr) (tn tc : Nat) (text : List UInt8) (htxt : text.length ≤ 1000) (st0 : Sl w0 1 ta tn tc (text.map B)) (hpn : pn = Pf.length) (hpl : pn ≤ 100000)
    (hRT : RT = rootA t.n T) (hRT2 : RT = rootA g.n (nd lawK g.n (lvD lawK tx hs))) (hP2 : Pf = proofA g.n (nd lawK g.n (lvD lawK tx hs)) (beside g.n (k : Int))) (v : Bool) (hv : v = verS lawK n k text RT Pf) (hlt0 : ∀ y ∈ bz tn ta, y < w0.heap.size)
    (hhk : h (k : Int) = hs k) (hsk : hs k = true) (hT0 : T 0 k = leafT lawK k (tx k)) (c : Bool) (hc : c = ((leafT lawK k text).b == (leafT lawK k (tx k)).b))
    (ph : Nat) {c1 c2 c4 c5 c6 c7 c8 c9 c10 c11 c12 c16 c20 c21 c22 c23 c24 c25 c26 c27 c28 c29 c30 c31 c32 c33 c34 c35 c36 c37 c38 c39 c40 c41 c42 c43 c44 c45 c46 c47 c48 c49 c50 c51 c52 c53 c54 c55 c56 c57 c58 c59 c60 c61 c62 c63 c64 c65 c66 c67 c68 c69 c70 c71 c72 c73 c74 c75 c76 c77 c78 c79 c80 c81 c82 c83 c84 c85 c86 c87 c88 c89 c90 c91 c92 c93 c94 c95 c96 c97 c98 c99 c100 c101 c102 c103 c104 c105 c106 c107 c108 c109 c110 c111 c112 c113 c114 c115 c116 c117 c118 c119 c120 c121 c122 c123 c124 c125 c126 c127 c128 c129 c130 c131 c132 c133 c134 c135 c136 c137 c138 c139 c140 c141 c142 c143 c144 c145 c146 c147 c148 c149 c150 c151 c152 c153 c154 c155 c156 c157 c158 c159 c160 c161 c162 c163 c164 c165 c166 c167 c168 c169 c170 c171 c172 c173 c174 c175 c176 c177 c178 c179 c180 c181 c182 c183 c184 c185 c186 c187 c188 c189 c190 c191 c192 c193 c194 c195 c196 c197 c198 c199 c200 c201 c202 c203 c204 c205 c206 c207 c208 c209 c210 c211 c212 c213 c214 c215 c216 c217 : Value} (w : World) (q : Pq w0 w t g h T tx hs FP cs po pn pc Pf) (sm : Sm w ph Hs Ks) (hph : ph ∉ FP) {Q : Exit → Act → World → Prop}
    (hQ : ∀ (FP' : List Nat) (cs' : List Clm) (w' : World), Pq w0 w' t g h T tx hs FP' cs' po pn pc Pf → cs'.length ≤ cs.length + 1100 → Keep FP w w' → (∀ y ∈ FP', y ∈ FP ∨ w.heap.size ≤ y) → ∀ {u59 u60 u61 u62 u63 u64 u65 u66 u67 u68 u69 u70 u71 u72 u73 u74 u75 u76 u77 u78 u79 u80 u81 u82 u83 u84 u85 u86 u87 u88 u89 u90 u91 u92 u93 u94 u95 u96 u97 u98 u99 u100 u101 u102 u103 u104 u105 u106 u107 u108 u109 u110 : Value}, Q .normal ⟨List.toArray (.int .i64 (n : Int) :: c1 :: c2 :: .slice ta tn tc :: c4 :: c5 :: c6 :: c7 :: c8 :: c9 :: c10 :: c11 :: c12 :: .pointer bp :: .pointer (some ⟨t.p, 0, none⟩) :: .pointer (some ⟨g.p, 0, none⟩) :: c16 :: .int .i64 (k : Int) :: .slice po pn pc :: .pointer (some ⟨ph, 0, none⟩) :: c20 :: c21 :: c22 :: c23 :: c24 :: c25 :: c26 :: c27 :: c28 :: c29 :: c30 :: c31 :: c32 :: c33 :: c34 :: c35 :: c36 :: c37 :: c38 :: c39 :: c40 :: c41 :: c42 :: c43 :: c44 :: c45 :: c46 :: c47 :: c48 :: c49 :: c50 :: c51 :: c52 :: c53 :: c54 :: c55 :: c56 :: c57 :: c58 :: u59 :: u60 :: u61 :: u62 :: u63 :: u64 :: u65 :: u66 :: u67 :: u68 :: u69 :: u70 :: u71 :: u72 :: u73 :: u74 :: u75 :: u76 :: u77 :: u78 :: u79 :: u80 :: u81 :: u82 :: u83 :: u84 :: u85 :: u86 :: u87 :: u88 :: u89 :: u90 :: u91 :: u92 :: u93 :: u94 :: u95 :: u96 :: u97 :: u98 :: u99 :: u100 :: u101 :: u102 :: u103 :: u104 :: u105 :: u106 :: u107 :: u108 :: u109 :: u110 :: .bool false :: c112 :: c113 :: c114 :: c115 :: c116 :: c117 :: c118 :: c119 :: c120 :: c121 :: c122 :: c123 :: c124 :: c125 :: c126 :: c127 :: c128 :: c129 :: c130 :: c131 :: c132 :: c133 :: c134 :: c135 :: c136 :: c137 :: c138 :: c139 :: c140 :: c141 :: c142 :: c143 :: c144 :: c145 :: c146 :: c147 :: c148 :: c149 :: c150 :: c151 :: c152 :: c153 :: c154 :: c155 :: c156 :: c157 :: c158 :: c159 :: c160 :: c161 :: c162 :: c163 :: c164 :: c165 :: c166 :: c167 :: c168 :: c169 :: c170 :: c171 :: c172 :: c173 :: c174 :: c175 :: c176 :: c177 :: c178 :: c179 :: c180 :: c181 :: c182 :: c183 :: c184 :: c185 :: c186 :: c187 :: c188 :: c189 :: c190 :: c191 :: c192 :: c193 :: c194 :: c195 :: c196 :: c197 :: c198 :: c199 :: c200 :: c201 :: c202 :: c203 :: c204 :: c205 :: c206 :: c207 :: c208 :: c209 :: c210 :: c211 :: c212 :: c213 :: c214 :: c215 :: c216 :: c217 :: []), []⟩ w') :
    Code.wp Try.prog (regionAt Try.f9 10) Q ⟨List.toArray (.int .i64 (n : Int) :: c1 :: c2 :: .slice ta tn tc :: c4 :: c5 :: c6 :: c7 :: c8 :: c9 :: c10 :: c11 :: c12 :: .pointer bp :: .pointer (some ⟨t.p, 0, none⟩) :: .pointer (some ⟨g.p, 0, none⟩) :: c16 :: .int .i64 (k : Int) :: .slice po pn pc :: .pointer (some ⟨ph, 0, none⟩) :: c20 :: c21 :: c22 :: c23 :: c24 :: c25 :: c26 :: c27 :: c28 :: c29 :: c30 :: c31 :: c32 :: c33 :: c34 :: c35 :: c36 :: c37 :: c38 :: c39 :: c40 :: c41 :: c42 :: c43 :: c44 :: c45 :: c46 :: c47 :: c48 :: c49 :: c50 :: c51 :: c52 :: c53 :: c54 :: c55 :: c56 :: c57 :: c58 :: c59 :: c60 :: c61 :: c62 :: c63 :: c64 :: c65 :: c66 :: c67 :: c68 :: c69 :: c70 :: c71 :: c72 :: c73 :: c74 :: c75 :: c76 :: c77 :: c78 :: c79 :: c80 :: c81 :: c82 :: c83 :: c84 :: c85 :: c86 :: c87 :: c88 :: c89 :: c90 :: c91 :: c92 :: c93 :: c94 :: c95 :: c96 :: c97 :: c98 :: c99 :: c100 :: c101 :: c102 :: c103 :: c104 :: c105 :: c106 :: c107 :: c108 :: c109 :: c110 :: c111 :: c112 :: c113 :: c114 :: c115 :: c116 :: c117 :: c118 :: c119 :: c120 :: c121 :: c122 :: c123 :: c124 :: c125 :: c126 :: c127 :: c128 :: c129 :: c130 :: c131 :: c132 :: c133 :: c134 :: c135 :: c136 :: c137 :: c138 :: c139 :: c140 :: c141 :: c142 :: c143 :: c144 :: c145 :: c146 :: c147 :: c148 :: c149 :: c150 :: c151 :: c152 :: c153 :: c154 :: c155 :: c156 :: c157 :: c158 :: c159 :: c160 :: c161 :: c162 :: c163 :: c164 :: c165 :: c166 :: c167 :: c168 :: c169 :: c170 :: c171 :: c172 :: c173 :: c174 :: c175 :: c176 :: c177 :: c178 :: c179 :: c180 :: c181 :: c182 :: c183 :: c184 :: c185 :: c186 :: c187 :: c188 :: c189 :: c190 :: c191 :: c192 :: c193 :: c194 :: c195 :: c196 :: c197 :: c198 :: c199 :: c200 :: c201 :: c202 :: c203 :: c204 :: c205 :: c206 :: c207 :: c208 :: c209 :: c210 :: c211 :: c212 :: c213 :: c214 :: c215 :: c216 :: c217 :: []), []⟩ w := by
  have hml : maxLen = 9223372036854775807 := rfl
  have hn1 : 1 ≤ n := by omega
  have hnt1 : 1 ≤ t.n := by omega
  have hnt2 : t.n ≤ 1000 := by omega
  have hng1 : 1 ≤ g.n := by omega
  have hng2 : g.n ≤ 1000 := by omega
  have hvv : (v == v) = true := by simp
  have hvv2 : (v != v) = false := by simp
  have hgp : g.p ∉ FP := fun hm => q.ga g.p (by simp [Tgs.all]) hm
  obtain ⟨gh, off, hho, hcl⟩ := q.tg.has.sl.hat (by omega)
  have o3 := obj_cell q.tg.obj 3 rfl
  rw [hho] at o3
  have h1 := hcl.at (i := k) (v := .bool (hs k)) (by simp [show k < g.n by omega])
  have hghF : gh ∉ FP := fun hm => q.ga gh (by simp [Tgs.all, hho, blk]) hm
  have x3 := q.tg.has.sl.hle
  have x4 := q.tg.has.sl.hcap
  rw [hgn] at o3 x3
  rw [hsk] at h1
  have p3 := KW.cell (fp := FP) (p0 := tt) o3 hgp
  have p4 := KW.cell (fp := FP) (p0 := tt) h1 hghF
  obtain ⟨gx, ofx, hxo, hcx⟩ := q.tg.txt.sl.hat (by omega)
  have o2 := obj_cell q.tg.obj 2 rfl
  rw [hxo] at o2
  have h2 := hcx.at (i := k) (v := .string (str (tx k))) (by simp [show k < g.n by omega])
  have hgxF : gx ∉ FP := fun hm => q.ga gx (by simp [Tgs.all, hxo, blk]) hm
  have x1 := q.tg.txt.sl.hle
  have x2 := q.tg.txt.sl.hcap
  rw [hgn] at o2 x1
  have p1 := KW.cell (fp := FP) (p0 := tt) o2 hgp
  have p2 := KW.cell (fp := FP) (p0 := tt) h2 hgxF
  have hcv := fun w' => conv_str (P := Try.prog) (src := 9) (dst := 27) (e := 5) Try.underlying9 Try.underlying27 Try.underlying5 (str (tx k)) (tx k) rfl (by have := htx k; omega) w'
  have heq := eq_blk (leafT lawK k text).b (leafT lawK k (tx k)).b (leafT lawK k text).h (leafT lawK k (tx k)).h
  rw [← hc] at heq
  obtain ⟨XA, hXA⟩ : ∃ X, X = ((leafT lawK k text).b.map B).toArray := ⟨_, rfl⟩
  obtain ⟨XB, hXB⟩ : ∃ X, X = ((leafT lawK k (tx k)).b.map B).toArray := ⟨_, rfl⟩
  rw [← hXA, ← hXB] at heq
  have HXA := Lib.hid hXA
  have HXB := Lib.hid hXB
  clear hXA hXB
  have hcc : (c == c) = true := by simp
  have hcc2 : (c != c) = false := by simp
  have htxk := htx k
  have hlx := fun ao n c text (htl : text.length ≤ 1000) w' (q' : Pq w0 w' t g h T tx hs FP cs po pn pc Pf) s => leafTextC g.p g.ph g.ko g.kc lawK lawK_len k (by omega) ao n c text htl w' (obj_cell q'.tg.obj 0 rfl) (obj_cell q'.tg.obj 1 rfl) q'.tg.sm q'.tg.key s
  clear o2 h2 hcx hxo
  clear o3 h1 hcl hho
  have hbz : ∀ w' FP, Pq w0 w' t g h T tx hs FP cs po pn pc Pf → ∀ y ∈ bz tn ta, y ∉ FP ∧ y < w'.heap.size := fun w' FP q' y hy => by
    have := hlt0 y hy
    have := q'.gr.size
    exact ⟨fun hm => by have := q'.fr y hm; omega, by omega⟩
  conv => arg 2; whnf
  refine RC.wp_region_F (C0 := BaseF FP w) [0, 2, 3, 5, 6, 7, 9, 10, 12, 14, 15, 16, 17, 22, 23, 24, 26, 27, 28, 29, 30, 31, 32, 34, 35, 36, 38, 39, 40, 41, 42, 43, 44, 45, 46] (segB FP w w (Keep.refl _ w) []) (by kernel_rfl) segB_drew ?_
  unfold segB
  repeat (first | (refine RC.wpV_skp rfl rfl ?_; simp only [List.set_cons_succ, List.set_cons_zero]) | (refine RC.wpV_look rfl rfl rfl rfl rfl (fun K hK => ?_); go_big_quiet_op; refine hK _ ?_; clear hK K) | (refine RC.wpV_free rfl rfl rfl rfl (fun K hK => ?_); unfold BaseF; go_big_quiet_op; refine hK _ ?_; clear hK K))
  refine RC.wpV_tn rfl rfl (by kernel_rfl) (fun w7 hC hF => yields_call (by kernel_rfl) ?_)
  obtain ⟨⟨w7, hk7, -⟩, rfl⟩ := hC
  clear hF
  refine (q.grow hk7.grow).keyC _ ?_
  intro ko1 kc1 w1 ok1 hk1 gr1 q1
  have K1 : Keep FP w w1 := (hk7.mono (by simp)).trans (Keep.of_grow _ gr1)
  refine ⟨_, rfl, segB FP w w1 ((hk7.mono (by simp)).trans (Keep.of_grow _ gr1)) [], segB_at, ?_⟩
  unfold segB
  simp only [List.set_cons_succ, List.set_cons_zero]
  repeat (first | (refine RC.wpV_skp rfl rfl ?_; simp only [List.set_cons_succ, List.set_cons_zero]) | (refine RC.wpV_look rfl rfl rfl rfl rfl (fun K hK => ?_); go_big_quiet_op; refine hK _ ?_; clear hK K) | (refine RC.wpV_free rfl rfl rfl rfl (fun K hK => ?_); unfold BaseF; go_big_quiet_op; refine hK _ ?_; clear hK K))
  refine RC.wpV_tn rfl rfl (by kernel_rfl) (fun w7 hC hF => yields_call (by kernel_rfl) ?_)
  obtain ⟨⟨w7, hk7, -⟩, rfl⟩ := hC
  clear hF
  refine (q1.grow hk7.grow).root htl hnt1 hnt2 RT hRT _ ?_
  intro w2 gr2 q2
  have K2 : Keep FP w w2 := K1.trans ((hk7.mono (by simp)).trans (Keep.of_grow _ gr2))
  have ok2 := ok1.grow (hk7.grow.trans gr2)
  refine ⟨_, rfl, segB FP w w2 (K2) [], segB_at, ?_⟩
  unfold segB
  simp only [List.set_cons_succ, List.set_cons_zero]
  repeat (first | (refine RC.wpV_skp rfl rfl ?_; simp only [List.set_cons_succ, List.set_cons_zero]) | (refine RC.wpV_look rfl rfl rfl rfl rfl (fun K hK => ?_); go_big_quiet_op; refine hK _ ?_; clear hK K) | (refine RC.wpV_free rfl rfl rfl rfl (fun K hK => ?_); unfold BaseF; go_big_quiet_op; refine hK _ ?_; clear hK K))
  refine RC.wpV_tn rfl rfl (by kernel_rfl) (fun w7 hC hF => yields_call (by kernel_rfl) ?_)
  obtain ⟨⟨w7, hk7, -⟩, rfl⟩ := hC
  clear hF
  refine (q2.grow hk7.grow).verify tb n k hn hk ko1 kc1 (ok2.grow hk7.grow) (fun y hy => (hk1 y hy).1) (by omega) RT ta tn tc text htxt (st0.grow (q2.grow hk7.grow).gr) (hbz _ _ (q2.grow hk7.grow)) po pn pc Pf hpn hpl (q2.grow hk7.grow).pr q2.pf v hv _ ?_
  intro FP3 cs3 w3 q3 hl3 k3 in3
  have K2' : Keep FP w w7 := K2.trans (hk7.mono (by simp))
  have K3 : Keep FP w w3 := K2'.trans k3
  have IN3 : ∀ y ∈ FP3, y ∈ FP ∨ w.heap.size ≤ y := fun y hy => (in3 y hy).imp id fun h => Nat.le_trans K2'.size h
  refine ⟨_, rfl, segB FP w w3 (K3) [], segB_at, ?_⟩
  unfold segB
  simp only [List.set_cons_succ, List.set_cons_zero]
  repeat (first | (refine RC.wpV_skp rfl rfl ?_; simp only [List.set_cons_succ, List.set_cons_zero]) | (refine RC.wpV_look rfl rfl rfl rfl rfl (fun K hK => ?_); go_big_quiet_op; refine hK _ ?_; clear hK K) | (refine RC.wpV_free rfl rfl rfl rfl (fun K hK => ?_); unfold BaseF; go_big_quiet_op; refine hK _ ?_; clear hK K))
  refine RC.wpV_tn rfl rfl (by kernel_rfl) (fun w7 hC hF => yields_call (by kernel_rfl) ?_)
  obtain ⟨⟨w7, hk7, -⟩, rfl⟩ := hC
  clear hF
  refine (q3.grow hk7.grow).keyC _ ?_
  intro ko4 kc4 w4 ok4 _ gr4 q4
  have K4 : Keep FP w w4 := K3.trans ((hk7.mono (by simp)).trans (Keep.of_grow _ gr4))
  refine ⟨_, rfl, segB FP w w4 (K4) [], segB_at, ?_⟩
  unfold segB
  simp only [List.set_cons_succ, List.set_cons_zero]
  repeat (first | (refine RC.wpV_skp rfl rfl ?_; simp only [List.set_cons_succ, List.set_cons_zero]) | (refine RC.wpV_look rfl rfl rfl rfl rfl (fun K hK => ?_); go_big_quiet_op; refine hK _ ?_; clear hK K) | (refine RC.wpV_free rfl rfl rfl rfl (fun K hK => ?_); unfold BaseF; go_big_quiet_op; refine hK _ ?_; clear hK K))
  refine RC.wpV_tn rfl rfl (by kernel_rfl) (fun w7 hC hF => yields_call (by kernel_rfl) ?_)
  obtain ⟨⟨w7, hk7, -⟩, rfl⟩ := hC
  clear hF
  refine (q4.grow hk7.grow).rroot htx hng1 hng2 RT hRT2 _ ?_
  intro w5 gr5 q5
  have K5 : Keep FP w w5 := K4.trans ((hk7.mono (by simp)).trans (Keep.of_grow _ gr5))
  have ok5 := ok4.grow (hk7.grow.trans gr5)
  refine ⟨_, rfl, segB FP w w5 (K5) [], segB_at, ?_⟩
  unfold segB
  simp only [List.set_cons_succ, List.set_cons_zero]
  repeat (first | (refine RC.wpV_skp rfl rfl ?_; simp only [List.set_cons_succ, List.set_cons_zero]) | (refine RC.wpV_look rfl rfl rfl rfl rfl (fun K hK => ?_); go_big_quiet_op; refine hK _ ?_; clear hK K) | (refine RC.wpV_free rfl rfl rfl rfl (fun K hK => ?_); unfold BaseF; go_big_quiet_op; refine hK _ ?_; clear hK K))
  refine RC.wpV_tn rfl rfl (by kernel_rfl) (fun w7 hC hF => yields_call (by kernel_rfl) ?_)
  obtain ⟨⟨w7, hk7, -⟩, rfl⟩ := hC
  clear hF
  refine (q5.grow hk7.grow).rproof htx hng1 hng2 (k : Int) Pf hP2 pn hpn _ ?_
  intro ao6 c6 w6 o6 gr6 q6
  have K6 : Keep FP w w6 := K5.trans ((hk7.mono (by simp)).trans (Keep.of_grow _ gr6))
  have ok6 := ok5.grow (hk7.grow.trans gr6)
  refine ⟨_, rfl, segB FP w w6 (K6) [], segB_at, ?_⟩
  unfold segB
  simp only [List.set_cons_succ, List.set_cons_zero]
  repeat (first | (refine RC.wpV_skp rfl rfl ?_; simp only [List.set_cons_succ, List.set_cons_zero]) | (refine RC.wpV_look rfl rfl rfl rfl rfl (fun K hK => ?_); go_big_quiet_op; refine hK _ ?_; clear hK K) | (refine RC.wpV_free rfl rfl rfl rfl (fun K hK => ?_); unfold BaseF; go_big_quiet_op; refine hK _ ?_; clear hK K))
  refine RC.wpV_tn rfl rfl (by kernel_rfl) (fun w7 hC hF => yields_call (by kernel_rfl) ?_)
  obtain ⟨⟨w7, hk7, -⟩, rfl⟩ := hC
  clear hF
  refine (q6.grow hk7.grow).rverify ph ⟨sm.1.keep (K6.trans (hk7.mono (by simp))) hph, sm.2⟩ n k hn hk ko4 kc4 (ok6.grow hk7.grow) RT ta tn tc text htxt (st0.grow (q6.grow hk7.grow).gr) ao6 pn c6 Pf hpn hpl (o6.grow hk7.grow) v hv _ ?_
  intro w7b gr7 q7b
  have K7 : Keep FP w w7b := K6.trans ((hk7.mono (by simp)).trans (Keep.of_grow _ gr7))
  refine ⟨_, rfl, segB FP w w7b (K7) [], segB_at, ?_⟩
  unfold segB
  simp only [List.set_cons_succ, List.set_cons_zero]
  repeat (first | (refine RC.wpV_skp rfl rfl ?_; simp only [List.set_cons_succ, List.set_cons_zero]) | (refine RC.wpV_look rfl rfl rfl rfl rfl (fun K hK => ?_); go_big_quiet_op; refine hK _ ?_; clear hK K) | (refine RC.wpV_free rfl rfl rfl rfl (fun K hK => ?_); unfold BaseF; go_big_quiet_op; refine hK _ ?_; clear hK K))
  have hkk : k < t.n := by omega
  have hck := fun w' (gr : Grow w7b w') => checkHas t k hkk htl hnt2 (by rw [htk]; exact lawK_len) ta tn tc text htxt (by rw [hhk]; exact hsk) (by omega) c (by rw [htk, hT0]; exact hc) w' (q7b.grow gr).hb (st0.grow (q7b.grow gr).gr) (fun y hy hm => by have := hlt0 y hy; have := q7b.fr y hm; omega)
  repeat (first | (refine RC.wpV_skp rfl rfl ?_; simp only [List.set_cons_succ, List.set_cons_zero]) | (refine RC.wpV_look rfl rfl rfl rfl rfl (fun K hK => ?_); go_big_quiet_op; refine hK _ ?_; clear hK K) | (refine RC.wpV_free rfl rfl rfl rfl (fun K hK => ?_); unfold BaseF; go_big_quiet_op; refine hK _ ?_; clear hK K))
  refine RC.wpV_tn rfl rfl (by kernel_rfl) (fun w7 hC hF => yields_call (by kernel_rfl) ?_)
  obtain ⟨⟨w7, hk7, -⟩, rfl⟩ := hC
  clear hF
  refine hck w7 hk7.grow _ ?_
  intro FP8 w8 hb8 k8 in8
  have K7' : Keep FP w w7 := K7.trans (hk7.mono (by simp))
  have q8 := (q7b.grow hk7.grow).next hb8 k8 in8
  have K8 : Keep FP w w8 := K7'.trans' k8 IN3
  have IN8 : ∀ y ∈ FP8, y ∈ FP ∨ w.heap.size ≤ y := fun y hy => by
    rcases in8 y hy with h | h
    · exact IN3 y h
    · exact .inr (Nat.le_trans K7'.size h)
  have HL8 : (cs3 ++ if c = true then [clmS t.key (framS (leafP k text)) false] else []).length ≤ cs.length + 1100 := by
    rw [List.length_append]
    split
    · simp; omega
    · simp; omega
  have hq8 := fun w' (gr : Grow w8 w') {u59 u60 u61 u62 u63 u64 u65 u66 u67 u68 u69 u70 u71 u72 u73 u74 u75 u76 u77 u78 u79 u80 u81 u82 u83 u84 u85 u86 u87 u88 u89 u90 u91 u92 u93 u94 u95 u96 u97 u98 u99 u100 u101 u102 u103 u104 u105 u106 u107 u108 u109 u110 : Value} => @hQ FP8 _ w' (q8.grow gr) HL8 (K8.trans (Keep.of_grow _ gr)) IN8 u59 u60 u61 u62 u63 u64 u65 u66 u67 u68 u69 u70 u71 u72 u73 u74 u75 u76 u77 u78 u79 u80 u81 u82 u83 u84 u85 u86 u87 u88 u89 u90 u91 u92 u93 u94 u95 u96 u97 u98 u99 u100 u101 u102 u103 u104 u105 u106 u107 u108 u109 u110
  have hlx8 := fun ao n c text (htl : text.length ≤ 1000) w' (gr : Grow w8 w') s => leafTextC g.p g.ph g.ko g.kc lawK lawK_len k (by omega) ao n c text htl w' (gr.cell (obj_cell q8.tg.obj 0 rfl)) (gr.cell (obj_cell q8.tg.obj 1 rfl)) (q8.tg.sm.grow gr) (q8.tg.key.grow gr) s
  refine ⟨_, rfl, segB FP w w8 (K8) [(37, pIs (.agg XA)), (47, pBy (tx k)), (48, pIs (.agg XB))], segB_at, ?_⟩
  unfold segB
  simp only [List.set_cons_succ, List.set_cons_zero]
  repeat (first | (refine RC.wpV_skp rfl rfl ?_; simp only [List.set_cons_succ, List.set_cons_zero]) | (refine RC.wpV_look rfl rfl rfl rfl rfl (fun K hK => ?_); go_big_quiet_op; refine hK _ ?_; clear hK K) | (refine RC.wpV_free rfl rfl rfl rfl (fun K hK => ?_); unfold BaseF; go_big_quiet_op; refine hK _ ?_; clear hK K))
  refine RC.wpV_mk rfl rfl rfl [] (by kernel_rfl) (fun vs w7 hC hF => yields_call (by kernel_rfl) ?_) (fun vs v w7 hC hV hF => ?_)
  · obtain ⟨⟨w7, hk7, -⟩, rfl⟩ := hC
    exact hlx8 _ _ _ text htxt w7 hk7.grow (st0.grow (q8.gr.trans hk7.grow)) _ (fun w8 g8 => ⟨_, rfl, Keep.of_grow [] g8, by rw [HXA.out]; rfl⟩)
  obtain rfl := hV
  clear hC hF w7
  simp only [List.set_cons_succ, List.set_cons_zero]
  repeat (first | (refine RC.wpV_skp rfl rfl ?_; simp only [List.set_cons_succ, List.set_cons_zero]) | (refine RC.wpV_look rfl rfl rfl rfl rfl (fun K hK => ?_); go_big_quiet_op; refine hK _ ?_; clear hK K) | (refine RC.wpV_free rfl rfl rfl rfl (fun K hK => ?_); unfold BaseF; go_big_quiet_op; refine hK _ ?_; clear hK K))
  refine RC.wpV_mk rfl rfl rfl [] (by kernel_rfl) (fun vs w7 hC hF => ?_) (fun vs v w7 hC hV hF => ?_)
  · obtain ⟨⟨w7, hk7, -⟩, rfl⟩ := hC
    obtain ⟨c, w8, hr, s8, g8⟩ := hcv w7
    exact yields_run (exec_conv hr) ⟨Keep.of_grow [] g8, ⟨_, _, rfl, s8⟩⟩
  obtain ⟨b47, d47, rfl, -⟩ := hV
  clear hC hF w7
  simp only [List.set_cons_succ, List.set_cons_zero]
  repeat (first | (refine RC.wpV_skp rfl rfl ?_; simp only [List.set_cons_succ, List.set_cons_zero]) | (refine RC.wpV_look rfl rfl rfl rfl rfl (fun K hK => ?_); go_big_quiet_op; refine hK _ ?_; clear hK K) | (refine RC.wpV_free rfl rfl rfl rfl (fun K hK => ?_); unfold BaseF; go_big_quiet_op; refine hK _ ?_; clear hK K))
  refine RC.wpV_mk rfl rfl rfl [47] (by kernel_rfl) (fun vs w7 hC hF => yields_call (by kernel_rfl) ?_) (fun vs v w7 hC hV hF => ?_)
  · obtain ⟨bo, d, e, hs⟩ := ((hF 47 (by simp)).2 rfl)
    obtain ⟨⟨w7, hk7, -⟩, rfl⟩ := hC
    cases e
    exact hlx8 _ _ _ (tx k) htxk w7 hk7.grow hs _ (fun w8 g8 => ⟨_, rfl, Keep.of_grow [] g8, by rw [HXB.out]; rfl⟩)
  obtain rfl := hV
  clear hC hF w7
  simp only [List.set_cons_succ, List.set_cons_zero]
  repeat (first | (refine RC.wpV_skp rfl rfl ?_; simp only [List.set_cons_succ, List.set_cons_zero]) | (refine RC.wpV_look rfl rfl rfl rfl rfl (fun K hK => ?_); go_big_quiet_op; refine hK _ ?_; clear hK K) | (refine RC.wpV_free rfl rfl rfl rfl (fun K hK => ?_); unfold BaseF; go_big_quiet_op; refine hK _ ?_; clear hK K))
  refine RC.wpV_nil ?_
  intro w9 hC hF
  obtain ⟨⟨w9, hk9, -⟩, rfl⟩ := hC
  exact hq8 _ hk9.grow


set_option maxRecDepth 100000 in
set_option maxHeartbeats 4000000 in
theorem trPr12f (g : Tgs) {tx : Nat → List UInt8} {hs : Nat → Bool} (k : Nat) (hk : k < g.n) (hsk : hs k = false) {c0 c1 c2 c3 c4 c5 c6 c7 c8 c9 c10 c11 c12 c13 c14 c16 c18 c19 c20 c21 c22 c23 c24 c25 c26 c27 c28 c29 c30 c31 c32 c33 c34 c35 c36 c37 c38 c39 c40 c41 c42 c43 c44 c45 c46 c47 c48 c49 c50 c51 c52 c53 c54 c55 c56 c57 c58 c59 c60 c61 c62 c63 c64 c65 c66 c67 c68 c69 c70 c71 c72 c73 c74 c75 c76 c77 c78 c79 c80 c81 c82 c83 c84 c85 c86 c87 c88 c89 c90 c91 c92 c93 c94 c95 c96 c97 c98 c99 c100 c101 c102 c103 c104 c105 c106 c107 c108 c109 c110 c111 c112 c113 c114 c115 c116 c117 c118 c119 c120 c121 c122 c123 c124 c125 c126 c127 c128 c129 c130 c131 c132 c133 c134 c135 c136 c137 c138 c139 c140 c141 c142 c143 c144 c145 c146 c147 c148 c149 c150 c151 c152 c153 c154 c155 c156 c157 c158 c159 c160 c161 c162 c163 c164 c165 c166 c167 c168 c169 c170 c171 c172 c173 c174 c175 c176 c177 c178 c179 c180 c181 c182 c183 c184 c185 c186 c187 c188 c189 c190 c191 c192 c193 c194 c195 c196 c197 c198 c199 c200 c201 c202 c203 c204 c205 c206 c207 c208 c209 c210 c211 c212 c213 c214 c215 c216 c217 : Value} (w : World) (tg : Tg w g lawK tx hs) {Q : Exit → Act → World → Prop}
    (hQ : ∀ (w' : World), Grow w w' → ∀ {u112 u113 u114 u115 u116 u117 u118 u119 u120 u121 u122 u123 u124 u125 u126 u127 u128 u129 u130 u131 u132 u133 u134 u135 u136 : Value}, Q .normal ⟨List.toArray (c0 :: c1 :: c2 :: c3 :: c4 :: c5 :: c6 :: c7 :: c8 :: c9 :: c10 :: c11 :: c12 :: c13 :: c14 :: .pointer (some ⟨g.p, 0, none⟩) :: c16 :: .int .i64 (k : Int) :: c18 :: c19 :: c20 :: c21 :: c22 :: c23 :: c24 :: c25 :: c26 :: c27 :: c28 :: c29 :: c30 :: c31 :: c32 :: c33 :: c34 :: c35 :: c36 :: c37 :: c38 :: c39 :: c40 :: c41 :: c42 :: c43 :: c44 :: c45 :: c46 :: c47 :: c48 :: c49 :: c50 :: c51 :: c52 :: c53 :: c54 :: c55 :: c56 :: c57 :: c58 :: c59 :: c60 :: c61 :: c62 :: c63 :: c64 :: c65 :: c66 :: c67 :: c68 :: c69 :: c70 :: c71 :: c72 :: c73 :: c74 :: c75 :: c76 :: c77 :: c78 :: c79 :: c80 :: c81 :: c82 :: c83 :: c84 :: c85 :: c86 :: c87 :: c88 :: c89 :: c90 :: c91 :: c92 :: c93 :: c94 :: c95 :: c96 :: c97 :: c98 :: c99 :: c100 :: c101 :: c102 :: c103 :: c104 :: c105 :: c106 :: c107 :: c108 :: c109 :: c110 :: c111 :: u112 :: u113 :: u114 :: u115 :: u116 :: u117 :: u118 :: u119 :: u120 :: u121 :: u122 :: u123 :: u124 :: u125 :: u126 :: u127 :: u128 :: u129 :: u130 :: u131 :: u132 :: u133 :: u134 :: u135 :: u136 :: .bool false :: c138 :: c139 :: c140 :: c141 :: c142 :: c143 :: c144 :: c145 :: c146 :: c147 :: c148 :: c149 :: c150 :: c151 :: c152 :: c153 :: c154 :: c155 :: c156 :: c157 :: c158 :: c159 :: c160 :: c161 :: c162 :: c163 :: c164 :: c165 :: c166 :: c167 :: c168 :: c169 :: c170 :: c171 :: c172 :: c173 :: c174 :: c175 :: c176 :: c177 :: c178 :: c179 :: c180 :: c181 :: c182 :: c183 :: c184 :: c185 :: c186 :: c187 :: c188 :: c189 :: c190 :: c191 :: c192 :: c193 :: c194 :: c195 :: c196 :: c197 :: c198 :: c199 :: c200 :: c201 :: c202 :: c203 :: c204 :: c205 :: c206 :: c207 :: c208 :: c209 :: c210 :: c211 :: c212 :: c213 :: c214 :: c215 :: c216 :: c217 :: []), []⟩ w') :
    Code.wp Try.prog (regionAt Try.f9 12) Q ⟨List.toArray (c0 :: c1 :: c2 :: c3 :: c4 :: c5 :: c6 :: c7 :: c8 :: c9 :: c10 :: c11 :: c12 :: c13 :: c14 :: .pointer (some ⟨g.p, 0, none⟩) :: c16 :: .int .i64 (k : Int) :: c18 :: c19 :: c20 :: c21 :: c22 :: c23 :: c24 :: c25 :: c26 :: c27 :: c28 :: c29 :: c30 :: c31 :: c32 :: c33 :: c34 :: c35 :: c36 :: c37 :: c38 :: c39 :: c40 :: c41 :: c42 :: c43 :: c44 :: c45 :: c46 :: c47 :: c48 :: c49 :: c50 :: c51 :: c52 :: c53 :: c54 :: c55 :: c56 :: c57 :: c58 :: c59 :: c60 :: c61 :: c62 :: c63 :: c64 :: c65 :: c66 :: c67 :: c68 :: c69 :: c70 :: c71 :: c72 :: c73 :: c74 :: c75 :: c76 :: c77 :: c78 :: c79 :: c80 :: c81 :: c82 :: c83 :: c84 :: c85 :: c86 :: c87 :: c88 :: c89 :: c90 :: c91 :: c92 :: c93 :: c94 :: c95 :: c96 :: c97 :: c98 :: c99 :: c100 :: c101 :: c102 :: c103 :: c104 :: c105 :: c106 :: c107 :: c108 :: c109 :: c110 :: c111 :: c112 :: c113 :: c114 :: c115 :: c116 :: c117 :: c118 :: c119 :: c120 :: c121 :: c122 :: c123 :: c124 :: c125 :: c126 :: c127 :: c128 :: c129 :: c130 :: c131 :: c132 :: c133 :: c134 :: c135 :: c136 :: c137 :: c138 :: c139 :: c140 :: c141 :: c142 :: c143 :: c144 :: c145 :: c146 :: c147 :: c148 :: c149 :: c150 :: c151 :: c152 :: c153 :: c154 :: c155 :: c156 :: c157 :: c158 :: c159 :: c160 :: c161 :: c162 :: c163 :: c164 :: c165 :: c166 :: c167 :: c168 :: c169 :: c170 :: c171 :: c172 :: c173 :: c174 :: c175 :: c176 :: c177 :: c178 :: c179 :: c180 :: c181 :: c182 :: c183 :: c184 :: c185 :: c186 :: c187 :: c188 :: c189 :: c190 :: c191 :: c192 :: c193 :: c194 :: c195 :: c196 :: c197 :: c198 :: c199 :: c200 :: c201 :: c202 :: c203 :: c204 :: c205 :: c206 :: c207 :: c208 :: c209 :: c210 :: c211 :: c212 :: c213 :: c214 :: c215 :: c216 :: c217 :: []), []⟩ w := by
  have hml : maxLen = 9223372036854775807 := rfl
  obtain ⟨gh, off, hho, hcl⟩ := tg.has.sl.hat (by omega)
  have o3 := obj_cell tg.obj 3 rfl
  rw [hho] at o3
  have h1 := hcl.at (i := k) (v := .bool (hs k)) (by simp [hk])
  have x3 := tg.has.sl.hle
  have x4 := tg.has.sl.hcap
  rw [hsk] at h1
  have p3 := KW.cell (fp := []) (p0 := tt) o3 (by simp)
  have p4 := KW.cell (fp := []) (p0 := tt) h1 (by simp)
  clear o3 h1 hcl hho tg
  conv => arg 2; whnf
  refine wp_region_R (segT w []) (by kernel_rfl) segT_drew ?_
  unfold segT segK segR
  repeat (first | (refine wpV_skp rfl rfl ?_; simp only [List.set_cons_succ, List.set_cons_zero]) | (refine wpV_look rfl rfl rfl rfl rfl (fun K hK => ?_); go_big_quiet_op; refine hK _ ?_; clear hK K))
  refine wpV_nil ?_
  intro w2 hC hF
  obtain ⟨⟨w2, hkw2, -⟩, rfl⟩ := hC
  clear hF
  exact hQ _ hkw2.grow


set_option maxRecDepth 100000 in
set_option maxHeartbeats 8000000 in
theorem trPr12t (w0 : World) (t : Tre) (g : Tgs) {h : Int → Bool} {T : Nat → Nat → B16} {tx : Nat → List UInt8} {hs : Nat → Bool} {FP : List Nat} {cs : List Clm} (po : Option Addr) (pn pc : Nat) (Pf : List B16) {bp : Option Addr} (tb : t.bv = .pointer bp)
    (n k : Nat) (hn : n ≤ 1000) (hk : k < n) (htl : t.L = (wl t.n).length) (htn : t.n = n) (hgn : g.n = n) (htx : ∀ i, (tx i).length ≤ 1000) (hcs : cs.length ≤ 80000)
    (RT : B16) (hpn : pn = Pf.length) (hpl : pn ≤ 100000) (hRT : RT = rootA t.n T) (hv : true = verS lawK n k (tx k) RT Pf) (hsk : hs k = true) {c1 c2 c3 c4 c5 c6 c7 c8 c9 c10 c11 c12 c16 c19 c20 c21 c22 c23 c24 c25 c26 c27 c28 c29 c30 c31 c32 c33 c34 c35 c36 c37 c38 c39 c40 c41 c42 c43 c44 c45 c46 c47 c48 c49 c50 c51 c52 c53 c54 c55 c56 c57 c58 c59 c60 c61 c62 c63 c64 c65 c66 c67 c68 c69 c70 c71 c72 c73 c74 c75 c76 c77 c78 c79 c80 c81 c82 c83 c84 c85 c86 c87 c88 c89 c90 c91 c92 c93 c94 c95 c96 c97 c98 c99 c100 c101 c102 c103 c104 c105 c106 c107 c108 c109 c110 c111 c112 c113 c114 c115 c116 c117 c118 c119 c120 c121 c122 c123 c124 c125 c126 c127 c128 c129 c130 c131 c132 c133 c134 c135 c136 c137 c138 c139 c140 c141 c142 c143 c144 c145 c146 c147 c148 c149 c150 c151 c152 c153 c154 c155 c156 c157 c158 c159 c160 c161 c162 c163 c164 c165 c166 c167 c168 c169 c170 c171 c172 c173 c174 c175 c176 c177 c178 c179 c180 c181 c182 c183 c184 c185 c186 c187 c188 c189 c190 c191 c192 c193 c194 c195 c196 c197 c198 c199 c200 c201 c202 c203 c204 c205 c206 c207 c208 c209 c210 c211 c212 c213 c214 c215 c216 c217 : Value} (w : World) (q : Pq w0 w t g h T tx hs FP cs po pn pc Pf) {Q : Exit → Act → World → Prop}
    (hQ : ∀ (FP' : List Nat) (cs' : List Clm) (w' : World), Pq w0 w' t g h T tx hs FP' cs' po pn pc Pf → cs'.length ≤ cs.length + 1100 → Keep FP w w' → (∀ y ∈ FP', y ∈ FP ∨ w.heap.size ≤ y) → ∀ {u112 u113 u114 u115 u116 u117 u118 u119 u120 u121 u122 u123 u124 u125 u126 u127 u128 u129 u130 u131 u132 u133 u134 u135 u136 : Value}, Q .normal ⟨List.toArray (.int .i64 (n : Int) :: c1 :: c2 :: c3 :: c4 :: c5 :: c6 :: c7 :: c8 :: c9 :: c10 :: c11 :: c12 :: .pointer bp :: .pointer (some ⟨t.p, 0, none⟩) :: .pointer (some ⟨g.p, 0, none⟩) :: c16 :: .int .i64 (k : Int) :: .slice po pn pc :: c19 :: c20 :: c21 :: c22 :: c23 :: c24 :: c25 :: c26 :: c27 :: c28 :: c29 :: c30 :: c31 :: c32 :: c33 :: c34 :: c35 :: c36 :: c37 :: c38 :: c39 :: c40 :: c41 :: c42 :: c43 :: c44 :: c45 :: c46 :: c47 :: c48 :: c49 :: c50 :: c51 :: c52 :: c53 :: c54 :: c55 :: c56 :: c57 :: c58 :: c59 :: c60 :: c61 :: c62 :: c63 :: c64 :: c65 :: c66 :: c67 :: c68 :: c69 :: c70 :: c71 :: c72 :: c73 :: c74 :: c75 :: c76 :: c77 :: c78 :: c79 :: c80 :: c81 :: c82 :: c83 :: c84 :: c85 :: c86 :: c87 :: c88 :: c89 :: c90 :: c91 :: c92 :: c93 :: c94 :: c95 :: c96 :: c97 :: c98 :: c99 :: c100 :: c101 :: c102 :: c103 :: c104 :: c105 :: c106 :: c107 :: c108 :: c109 :: c110 :: c111 :: u112 :: u113 :: u114 :: u115 :: u116 :: u117 :: u118 :: u119 :: u120 :: u121 :: u122 :: u123 :: u124 :: u125 :: u126 :: u127 :: u128 :: u129 :: u130 :: u131 :: u132 :: u133 :: u134 :: u135 :: u136 :: .bool false :: c138 :: c139 :: c140 :: c141 :: c142 :: c143 :: c144 :: c145 :: c146 :: c147 :: c148 :: c149 :: c150 :: c151 :: c152 :: c153 :: c154 :: c155 :: c156 :: c157 :: c158 :: c159 :: c160 :: c161 :: c162 :: c163 :: c164 :: c165 :: c166 :: c167 :: c168 :: c169 :: c170 :: c171 :: c172 :: c173 :: c174 :: c175 :: c176 :: c177 :: c178 :: c179 :: c180 :: c181 :: c182 :: c183 :: c184 :: c185 :: c186 :: c187 :: c188 :: c189 :: c190 :: c191 :: c192 :: c193 :: c194 :: c195 :: c196 :: c197 :: c198 :: c199 :: c200 :: c201 :: c202 :: c203 :: c204 :: c205 :: c206 :: c207 :: c208 :: c209 :: c210 :: c211 :: c212 :: c213 :: c214 :: c215 :: c216 :: c217 :: []), []⟩ w') :
    Code.wp Try.prog (regionAt Try.f9 12) Q ⟨List.toArray (.int .i64 (n : Int) :: c1 :: c2 :: c3 :: c4 :: c5 :: c6 :: c7 :: c8 :: c9 :: c10 :: c11 :: c12 :: .pointer bp :: .pointer (some ⟨t.p, 0, none⟩) :: .pointer (some ⟨g.p, 0, none⟩) :: c16 :: .int .i64 (k : Int) :: .slice po pn pc :: c19 :: c20 :: c21 :: c22 :: c23 :: c24 :: c25 :: c26 :: c27 :: c28 :: c29 :: c30 :: c31 :: c32 :: c33 :: c34 :: c35 :: c36 :: c37 :: c38 :: c39 :: c40 :: c41 :: c42 :: c43 :: c44 :: c45 :: c46 :: c47 :: c48 :: c49 :: c50 :: c51 :: c52 :: c53 :: c54 :: c55 :: c56 :: c57 :: c58 :: c59 :: c60 :: c61 :: c62 :: c63 :: c64 :: c65 :: c66 :: c67 :: c68 :: c69 :: c70 :: c71 :: c72 :: c73 :: c74 :: c75 :: c76 :: c77 :: c78 :: c79 :: c80 :: c81 :: c82 :: c83 :: c84 :: c85 :: c86 :: c87 :: c88 :: c89 :: c90 :: c91 :: c92 :: c93 :: c94 :: c95 :: c96 :: c97 :: c98 :: c99 :: c100 :: c101 :: c102 :: c103 :: c104 :: c105 :: c106 :: c107 :: c108 :: c109 :: c110 :: c111 :: c112 :: c113 :: c114 :: c115 :: c116 :: c117 :: c118 :: c119 :: c120 :: c121 :: c122 :: c123 :: c124 :: c125 :: c126 :: c127 :: c128 :: c129 :: c130 :: c131 :: c132 :: c133 :: c134 :: c135 :: c136 :: c137 :: c138 :: c139 :: c140 :: c141 :: c142 :: c143 :: c144 :: c145 :: c146 :: c147 :: c148 :: c149 :: c150 :: c151 :: c152 :: c153 :: c154 :: c155 :: c156 :: c157 :: c158 :: c159 :: c160 :: c161 :: c162 :: c163 :: c164 :: c165 :: c166 :: c167 :: c168 :: c169 :: c170 :: c171 :: c172 :: c173 :: c174 :: c175 :: c176 :: c177 :: c178 :: c179 :: c180 :: c181 :: c182 :: c183 :: c184 :: c185 :: c186 :: c187 :: c188 :: c189 :: c190 :: c191 :: c192 :: c193 :: c194 :: c195 :: c196 :: c197 :: c198 :: c199 :: c200 :: c201 :: c202 :: c203 :: c204 :: c205 :: c206 :: c207 :: c208 :: c209 :: c210 :: c211 :: c212 :: c213 :: c214 :: c215 :: c216 :: c217 :: []), []⟩ w := by
  have hml : maxLen = 9223372036854775807 := rfl
  have hnt1 : 1 ≤ t.n := by omega
  have hnt2 : t.n ≤ 1000 := by omega
  obtain ⟨gh, off, hho, hcl⟩ := q.tg.has.sl.hat (by omega)
  obtain ⟨gx, ofx, hxo, hcx⟩ := q.tg.txt.sl.hat (by omega)
  have o3 := obj_cell q.tg.obj 3 rfl
  have o2 := obj_cell q.tg.obj 2 rfl
  rw [hho] at o3
  rw [hxo] at o2
  have h1 := hcl.at (i := k) (v := .bool (hs k)) (by simp [show k < g.n by omega])
  have h2 := hcx.at (i := k) (v := .string (str (tx k))) (by simp [show k < g.n by omega])
  have x1 := q.tg.txt.sl.hle
  have x2 := q.tg.txt.sl.hcap
  have x3 := q.tg.has.sl.hle
  have x4 := q.tg.has.sl.hcap
  rw [hgn] at o2 o3 x1 x3
  rw [hsk] at h1
  have p1 := KW.cell (fp := []) (p0 := tt) o2 (by simp)
  have p2 := KW.cell (fp := []) (p0 := tt) h2 (by simp)
  have p3 := KW.cell (fp := []) (p0 := tt) o3 (by simp)
  have p4 := KW.cell (fp := []) (p0 := tt) h1 (by simp)
  have htxk := htx k
  have hcv := fun w' => conv_str (P := Try.prog) (src := 9) (dst := 27) (e := 5) Try.underlying9 Try.underlying27 Try.underlying5 (str (tx k)) (tx k) rfl (by omega) w'
  have hrt := fun w' (gr : Grow w w') => (q.grow gr).root htl hnt1 hnt2 RT hRT
  have hflt := q.hb.bk.lt
  have hver := fun w' (gr : Grow w w') ko kc (ok : Own w' 5 1 ko 32 kc (lawK.map B)) (hko : ∀ y ∈ blk ko, w.heap.size ≤ y) a0 tc (st : Sl w' 1 a0 (tx k).length tc ((tx k).map B)) (hst : ∀ y ∈ blk a0, w.heap.size ≤ y) => (q.grow gr).verify tb n k hn hk ko kc ok (fun y hy hm => by have := hko y hy; have := hflt y hm; omega) hcs RT a0 (tx k).length tc (tx k) htxk st (fun y hy => ⟨fun hm => by have := hst y (bz_sub hy); have := hflt y hm; omega, st.ltZ (by omega) y hy⟩) po pn pc Pf hpn hpl (q.grow gr).pr q.pf true hv
  obtain ⟨X, hX⟩ : ∃ X, X = tx k := ⟨_, rfl⟩
  obtain ⟨XR, hXR⟩ : ∃ X, X = (RT.b.map B).toArray := ⟨_, rfl⟩
  simp only [← hX] at hver hcv p2 htxk
  simp only [← hXR] at hver hrt
  clear o2 o3 h1 h2 hcl hcx hho hxo hX hXR hv hRT hpn
  conv => arg 2; whnf
  refine wp_region_R (segT w [(9, pNw 5 32 w.heap.size (lawK.map B)), (12, pIs (.agg XR)), (21, pByN w.heap.size X)]) (by kernel_rfl) segT_drew ?_
  unfold segT segK segR
  repeat (first | (refine wpV_skp rfl rfl ?_; simp only [List.set_cons_succ, List.set_cons_zero]) | (refine wpV_look rfl rfl rfl rfl rfl (fun K hK => ?_); go_big_quiet_op; refine hK _ ?_; clear hK K))
  refine wpV_mk rfl rfl rfl [] (by kernel_rfl) (fun vs w7 hC hF => yields_call (by kernel_rfl) ?_) (fun vs v w7 hC hV hF => ?_)
  · obtain ⟨⟨w7, hk7, -⟩, rfl⟩ := hC
    exact keyC w7 _ (fun ao c w8 o8 g8 f8 => ⟨_, rfl, ⟨Keep.of_grow [] g8, trivial⟩, ⟨ao, c, rfl, o8, fun y hy => Nat.le_trans hk7.size (f8 y hy)⟩⟩)
  obtain ⟨b9, d9, rfl, -⟩ := hV
  clear hC hF w7
  simp only [List.set_cons_succ, List.set_cons_zero]
  repeat (first | (refine wpV_skp rfl rfl ?_; simp only [List.set_cons_succ, List.set_cons_zero]) | (refine wpV_look rfl rfl rfl rfl rfl (fun K hK => ?_); go_big_quiet_op; refine hK _ ?_; clear hK K))
  refine wpV_mk rfl rfl rfl [] (by kernel_rfl) (fun vs w7 hC hF => yields_call (by kernel_rfl) ?_) (fun vs v w7 hC hV hF => ?_)
  · obtain ⟨⟨w7, hk7, -⟩, rfl⟩ := hC
    exact hrt w7 hk7.grow _ (fun w8 g8 _ => ⟨_, rfl, ⟨Keep.of_grow [] g8, trivial⟩, rfl⟩)
  obtain rfl := hV
  clear hC hF w7
  simp only [List.set_cons_succ, List.set_cons_zero]
  repeat (first | (refine wpV_skp rfl rfl ?_; simp only [List.set_cons_succ, List.set_cons_zero]) | (refine wpV_look rfl rfl rfl rfl rfl (fun K hK => ?_); go_big_quiet_op; refine hK _ ?_; clear hK K))
  refine wpV_mk rfl rfl rfl [] (by kernel_rfl) (fun vs w7 hC hF => ?_) (fun vs v w7 hC hV hF => ?_)
  · obtain ⟨⟨w7, hk7, -⟩, rfl⟩ := hC
    obtain ⟨c, w8, hr, s8, g8⟩ := hcv w7
    exact yields_run (exec_conv hr) ⟨⟨Keep.of_grow [] g8, trivial⟩, ⟨_, _, rfl, s8, fun y hy => by have := hk7.size; simp [blk] at hy; omega⟩⟩
  obtain ⟨b21, d21, rfl, -⟩ := hV
  clear hC hF w7
  simp only [List.set_cons_succ, List.set_cons_zero]
  repeat (first | (refine wpV_skp rfl rfl ?_; simp only [List.set_cons_succ, List.set_cons_zero]) | (refine wpV_look rfl rfl rfl rfl rfl (fun K hK => ?_); go_big_quiet_op; refine hK _ ?_; clear hK K))
  refine wpV_tn rfl rfl (by kernel_rfl) (fun w7 hC hF => yields_call (by kernel_rfl) ?_)
  obtain ⟨⟨w7, hk7, -⟩, rfl⟩ := hC
  obtain ⟨ao1, c1, e1, ok1, hy1⟩ := (hF 9).1.1.2 rfl
  obtain ⟨ao2, c2, e2, s2, hy2⟩ := (hF 21).2 rfl
  cases e1
  cases e2
  refine hver w7 hk7.grow _ _ ok1 hy1 _ _ s2 hy2 _ ?_
  intro FP8 cs8 w8 q8 hl8 k8 in8
  refine ⟨_, rfl, segU _, ⟨(), rfl⟩, ?_⟩
  have K8 : Keep FP w w8 := (hk7.mono (by simp)).trans k8
  have hf := fun {u112 u113 u114 u115 u116 u117 u118 u119 u120 u121 u122 u123 u124 u125 u126 u127 u128 u129 u130 u131 u132 u133 u134 u135 u136 : Value} => @hQ FP8 cs8 w8 q8 (by omega) K8 (fun y hy => (in8 y hy).imp id fun h => Nat.le_trans hk7.size h) u112 u113 u114 u115 u116 u117 u118 u119 u120 u121 u122 u123 u124 u125 u126 u127 u128 u129 u130 u131 u132 u133 u134 u135 u136
  clear hQ hF hver
  unfold segU
  simp only [List.set_cons_succ, List.set_cons_zero]
  repeat (first | (refine wpV_skp rfl rfl ?_; simp only [List.set_cons_succ, List.set_cons_zero]) | (refine wpV_look rfl rfl rfl rfl rfl (fun K hK => ?_); go_big_quiet_op; refine hK _ ?_; clear hK K))
  refine wpV_nil ?_
  intro w9 hC hF
  obtain ⟨-, rfl⟩ := hC
  exact hf


theorem trPr10 (w0 : World) (t : Tre) (g : Tgs) {h : Int → Bool} {T : Nat → Nat → B16} {tx : Nat → List UInt8} {hs : Nat → Bool} {FP : List Nat} {cs : List Clm} (po : Option Addr) (pn pc : Nat) (Pf : List B16) {bp : Option Addr} (tb : t.bv = .pointer bp)
    (n k : Nat) (hn : n ≤ 1000) (hk : k < n) (htl : t.L = (wl t.n).length) (htn : t.n = n) (hgn : g.n = n) (htk : t.key = lawK) (htx : ∀ i, (tx i).length ≤ 1000) (hcs : cs.length ≤ 70000)
    (RT : B16) (ta : Option Addr) (tn tc : Nat) (text : List UInt8) (htxt : text.length ≤ 1000) (st0 : Sl w0 1 ta tn tc (text.map B)) (hpn : pn = Pf.length) (hpl : pn ≤ 100000)
    (hRT : RT = rootA t.n T) (hRT2 : RT = rootA g.n (nd lawK g.n (lvD lawK tx hs))) (hP2 : Pf = proofA g.n (nd lawK g.n (lvD lawK tx hs)) (beside g.n (k : Int))) (v : Bool) (hv : v = verS lawK n k text RT Pf) (hlt0 : ∀ y ∈ bz tn ta, y < w0.heap.size)
    (hhk : h (k : Int) = hs k) (hT0 : hs k = true → T 0 k = leafT lawK k (tx k)) (ph : Nat) {c1 c2 c4 c5 c6 c7 c8 c9 c10 c11 c12 c16 c20 c21 c22 c23 c24 c25 c26 c27 c28 c29 c30 c31 c32 c33 c34 c35 c36 c37 c38 c39 c40 c41 c42 c43 c44 c45 c46 c47 c48 c49 c50 c51 c52 c53 c54 c55 c56 c57 c58 c59 c60 c61 c62 c63 c64 c65 c66 c67 c68 c69 c70 c71 c72 c73 c74 c75 c76 c77 c78 c79 c80 c81 c82 c83 c84 c85 c86 c87 c88 c89 c90 c91 c92 c93 c94 c95 c96 c97 c98 c99 c100 c101 c102 c103 c104 c105 c106 c107 c108 c109 c110 c111 c112 c113 c114 c115 c116 c117 c118 c119 c120 c121 c122 c123 c124 c125 c126 c127 c128 c129 c130 c131 c132 c133 c134 c135 c136 c137 c138 c139 c140 c141 c142 c143 c144 c145 c146 c147 c148 c149 c150 c151 c152 c153 c154 c155 c156 c157 c158 c159 c160 c161 c162 c163 c164 c165 c166 c167 c168 c169 c170 c171 c172 c173 c174 c175 c176 c177 c178 c179 c180 c181 c182 c183 c184 c185 c186 c187 c188 c189 c190 c191 c192 c193 c194 c195 c196 c197 c198 c199 c200 c201 c202 c203 c204 c205 c206 c207 c208 c209 c210 c211 c212 c213 c214 c215 c216 c217 : Value} (w : World) (q : Pq w0 w t g h T tx hs FP cs po pn pc Pf) (sm : Sm w ph Hs Ks) (hph : ph ∉ FP) {Q : Exit → Act → World → Prop}
    (hQ : ∀ (FP' : List Nat) (cs' : List Clm) (w' : World), Pq w0 w' t g h T tx hs FP' cs' po pn pc Pf → cs'.length ≤ cs.length + 1100 → Keep FP w w' → (∀ y ∈ FP', y ∈ FP ∨ w.heap.size ≤ y) → ∀ {u59 u60 u61 u62 u63 u64 u65 u66 u67 u68 u69 u70 u71 u72 u73 u74 u75 u76 u77 u78 u79 u80 u81 u82 u83 u84 u85 u86 u87 u88 u89 u90 u91 u92 u93 u94 u95 u96 u97 u98 u99 u100 u101 u102 u103 u104 u105 u106 u107 u108 u109 u110 : Value}, Q .normal ⟨List.toArray (.int .i64 (n : Int) :: c1 :: c2 :: .slice ta tn tc :: c4 :: c5 :: c6 :: c7 :: c8 :: c9 :: c10 :: c11 :: c12 :: .pointer bp :: .pointer (some ⟨t.p, 0, none⟩) :: .pointer (some ⟨g.p, 0, none⟩) :: c16 :: .int .i64 (k : Int) :: .slice po pn pc :: .pointer (some ⟨ph, 0, none⟩) :: c20 :: c21 :: c22 :: c23 :: c24 :: c25 :: c26 :: c27 :: c28 :: c29 :: c30 :: c31 :: c32 :: c33 :: c34 :: c35 :: c36 :: c37 :: c38 :: c39 :: c40 :: c41 :: c42 :: c43 :: c44 :: c45 :: c46 :: c47 :: c48 :: c49 :: c50 :: c51 :: c52 :: c53 :: c54 :: c55 :: c56 :: c57 :: c58 :: u59 :: u60 :: u61 :: u62 :: u63 :: u64 :: u65 :: u66 :: u67 :: u68 :: u69 :: u70 :: u71 :: u72 :: u73 :: u74 :: u75 :: u76 :: u77 :: u78 :: u79 :: u80 :: u81 :: u82 :: u83 :: u84 :: u85 :: u86 :: u87 :: u88 :: u89 :: u90 :: u91 :: u92 :: u93 :: u94 :: u95 :: u96 :: u97 :: u98 :: u99 :: u100 :: u101 :: u102 :: u103 :: u104 :: u105 :: u106 :: u107 :: u108 :: u109 :: u110 :: .bool false :: c112 :: c113 :: c114 :: c115 :: c116 :: c117 :: c118 :: c119 :: c120 :: c121 :: c122 :: c123 :: c124 :: c125 :: c126 :: c127 :: c128 :: c129 :: c130 :: c131 :: c132 :: c133 :: c134 :: c135 :: c136 :: c137 :: c138 :: c139 :: c140 :: c141 :: c142 :: c143 :: c144 :: c145 :: c146 :: c147 :: c148 :: c149 :: c150 :: c151 :: c152 :: c153 :: c154 :: c155 :: c156 :: c157 :: c158 :: c159 :: c160 :: c161 :: c162 :: c163 :: c164 :: c165 :: c166 :: c167 :: c168 :: c169 :: c170 :: c171 :: c172 :: c173 :: c174 :: c175 :: c176 :: c177 :: c178 :: c179 :: c180 :: c181 :: c182 :: c183 :: c184 :: c185 :: c186 :: c187 :: c188 :: c189 :: c190 :: c191 :: c192 :: c193 :: c194 :: c195 :: c196 :: c197 :: c198 :: c199 :: c200 :: c201 :: c202 :: c203 :: c204 :: c205 :: c206 :: c207 :: c208 :: c209 :: c210 :: c211 :: c212 :: c213 :: c214 :: c215 :: c216 :: c217 :: []), []⟩ w') :
    Code.wp Try.prog (regionAt Try.f9 10) Q ⟨List.toArray (.int .i64 (n : Int) :: c1 :: c2 :: .slice ta tn tc :: c4 :: c5 :: c6 :: c7 :: c8 :: c9 :: c10 :: c11 :: c12 :: .pointer bp :: .pointer (some ⟨t.p, 0, none⟩) :: .pointer (some ⟨g.p, 0, none⟩) :: c16 :: .int .i64 (k : Int) :: .slice po pn pc :: .pointer (some ⟨ph, 0, none⟩) :: c20 :: c21 :: c22 :: c23 :: c24 :: c25 :: c26 :: c27 :: c28 :: c29 :: c30 :: c31 :: c32 :: c33 :: c34 :: c35 :: c36 :: c37 :: c38 :: c39 :: c40 :: c41 :: c42 :: c43 :: c44 :: c45 :: c46 :: c47 :: c48 :: c49 :: c50 :: c51 :: c52 :: c53 :: c54 :: c55 :: c56 :: c57 :: c58 :: c59 :: c60 :: c61 :: c62 :: c63 :: c64 :: c65 :: c66 :: c67 :: c68 :: c69 :: c70 :: c71 :: c72 :: c73 :: c74 :: c75 :: c76 :: c77 :: c78 :: c79 :: c80 :: c81 :: c82 :: c83 :: c84 :: c85 :: c86 :: c87 :: c88 :: c89 :: c90 :: c91 :: c92 :: c93 :: c94 :: c95 :: c96 :: c97 :: c98 :: c99 :: c100 :: c101 :: c102 :: c103 :: c104 :: c105 :: c106 :: c107 :: c108 :: c109 :: c110 :: c111 :: c112 :: c113 :: c114 :: c115 :: c116 :: c117 :: c118 :: c119 :: c120 :: c121 :: c122 :: c123 :: c124 :: c125 :: c126 :: c127 :: c128 :: c129 :: c130 :: c131 :: c132 :: c133 :: c134 :: c135 :: c136 :: c137 :: c138 :: c139 :: c140 :: c141 :: c142 :: c143 :: c144 :: c145 :: c146 :: c147 :: c148 :: c149 :: c150 :: c151 :: c152 :: c153 :: c154 :: c155 :: c156 :: c157 :: c158 :: c159 :: c160 :: c161 :: c162 :: c163 :: c164 :: c165 :: c166 :: c167 :: c168 :: c169 :: c170 :: c171 :: c172 :: c173 :: c174 :: c175 :: c176 :: c177 :: c178 :: c179 :: c180 :: c181 :: c182 :: c183 :: c184 :: c185 :: c186 :: c187 :: c188 :: c189 :: c190 :: c191 :: c192 :: c193 :: c194 :: c195 :: c196 :: c197 :: c198 :: c199 :: c200 :: c201 :: c202 :: c203 :: c204 :: c205 :: c206 :: c207 :: c208 :: c209 :: c210 :: c211 :: c212 :: c213 :: c214 :: c215 :: c216 :: c217 :: []), []⟩ w := by
  cases hsk : hs k with
  | false => exact trPr10f w0 t g po pn pc Pf tb n k hn hk htl htn hgn htk htx hcs RT ta tn tc text htxt st0 hpn hpl hRT hRT2 hP2 v hv hlt0 hhk hsk ph w q sm hph hQ
  | true => exact trPr10t w0 t g po pn pc Pf tb n k hn hk htl htn hgn htk htx hcs RT ta tn tc text htxt st0 hpn hpl hRT hRT2 hP2 v hv hlt0 hhk hsk (hT0 hsk) _ rfl ph w q sm hph hQ


theorem trPr12 (w0 : World) (t : Tre) (g : Tgs) {h : Int → Bool} {T : Nat → Nat → B16} {tx : Nat → List UInt8} {hs : Nat → Bool} {FP : List Nat} {cs : List Clm} (po : Option Addr) (pn pc : Nat) (Pf : List B16) {bp : Option Addr} (tb : t.bv = .pointer bp)
    (n k : Nat) (hn : n ≤ 1000) (hk : k < n) (htl : t.L = (wl t.n).length) (htn : t.n = n) (hgn : g.n = n) (htx : ∀ i, (tx i).length ≤ 1000) (hcs : cs.length ≤ 80000)
    (RT : B16) (hpn : pn = Pf.length) (hpl : pn ≤ 100000) (hRT : RT = rootA t.n T) (hv : hs k = true → true = verS lawK n k (tx k) RT Pf) {c1 c2 c3 c4 c5 c6 c7 c8 c9 c10 c11 c12 c16 c19 c20 c21 c22 c23 c24 c25 c26 c27 c28 c29 c30 c31 c32 c33 c34 c35 c36 c37 c38 c39 c40 c41 c42 c43 c44 c45 c46 c47 c48 c49 c50 c51 c52 c53 c54 c55 c56 c57 c58 c59 c60 c61 c62 c63 c64 c65 c66 c67 c68 c69 c70 c71 c72 c73 c74 c75 c76 c77 c78 c79 c80 c81 c82 c83 c84 c85 c86 c87 c88 c89 c90 c91 c92 c93 c94 c95 c96 c97 c98 c99 c100 c101 c102 c103 c104 c105 c106 c107 c108 c109 c110 c111 c112 c113 c114 c115 c116 c117 c118 c119 c120 c121 c122 c123 c124 c125 c126 c127 c128 c129 c130 c131 c132 c133 c134 c135 c136 c137 c138 c139 c140 c141 c142 c143 c144 c145 c146 c147 c148 c149 c150 c151 c152 c153 c154 c155 c156 c157 c158 c159 c160 c161 c162 c163 c164 c165 c166 c167 c168 c169 c170 c171 c172 c173 c174 c175 c176 c177 c178 c179 c180 c181 c182 c183 c184 c185 c186 c187 c188 c189 c190 c191 c192 c193 c194 c195 c196 c197 c198 c199 c200 c201 c202 c203 c204 c205 c206 c207 c208 c209 c210 c211 c212 c213 c214 c215 c216 c217 : Value} (w : World) (q : Pq w0 w t g h T tx hs FP cs po pn pc Pf) {Q : Exit → Act → World → Prop}
    (hQ : ∀ (FP' : List Nat) (cs' : List Clm) (w' : World), Pq w0 w' t g h T tx hs FP' cs' po pn pc Pf → cs'.length ≤ cs.length + 1100 → Keep FP w w' → (∀ y ∈ FP', y ∈ FP ∨ w.heap.size ≤ y) → ∀ {u112 u113 u114 u115 u116 u117 u118 u119 u120 u121 u122 u123 u124 u125 u126 u127 u128 u129 u130 u131 u132 u133 u134 u135 u136 : Value}, Q .normal ⟨List.toArray (.int .i64 (n : Int) :: c1 :: c2 :: c3 :: c4 :: c5 :: c6 :: c7 :: c8 :: c9 :: c10 :: c11 :: c12 :: .pointer bp :: .pointer (some ⟨t.p, 0, none⟩) :: .pointer (some ⟨g.p, 0, none⟩) :: c16 :: .int .i64 (k : Int) :: .slice po pn pc :: c19 :: c20 :: c21 :: c22 :: c23 :: c24 :: c25 :: c26 :: c27 :: c28 :: c29 :: c30 :: c31 :: c32 :: c33 :: c34 :: c35 :: c36 :: c37 :: c38 :: c39 :: c40 :: c41 :: c42 :: c43 :: c44 :: c45 :: c46 :: c47 :: c48 :: c49 :: c50 :: c51 :: c52 :: c53 :: c54 :: c55 :: c56 :: c57 :: c58 :: c59 :: c60 :: c61 :: c62 :: c63 :: c64 :: c65 :: c66 :: c67 :: c68 :: c69 :: c70 :: c71 :: c72 :: c73 :: c74 :: c75 :: c76 :: c77 :: c78 :: c79 :: c80 :: c81 :: c82 :: c83 :: c84 :: c85 :: c86 :: c87 :: c88 :: c89 :: c90 :: c91 :: c92 :: c93 :: c94 :: c95 :: c96 :: c97 :: c98 :: c99 :: c100 :: c101 :: c102 :: c103 :: c104 :: c105 :: c106 :: c107 :: c108 :: c109 :: c110 :: c111 :: u112 :: u113 :: u114 :: u115 :: u116 :: u117 :: u118 :: u119 :: u120 :: u121 :: u122 :: u123 :: u124 :: u125 :: u126 :: u127 :: u128 :: u129 :: u130 :: u131 :: u132 :: u133 :: u134 :: u135 :: u136 :: .bool false :: c138 :: c139 :: c140 :: c141 :: c142 :: c143 :: c144 :: c145 :: c146 :: c147 :: c148 :: c149 :: c150 :: c151 :: c152 :: c153 :: c154 :: c155 :: c156 :: c157 :: c158 :: c159 :: c160 :: c161 :: c162 :: c163 :: c164 :: c165 :: c166 :: c167 :: c168 :: c169 :: c170 :: c171 :: c172 :: c173 :: c174 :: c175 :: c176 :: c177 :: c178 :: c179 :: c180 :: c181 :: c182 :: c183 :: c184 :: c185 :: c186 :: c187 :: c188 :: c189 :: c190 :: c191 :: c192 :: c193 :: c194 :: c195 :: c196 :: c197 :: c198 :: c199 :: c200 :: c201 :: c202 :: c203 :: c204 :: c205 :: c206 :: c207 :: c208 :: c209 :: c210 :: c211 :: c212 :: c213 :: c214 :: c215 :: c216 :: c217 :: []), []⟩ w') :
    Code.wp Try.prog (regionAt Try.f9 12) Q ⟨List.toArray (.int .i64 (n : Int) :: c1 :: c2 :: c3 :: c4 :: c5 :: c6 :: c7 :: c8 :: c9 :: c10 :: c11 :: c12 :: .pointer bp :: .pointer (some ⟨t.p, 0, none⟩) :: .pointer (some ⟨g.p, 0, none⟩) :: c16 :: .int .i64 (k : Int) :: .slice po pn pc :: c19 :: c20 :: c21 :: c22 :: c23 :: c24 :: c25 :: c26 :: c27 :: c28 :: c29 :: c30 :: c31 :: c32 :: c33 :: c34 :: c35 :: c36 :: c37 :: c38 :: c39 :: c40 :: c41 :: c42 :: c43 :: c44 :: c45 :: c46 :: c47 :: c48 :: c49 :: c50 :: c51 :: c52 :: c53 :: c54 :: c55 :: c56 :: c57 :: c58 :: c59 :: c60 :: c61 :: c62 :: c63 :: c64 :: c65 :: c66 :: c67 :: c68 :: c69 :: c70 :: c71 :: c72 :: c73 :: c74 :: c75 :: c76 :: c77 :: c78 :: c79 :: c80 :: c81 :: c82 :: c83 :: c84 :: c85 :: c86 :: c87 :: c88 :: c89 :: c90 :: c91 :: c92 :: c93 :: c94 :: c95 :: c96 :: c97 :: c98 :: c99 :: c100 :: c101 :: c102 :: c103 :: c104 :: c105 :: c106 :: c107 :: c108 :: c109 :: c110 :: c111 :: c112 :: c113 :: c114 :: c115 :: c116 :: c117 :: c118 :: c119 :: c120 :: c121 :: c122 :: c123 :: c124 :: c125 :: c126 :: c127 :: c128 :: c129 :: c130 :: c131 :: c132 :: c133 :: c134 :: c135 :: c136 :: c137 :: c138 :: c139 :: c140 :: c141 :: c142 :: c143 :: c144 :: c145 :: c146 :: c147 :: c148 :: c149 :: c150 :: c151 :: c152 :: c153 :: c154 :: c155 :: c156 :: c157 :: c158 :: c159 :: c160 :: c161 :: c162 :: c163 :: c164 :: c165 :: c166 :: c167 :: c168 :: c169 :: c170 :: c171 :: c172 :: c173 :: c174 :: c175 :: c176 :: c177 :: c178 :: c179 :: c180 :: c181 :: c182 :: c183 :: c184 :: c185 :: c186 :: c187 :: c188 :: c189 :: c190 :: c191 :: c192 :: c193 :: c194 :: c195 :: c196 :: c197 :: c198 :: c199 :: c200 :: c201 :: c202 :: c203 :: c204 :: c205 :: c206 :: c207 :: c208 :: c209 :: c210 :: c211 :: c212 :: c213 :: c214 :: c215 :: c216 :: c217 :: []), []⟩ w := by
  cases hsk : hs k with
  | false => exact trPr12f g k (by omega) hsk w q.tg (fun w' gr => hQ FP cs w' (q.grow gr) (by omega) (Keep.of_grow _ gr) (fun y hy => .inl hy))
  | true => exact trPr12t w0 t g po pn pc Pf tb n k hn hk htl htn hgn htx hcs RT hpn hpl hRT (hv hsk) hsk w q hQ
end Go.Proofs.Ytfmnkcmicbnfdaa
