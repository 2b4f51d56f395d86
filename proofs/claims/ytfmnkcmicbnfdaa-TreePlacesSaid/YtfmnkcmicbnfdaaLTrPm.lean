/- TreePlaces: its great region. -/
import Derived.Test.YtfmnkcmicbnfdaaPqT
namespace Go.Proofs.Ytfmnkcmicbnfdaa
open Go Go.RowKit

def pBn (q n : Nat) (xs : List Value) : Pr := ⟨fun v w => ∃ ao c, v = .slice ao n c ∧ Own w 33 16 ao n c xs ∧ ∀ y ∈ blk ao, q ≤ y, fun k ⟨ao, c, h1, h, hq⟩ => ⟨ao, c, h1, h.keep k (by simp), hq⟩⟩
def pB0 (q : Nat) : Pr := ⟨fun v w => ∃ ao, v = .slice ao 0 0 ∧ Own w 33 16 ao 0 0 [] ∧ ∀ y ∈ blk ao, q ≤ y, fun k ⟨ao, h1, h, hq⟩ => ⟨ao, h1, h.keep k (by simp), hq⟩⟩
def pB1 (x : B16) : Pr := ⟨fun v w => ∃ ao, v = .slice ao 1 1 ∧ Sl w 16 ao 1 1 (bVs [x]), fun k ⟨ao, h1, h⟩ => ⟨ao, h1, h.keep k (by simp)⟩⟩


set_option maxRecDepth 100000 in
set_option maxHeartbeats 16000000 in
theorem trPl14 (w0 : World) (t : Tre) (g : Tgs) {h : Int → Bool} {T : Nat → Nat → B16} {tx : Nat → List UInt8} {hs : Nat → Bool} {FP : List Nat} {cs : List Clm} (po : Option Addr) (pn pc : Nat) (Pf : List B16) {bp : Option Addr} (tb : t.bv = .pointer bp)
    (n i k : Nat) (hn : n ≤ 1000) (hi : i < n) (hk : k < n) (htl : t.L = (wl t.n).length) (htn : t.n = n) (hgn : g.n = n) (htx : ∀ i, (tx i).length ≤ 1000) (hcs : cs.length ≤ 70000)
    (RT : B16) (ta : Option Addr) (tn tc : Nat) (text : List UInt8) (htxt : text.length ≤ 1000) (st0 : Sl w0 1 ta tn tc (text.map B)) (hpn : pn = Pf.length) (hpl : pn ≤ 90000)
    (hRT : RT = rootA t.n T) (hRT2 : RT = rootA g.n (nd lawK g.n (lvD lawK tx hs))) (hP2 : Pf = proofA g.n (nd lawK g.n (lvD lawK tx hs)) (beside g.n (i : Int))) (v : Bool) (hv1 : true = verS lawK n i text RT Pf) (hv : v = verS lawK n k text RT Pf) (hv4 : false = verS lawK n i text RT (Pf ++ [B0])) (hlt0 : ∀ y ∈ bz tn ta, y < w0.heap.size)
    (hway : way n n = []) (LI LK : B16) (hLI : nodeA t.n T 0 (i : Int) = LI) (hLK : nodeA t.n T 0 (k : Int) = LK) (sm : Bool) (hsm : sm = (LI.b == LK.b)) {c2 c3 c4 c5 c6 c7 c8 c13 c17 c18 c19 c20 c21 c22 c23 c24 c25 c26 c27 c28 c29 c30 c31 c32 c33 c34 c35 c36 c37 c38 c39 c40 c41 c42 c43 c44 c45 c46 c47 c48 c49 c50 c51 c52 c53 c54 c55 c56 c57 c58 c59 c60 c61 c62 c63 c64 c65 c66 c67 c68 c69 c70 c71 c72 c73 c74 c75 c76 c77 c78 c79 c80 c81 c82 c83 c84 c85 c86 c87 c88 c89 c90 c91 c92 c93 c94 c95 c96 c97 c98 c99 c100 c101 c102 c103 c104 c105 c106 c107 c108 c109 c110 c111 c112 c113 c114 c115 c116 c117 c118 c119 c120 c121 c122 c123 c124 c125 c126 c127 c128 c129 c130 c131 c132 c133 c134 c135 c136 c137 c138 c139 c140 c141 c142 c143 c144 c145 c146 c147 c148 c149 c150 c151 c152 c153 c154 c155 c156 c157 c158 c159 c160 c161 c162 c163 c164 c165 c166 c167 c168 c169 c170 c171 c172 c173 c174 c175 c176 c177 c178 c179 c180 c181 c182 c183 c184 c185 c186 : Value} (w : World) (q : Pq w0 w t g h T tx hs FP cs po pn pc Pf) {Q : Exit → Act → World → Prop}
    (hQ : ∀ (w' : World), Grow w0 w' → ∀ {u109 u110 u111 u112 u113 u114 u115 u116 u117 u118 u119 u120 u121 u122 u123 u124 u125 u126 u127 u128 u129 u130 u131 u132 u133 u134 u135 u136 u137 u138 u139 u140 u141 u142 u143 u144 u145 u146 u147 u148 u149 u150 u151 u152 u153 u154 u155 u156 u157 u158 u159 u160 u161 u162 u163 u164 u165 u166 u167 u168 u169 u170 u171 u172 u173 u174 u175 u176 u177 u178 u179 u180 u181 u182 u183 u184 u185 u186 : Value}, Q .normal ⟨List.toArray (.int .i64 (n : Int) :: .slice ta tn tc :: c2 :: c3 :: c4 :: c5 :: c6 :: c7 :: .bool true :: .int .i64 (i : Int) :: .int .i64 (k : Int) :: .pointer bp :: .pointer (some ⟨t.p, 0, none⟩) :: c13 :: .pointer (some ⟨g.p, 0, none⟩) :: .bool sm :: .slice po pn pc :: c17 :: c18 :: c19 :: c20 :: c21 :: c22 :: c23 :: c24 :: c25 :: c26 :: c27 :: c28 :: c29 :: c30 :: c31 :: c32 :: c33 :: c34 :: c35 :: c36 :: c37 :: c38 :: c39 :: c40 :: c41 :: c42 :: c43 :: c44 :: c45 :: c46 :: c47 :: c48 :: c49 :: c50 :: c51 :: c52 :: c53 :: c54 :: c55 :: c56 :: c57 :: c58 :: c59 :: c60 :: c61 :: c62 :: c63 :: c64 :: c65 :: c66 :: c67 :: c68 :: c69 :: c70 :: c71 :: c72 :: c73 :: c74 :: c75 :: c76 :: c77 :: c78 :: c79 :: c80 :: c81 :: c82 :: c83 :: c84 :: c85 :: c86 :: c87 :: c88 :: c89 :: c90 :: c91 :: c92 :: c93 :: c94 :: c95 :: c96 :: c97 :: c98 :: c99 :: c100 :: c101 :: c102 :: c103 :: c104 :: c105 :: c106 :: c107 :: c108 :: u109 :: u110 :: u111 :: u112 :: u113 :: u114 :: u115 :: u116 :: u117 :: u118 :: u119 :: u120 :: u121 :: u122 :: u123 :: u124 :: u125 :: u126 :: u127 :: u128 :: u129 :: u130 :: u131 :: u132 :: u133 :: u134 :: u135 :: u136 :: u137 :: u138 :: u139 :: u140 :: u141 :: u142 :: u143 :: u144 :: u145 :: u146 :: u147 :: u148 :: u149 :: u150 :: u151 :: u152 :: u153 :: u154 :: u155 :: u156 :: u157 :: u158 :: u159 :: u160 :: u161 :: u162 :: u163 :: u164 :: u165 :: u166 :: u167 :: u168 :: u169 :: u170 :: u171 :: u172 :: u173 :: u174 :: u175 :: u176 :: u177 :: u178 :: u179 :: u180 :: u181 :: u182 :: u183 :: u184 :: u185 :: u186 :: []), []⟩ w') :
    Code.wp Try.prog (regionAt Try.f7 14) Q ⟨List.toArray (.int .i64 (n : Int) :: .slice ta tn tc :: c2 :: c3 :: c4 :: c5 :: c6 :: c7 :: c8 :: .int .i64 (i : Int) :: .int .i64 (k : Int) :: .pointer bp :: .pointer (some ⟨t.p, 0, none⟩) :: c13 :: .pointer (some ⟨g.p, 0, none⟩) :: .bool sm :: .slice po pn pc :: c17 :: c18 :: c19 :: c20 :: c21 :: c22 :: c23 :: c24 :: c25 :: c26 :: c27 :: c28 :: c29 :: c30 :: c31 :: c32 :: c33 :: c34 :: c35 :: c36 :: c37 :: c38 :: c39 :: c40 :: c41 :: c42 :: c43 :: c44 :: c45 :: c46 :: c47 :: c48 :: c49 :: c50 :: c51 :: c52 :: c53 :: c54 :: c55 :: c56 :: c57 :: c58 :: c59 :: c60 :: c61 :: c62 :: c63 :: c64 :: c65 :: c66 :: c67 :: c68 :: c69 :: c70 :: c71 :: c72 :: c73 :: c74 :: c75 :: c76 :: c77 :: c78 :: c79 :: c80 :: c81 :: c82 :: c83 :: c84 :: c85 :: c86 :: c87 :: c88 :: c89 :: c90 :: c91 :: c92 :: c93 :: c94 :: c95 :: c96 :: c97 :: c98 :: c99 :: c100 :: c101 :: c102 :: c103 :: c104 :: c105 :: c106 :: c107 :: c108 :: c109 :: c110 :: c111 :: c112 :: c113 :: c114 :: c115 :: c116 :: c117 :: c118 :: c119 :: c120 :: c121 :: c122 :: c123 :: c124 :: c125 :: c126 :: c127 :: c128 :: c129 :: c130 :: c131 :: c132 :: c133 :: c134 :: c135 :: c136 :: c137 :: c138 :: c139 :: c140 :: c141 :: c142 :: c143 :: c144 :: c145 :: c146 :: c147 :: c148 :: c149 :: c150 :: c151 :: c152 :: c153 :: c154 :: c155 :: c156 :: c157 :: c158 :: c159 :: c160 :: c161 :: c162 :: c163 :: c164 :: c165 :: c166 :: c167 :: c168 :: c169 :: c170 :: c171 :: c172 :: c173 :: c174 :: c175 :: c176 :: c177 :: c178 :: c179 :: c180 :: c181 :: c182 :: c183 :: c184 :: c185 :: c186 :: []), []⟩ w := by
  have hml : maxLen = 9223372036854775807 := rfl
  have haw := awake20C
  have hn1 : 1 ≤ n := by omega
  have hnt1 : 1 ≤ t.n := by omega
  have hnt2 : t.n ≤ 1000 := by omega
  have hng1 : 1 ≤ g.n := by omega
  have hng2 : g.n ≤ 1000 := by omega
  have hvv : (v == v) = true := by simp
  have hsms : (sm == sm) = true := by simp
  have heq := eq_blk LI.b LK.b LI.h LK.h
  rw [← hsm] at heq
  have hwf : (Lit.int .i64 (n : Int)).wf = true := by simp [Lit.wf, IntKind.min, IntKind.max, IntKind.signed, IntKind.bits]; omega
  have p1 := KW.cell (fp := FP) (p0 := tt) (obj_cell q.tg.obj 0 rfl) (fun hm => q.ga g.p (by simp [Tgs.all]) hm)
  have hbz : ∀ w' FP cs, Pq w0 w' t g h T tx hs FP cs po pn pc Pf → ∀ y ∈ bz tn ta, y ∉ FP ∧ y < w'.heap.size := fun w' FP cs q' y hy => by
    have := hlt0 y hy
    have := q'.gr.size
    exact ⟨fun hm => by have := q'.fr y hm; omega, by omega⟩
  have hla := fun w' (q' : Pq w0 w' t g h T tx hs FP cs po pn pc Pf) => leafTC q'.hb.ht htl hnt1 hnt2 (i : Int)
  have hlb := fun w' (q' : Pq w0 w' t g h T tx hs FP cs po pn pc Pf) => leafTC q'.hb.ht htl hnt1 hnt2 (k : Int)
  rw [hLI] at hla
  rw [hLK] at hlb
  have Hv1 := Lib.hid hv1
  have Hv := Lib.hid hv
  have Hv4 := Lib.hid hv4
  have HRT := Lib.hid hRT
  have HRT2 := Lib.hid hRT2
  have HP2 := Lib.hid hP2
  have Hpn := Lib.hid hpn
  clear hv1 hv hv4 hRT hRT2 hP2 hpn hLI hLK hsm
  conv => arg 2; whnf
  refine RC.wp_region_F (C0 := BaseF FP w) [0, 1, 3, 4, 7, 10, 12, 13, 15, 16, 17, 21, 23, 24, 26, 27, 28, 30, 31, 32, 33, 34, 36, 38, 39, 40, 41, 47, 49, 50, 52, 53, 54, 59, 61, 62, 64, 65, 67, 69] (segB FP w w (Keep.refl _ w) []) (by kernel_rfl) segB_drew ?_
  unfold segB
  repeat (first | (refine RC.wpV_skp rfl rfl ?_; simp only [List.set_cons_succ, List.set_cons_zero]) | (refine RC.wpV_look rfl rfl rfl rfl rfl (fun K hK => ?_); go_big_quiet_op; refine hK _ ?_; clear hK K) | (refine RC.wpV_free rfl rfl rfl rfl (fun K hK => ?_); unfold BaseF; go_big_quiet_op; refine hK _ ?_; clear hK K))
  refine RC.wpV_tn rfl rfl (by kernel_rfl) (fun w7 hC hF => yields_call (by kernel_rfl) ?_)
  obtain ⟨⟨w7, hk7, -⟩, rfl⟩ := hC
  clear hF
  refine hla w7 (q.grow hk7.grow) _ ?_
  intro w1 gr1
  have K1 : Keep FP w w1 := (hk7.mono (by simp)).trans (Keep.of_grow _ gr1)
  have q1 := q.grow (hk7.grow.trans gr1)
  refine ⟨_, rfl, segB FP w w1 (K1) [], segB_at, ?_⟩
  unfold segB
  simp only [List.set_cons_succ, List.set_cons_zero]
  repeat (first | (refine RC.wpV_skp rfl rfl ?_; simp only [List.set_cons_succ, List.set_cons_zero]) | (refine RC.wpV_look rfl rfl rfl rfl rfl (fun K hK => ?_); go_big_quiet_op; refine hK _ ?_; clear hK K) | (refine RC.wpV_free rfl rfl rfl rfl (fun K hK => ?_); unfold BaseF; go_big_quiet_op; refine hK _ ?_; clear hK K))
  refine RC.wpV_tn rfl rfl (by kernel_rfl) (fun w7 hC hF => yields_call (by kernel_rfl) ?_)
  obtain ⟨⟨w7, hk7, -⟩, rfl⟩ := hC
  clear hF
  refine hlb w7 (q1.grow hk7.grow) _ ?_
  intro w2 gr2
  have K2 : Keep FP w w2 := K1.trans ((hk7.mono (by simp)).trans (Keep.of_grow _ gr2))
  have q2 := q1.grow (hk7.grow.trans gr2)
  refine ⟨_, rfl, segB FP w w2 (K2) [], segB_at, ?_⟩
  unfold segB
  simp only [List.set_cons_succ, List.set_cons_zero]
  repeat (first | (refine RC.wpV_skp rfl rfl ?_; simp only [List.set_cons_succ, List.set_cons_zero]) | (refine RC.wpV_look rfl rfl rfl rfl rfl (fun K hK => ?_); go_big_quiet_op; refine hK _ ?_; clear hK K) | (refine RC.wpV_free rfl rfl rfl rfl (fun K hK => ?_); unfold BaseF; go_big_quiet_op; refine hK _ ?_; clear hK K))
  refine RC.wpV_tn rfl rfl (by kernel_rfl) (fun w7 hC hF => yields_call (by kernel_rfl) ?_)
  obtain ⟨⟨w7, hk7, -⟩, rfl⟩ := hC
  clear hF
  refine (q2.grow hk7.grow).keyC _ ?_
  intro ko3 kc3 w3 ok3 hk3 gr3 q3
  have K3 : Keep FP w w3 := K2.trans ((hk7.mono (by simp)).trans (Keep.of_grow _ gr3))
  refine ⟨_, rfl, segB FP w w3 (K3) [], segB_at, ?_⟩
  unfold segB
  simp only [List.set_cons_succ, List.set_cons_zero]
  repeat (first | (refine RC.wpV_skp rfl rfl ?_; simp only [List.set_cons_succ, List.set_cons_zero]) | (refine RC.wpV_look rfl rfl rfl rfl rfl (fun K hK => ?_); go_big_quiet_op; refine hK _ ?_; clear hK K) | (refine RC.wpV_free rfl rfl rfl rfl (fun K hK => ?_); unfold BaseF; go_big_quiet_op; refine hK _ ?_; clear hK K))
  refine RC.wpV_tn rfl rfl (by kernel_rfl) (fun w7 hC hF => yields_call (by kernel_rfl) ?_)
  obtain ⟨⟨w7, hk7, -⟩, rfl⟩ := hC
  clear hF
  refine (q3.grow hk7.grow).root htl hnt1 hnt2 RT HRT.out _ ?_
  intro w4 gr4 q4
  have K4 : Keep FP w w4 := K3.trans ((hk7.mono (by simp)).trans (Keep.of_grow _ gr4))
  have ok4 := ok3.grow (hk7.grow.trans gr4)
  refine ⟨_, rfl, segB FP w w4 (K4) [], segB_at, ?_⟩
  unfold segB
  simp only [List.set_cons_succ, List.set_cons_zero]
  repeat (first | (refine RC.wpV_skp rfl rfl ?_; simp only [List.set_cons_succ, List.set_cons_zero]) | (refine RC.wpV_look rfl rfl rfl rfl rfl (fun K hK => ?_); go_big_quiet_op; refine hK _ ?_; clear hK K) | (refine RC.wpV_free rfl rfl rfl rfl (fun K hK => ?_); unfold BaseF; go_big_quiet_op; refine hK _ ?_; clear hK K))
  refine RC.wpV_tn rfl rfl (by kernel_rfl) (fun w7 hC hF => yields_call (by kernel_rfl) ?_)
  obtain ⟨⟨w7, hk7, -⟩, rfl⟩ := hC
  clear hF
  refine (q4.grow hk7.grow).verify tb n i hn hi ko3 kc3 (ok4.grow hk7.grow) (fun y hy => (hk3 y hy).1) (by omega) RT ta tn tc text htxt (st0.grow (q4.grow hk7.grow).gr) (hbz _ _ _ (q4.grow hk7.grow)) po pn pc Pf Hpn.out (by omega) (q4.grow hk7.grow).pr q4.pf true Hv1.out _ ?_
  intro FP5 cs5 w5 q5 hl5 k5 in5
  have K5' : Keep FP w w7 := K4.trans (hk7.mono (by simp))
  have K5 : Keep FP w w5 := K5'.trans k5
  have IN5 : ∀ y ∈ FP5, y ∈ FP ∨ w.heap.size ≤ y := fun y hy => (in5 y hy).imp id fun h => Nat.le_trans K5'.size h
  refine ⟨_, rfl, segB FP w w5 (K5) [], segB_at, ?_⟩
  unfold segB
  simp only [List.set_cons_succ, List.set_cons_zero]
  repeat (first | (refine RC.wpV_skp rfl rfl ?_; simp only [List.set_cons_succ, List.set_cons_zero]) | (refine RC.wpV_look rfl rfl rfl rfl rfl (fun K hK => ?_); go_big_quiet_op; refine hK _ ?_; clear hK K) | (refine RC.wpV_free rfl rfl rfl rfl (fun K hK => ?_); unfold BaseF; go_big_quiet_op; refine hK _ ?_; clear hK K))
  refine RC.wpV_tn rfl rfl (by kernel_rfl) (fun w7 hC hF => yields_call (by kernel_rfl) ?_)
  obtain ⟨⟨w7, hk7, -⟩, rfl⟩ := hC
  clear hF
  refine (q5.grow hk7.grow).keyC _ ?_
  intro ko6 kc6 w6 ok6 hk6 gr6 q6
  have K6 : Keep FP w w6 := K5.trans ((hk7.mono (by simp)).trans (Keep.of_grow _ gr6))
  refine ⟨_, rfl, segB FP w w6 (K6) [], segB_at, ?_⟩
  unfold segB
  simp only [List.set_cons_succ, List.set_cons_zero]
  repeat (first | (refine RC.wpV_skp rfl rfl ?_; simp only [List.set_cons_succ, List.set_cons_zero]) | (refine RC.wpV_look rfl rfl rfl rfl rfl (fun K hK => ?_); go_big_quiet_op; refine hK _ ?_; clear hK K) | (refine RC.wpV_free rfl rfl rfl rfl (fun K hK => ?_); unfold BaseF; go_big_quiet_op; refine hK _ ?_; clear hK K))
  refine RC.wpV_tn rfl rfl (by kernel_rfl) (fun w7 hC hF => yields_call (by kernel_rfl) ?_)
  obtain ⟨⟨w7, hk7, -⟩, rfl⟩ := hC
  clear hF
  refine (q6.grow hk7.grow).root htl hnt1 hnt2 RT HRT.out _ ?_
  intro w7b gr7 q7b
  have K7b : Keep FP w w7b := K6.trans ((hk7.mono (by simp)).trans (Keep.of_grow _ gr7))
  have ok7 := ok6.grow (hk7.grow.trans gr7)
  refine ⟨_, rfl, segB FP w w7b (K7b) [], segB_at, ?_⟩
  unfold segB
  simp only [List.set_cons_succ, List.set_cons_zero]
  repeat (first | (refine RC.wpV_skp rfl rfl ?_; simp only [List.set_cons_succ, List.set_cons_zero]) | (refine RC.wpV_look rfl rfl rfl rfl rfl (fun K hK => ?_); go_big_quiet_op; refine hK _ ?_; clear hK K) | (refine RC.wpV_free rfl rfl rfl rfl (fun K hK => ?_); unfold BaseF; go_big_quiet_op; refine hK _ ?_; clear hK K))
  refine RC.wpV_tn rfl rfl (by kernel_rfl) (fun w7 hC hF => yields_call (by kernel_rfl) ?_)
  obtain ⟨⟨w7, hk7, -⟩, rfl⟩ := hC
  clear hF
  refine (q7b.grow hk7.grow).verify tb n k hn hk ko6 kc6 (ok7.grow hk7.grow) (fun y hy => (hk6 y hy).1) (by omega) RT ta tn tc text htxt (st0.grow (q7b.grow hk7.grow).gr) (hbz _ _ _ (q7b.grow hk7.grow)) po pn pc Pf Hpn.out (by omega) (q7b.grow hk7.grow).pr q7b.pf v Hv.out _ ?_
  intro FP8 cs8 w8 q8 hl8 k8 in8
  have K8' : Keep FP w w7 := K7b.trans (hk7.mono (by simp))
  have K8 : Keep FP w w8 := K8'.trans' k8 IN5
  have IN8 : ∀ y ∈ FP8, y ∈ FP ∨ w.heap.size ≤ y := fun y hy => by
    rcases in8 y hy with h | h
    · exact IN5 y h
    · exact .inr (Nat.le_trans K8'.size h)
  refine ⟨_, rfl, segB FP w w8 (K8) [], segB_at, ?_⟩
  unfold segB
  simp only [List.set_cons_succ, List.set_cons_zero]
  repeat (first | (refine RC.wpV_skp rfl rfl ?_; simp only [List.set_cons_succ, List.set_cons_zero]) | (refine RC.wpV_look rfl rfl rfl rfl rfl (fun K hK => ?_); go_big_quiet_op; refine hK _ ?_; clear hK K) | (refine RC.wpV_free rfl rfl rfl rfl (fun K hK => ?_); unfold BaseF; go_big_quiet_op; refine hK _ ?_; clear hK K))
  refine RC.wpV_tn rfl rfl (by kernel_rfl) (fun w7 hC hF => yields_call (by kernel_rfl) ?_)
  obtain ⟨⟨w7, hk7, -⟩, rfl⟩ := hC
  clear hF
  refine (q8.grow hk7.grow).keyC _ ?_
  intro ko9 kc9 w9 ok9 hk9 gr9 q9
  have K9 : Keep FP w w9 := K8.trans ((hk7.mono (by simp)).trans (Keep.of_grow _ gr9))
  refine ⟨_, rfl, segB FP w w9 (K9) [], segB_at, ?_⟩
  unfold segB
  simp only [List.set_cons_succ, List.set_cons_zero]
  repeat (first | (refine RC.wpV_skp rfl rfl ?_; simp only [List.set_cons_succ, List.set_cons_zero]) | (refine RC.wpV_look rfl rfl rfl rfl rfl (fun K hK => ?_); go_big_quiet_op; refine hK _ ?_; clear hK K) | (refine RC.wpV_free rfl rfl rfl rfl (fun K hK => ?_); unfold BaseF; go_big_quiet_op; refine hK _ ?_; clear hK K))
  refine RC.wpV_tn rfl rfl (by kernel_rfl) (fun w7 hC hF => yields_call (by kernel_rfl) ?_)
  obtain ⟨⟨w7, hk7, -⟩, rfl⟩ := hC
  clear hF
  refine (q9.grow hk7.grow).rroot htx hng1 hng2 RT HRT2.out _ ?_
  intro w10 gr10 q10
  have K10 : Keep FP w w10 := K9.trans ((hk7.mono (by simp)).trans (Keep.of_grow _ gr10))
  have ok10 := ok9.grow (hk7.grow.trans gr10)
  refine ⟨_, rfl, segB FP w w10 (K10) [], segB_at, ?_⟩
  unfold segB
  simp only [List.set_cons_succ, List.set_cons_zero]
  repeat (first | (refine RC.wpV_skp rfl rfl ?_; simp only [List.set_cons_succ, List.set_cons_zero]) | (refine RC.wpV_look rfl rfl rfl rfl rfl (fun K hK => ?_); go_big_quiet_op; refine hK _ ?_; clear hK K) | (refine RC.wpV_free rfl rfl rfl rfl (fun K hK => ?_); unfold BaseF; go_big_quiet_op; refine hK _ ?_; clear hK K))
  refine RC.wpV_tn rfl rfl (by kernel_rfl) (fun w7 hC hF => yields_call (by kernel_rfl) ?_)
  obtain ⟨⟨w7, hk7, -⟩, rfl⟩ := hC
  clear hF
  refine (q10.grow hk7.grow).rproof htx hng1 hng2 (i : Int) Pf HP2.out pn Hpn.out _ ?_
  intro ao11 c11 w11 o11 gr11 q11
  have K11 : Keep FP w w11 := K10.trans ((hk7.mono (by simp)).trans (Keep.of_grow _ gr11))
  have ok11 := ok10.grow (hk7.grow.trans gr11)
  refine ⟨_, rfl, segB FP w w11 (K11) [], segB_at, ?_⟩
  unfold segB
  simp only [List.set_cons_succ, List.set_cons_zero]
  repeat (first | (refine RC.wpV_skp rfl rfl ?_; simp only [List.set_cons_succ, List.set_cons_zero]) | (refine RC.wpV_look rfl rfl rfl rfl rfl (fun K hK => ?_); go_big_quiet_op; refine hK _ ?_; clear hK K) | (refine RC.wpV_free rfl rfl rfl rfl (fun K hK => ?_); unfold BaseF; go_big_quiet_op; refine hK _ ?_; clear hK K))
  refine RC.wpV_tn rfl rfl (by kernel_rfl) (fun w7 hC hF => yields_call (by kernel_rfl) ?_)
  obtain ⟨⟨w7, hk7, -⟩, rfl⟩ := hC
  clear hF
  refine (q11.grow hk7.grow).rverify g.ph (q11.grow hk7.grow).tg.sm n k hn hk ko9 kc9 (ok11.grow hk7.grow) RT ta tn tc text htxt (st0.grow (q11.grow hk7.grow).gr) ao11 pn c11 Pf Hpn.out (by omega) (o11.grow hk7.grow) v Hv.out _ ?_
  intro w12 gr12 q12
  have K12 : Keep FP w w12 := K11.trans ((hk7.mono (by simp)).trans (Keep.of_grow _ gr12))
  refine ⟨_, rfl, segB FP w w12 (K12) [], segB_at, ?_⟩
  unfold segB
  simp only [List.set_cons_succ, List.set_cons_zero]
  repeat (first | (refine RC.wpV_skp rfl rfl ?_; simp only [List.set_cons_succ, List.set_cons_zero]) | (refine RC.wpV_look rfl rfl rfl rfl rfl (fun K hK => ?_); go_big_quiet_op; refine hK _ ?_; clear hK K) | (refine RC.wpV_free rfl rfl rfl rfl (fun K hK => ?_); unfold BaseF; go_big_quiet_op; refine hK _ ?_; clear hK K))
  refine RC.wpV_tn rfl rfl (by kernel_rfl) (fun w7 hC hF => yields_call (by kernel_rfl) ?_)
  obtain ⟨⟨w7, hk7, -⟩, rfl⟩ := hC
  clear hF
  refine (q12.grow hk7.grow).keyC _ ?_
  intro ko13 kc13 w13 ok13 _ gr13 q13
  have K13 : Keep FP w w13 := K12.trans ((hk7.mono (by simp)).trans (Keep.of_grow _ gr13))
  refine ⟨_, rfl, segB FP w w13 (K13) [], segB_at, ?_⟩
  unfold segB
  simp only [List.set_cons_succ, List.set_cons_zero]
  repeat (first | (refine RC.wpV_skp rfl rfl ?_; simp only [List.set_cons_succ, List.set_cons_zero]) | (refine RC.wpV_look rfl rfl rfl rfl rfl (fun K hK => ?_); go_big_quiet_op; refine hK _ ?_; clear hK K) | (refine RC.wpV_free rfl rfl rfl rfl (fun K hK => ?_); unfold BaseF; go_big_quiet_op; refine hK _ ?_; clear hK K))
  refine RC.wpV_tn rfl rfl (by kernel_rfl) (fun w7 hC hF => yields_call (by kernel_rfl) ?_)
  obtain ⟨⟨w7, hk7, -⟩, rfl⟩ := hC
  clear hF
  refine (q13.grow hk7.grow).root htl hnt1 hnt2 RT HRT.out _ ?_
  intro w14 gr14 q14
  have K14 : Keep FP w w14 := K13.trans ((hk7.mono (by simp)).trans (Keep.of_grow _ gr14))
  refine ⟨_, rfl, segB FP w w14 (K14) [], segB_at, ?_⟩
  unfold segB
  simp only [List.set_cons_succ, List.set_cons_zero]
  repeat (first | (refine RC.wpV_skp rfl rfl ?_; simp only [List.set_cons_succ, List.set_cons_zero]) | (refine RC.wpV_look rfl rfl rfl rfl rfl (fun K hK => ?_); go_big_quiet_op; refine hK _ ?_; clear hK K) | (refine RC.wpV_free rfl rfl rfl rfl (fun K hK => ?_); unfold BaseF; go_big_quiet_op; refine hK _ ?_; clear hK K))
  refine RC.wpV_tn rfl rfl (by kernel_rfl) (fun w7 hC hF => yields_call (by kernel_rfl) ?_)
  obtain ⟨⟨w7, hk7, -⟩, rfl⟩ := hC
  clear hF
  refine verifyBad (n : Int) (n : Int) hwf ko13 32 kc13 bp (RT.b.map B).toArray ta po tn tc pn pc (.inl hway) w7 _ ?_
  intro w15 gr15
  have K15 : Keep FP w w15 := K14.trans ((hk7.mono (by simp)).trans (Keep.of_grow _ gr15))
  have q15 := q14.grow (hk7.grow.trans gr15)
  refine ⟨_, rfl, segB FP w w15 (K15) [(60, pNw 5 32 w15.heap.size (lawK.map B)), (63, pIs (.agg (RT.b.map B).toArray)), (66, pB0 w15.heap.size), (68, pBn w15.heap.size pn (bVs Pf)), (70, pB1 B0)], segB_at, ?_⟩
  unfold segB
  simp only [List.set_cons_succ, List.set_cons_zero]
  repeat (first | (refine RC.wpV_skp rfl rfl ?_; simp only [List.set_cons_succ, List.set_cons_zero]) | (refine RC.wpV_look rfl rfl rfl rfl rfl (fun K hK => ?_); go_big_quiet_op; refine hK _ ?_; clear hK K) | (refine RC.wpV_free rfl rfl rfl rfl (fun K hK => ?_); unfold BaseF; go_big_quiet_op; refine hK _ ?_; clear hK K))
  refine RC.wpV_mk rfl rfl rfl [] (by kernel_rfl) (fun vs w7 hC hF => yields_call (by kernel_rfl) ?_) (fun vs v w7 hC hV hF => ?_)
  · obtain ⟨⟨w7, hk7, -⟩, rfl⟩ := hC
    exact keyC w7 _ (fun ao c w8 o8 g8 f8 => ⟨_, rfl, Keep.of_grow [] g8, ⟨ao, c, rfl, o8, fun y hy => Nat.le_trans hk7.size (f8 y hy)⟩⟩)
  obtain ⟨b60, d60, rfl, -⟩ := hV
  clear hC hF w7
  simp only [List.set_cons_succ, List.set_cons_zero]
  repeat (first | (refine RC.wpV_skp rfl rfl ?_; simp only [List.set_cons_succ, List.set_cons_zero]) | (refine RC.wpV_look rfl rfl rfl rfl rfl (fun K hK => ?_); go_big_quiet_op; refine hK _ ?_; clear hK K) | (refine RC.wpV_free rfl rfl rfl rfl (fun K hK => ?_); unfold BaseF; go_big_quiet_op; refine hK _ ?_; clear hK K))
  refine RC.wpV_mk rfl rfl rfl [] (by kernel_rfl) (fun vs w7 hC hF => yields_call (by kernel_rfl) ?_) (fun vs v w7 hC hV hF => ?_)
  · obtain ⟨⟨w7, hk7, -⟩, rfl⟩ := hC
    exact (q15.grow hk7.grow).root htl hnt1 hnt2 RT HRT.out _ (fun w8 g8 _ => ⟨_, rfl, Keep.of_grow [] g8, rfl⟩)
  obtain rfl := hV
  clear hC hF w7
  simp only [List.set_cons_succ, List.set_cons_zero]
  repeat (first | (refine RC.wpV_skp rfl rfl ?_; simp only [List.set_cons_succ, List.set_cons_zero]) | (refine RC.wpV_look rfl rfl rfl rfl rfl (fun K hK => ?_); go_big_quiet_op; refine hK _ ?_; clear hK K) | (refine RC.wpV_free rfl rfl rfl rfl (fun K hK => ?_); unfold BaseF; go_big_quiet_op; refine hK _ ?_; clear hK K))
  refine RC.wpV_mk rfl rfl rfl [] (by kernel_rfl) (fun vs w7 hC hF => ?_) (fun vs v w7 hC hV hF => ?_)
  · obtain ⟨⟨w7, hk7, -⟩, rfl⟩ := hC
    unfold yields
    go_simp
    exact ⟨Keep.of_grow [] (Grow.alloc w7 _), ⟨_, rfl, Own.made (n := 0) (heap_alloc_new w7 _) rfl (by decide) (by simp), fun y hy => by have := hk7.size; simp [blk] at hy; omega⟩⟩
  obtain ⟨b66, rfl, -⟩ := hV
  clear hC hF w7
  simp only [List.set_cons_succ, List.set_cons_zero]
  repeat (first | (refine RC.wpV_skp rfl rfl ?_; simp only [List.set_cons_succ, List.set_cons_zero]) | (refine RC.wpV_look rfl rfl rfl rfl rfl (fun K hK => ?_); go_big_quiet_op; refine hK _ ?_; clear hK K) | (refine RC.wpV_free rfl rfl rfl rfl (fun K hK => ?_); unfold BaseF; go_big_quiet_op; refine hK _ ?_; clear hK K))
  refine RC.wpV_mk rfl rfl rfl [66] (by kernel_rfl) (fun vs w7 hC hF => ?_) (fun vs v w7 hC hV hF => ?_)
  · obtain ⟨ao, e, ho, hy⟩ := (hF 66 (by simp)).2 rfl
    obtain ⟨⟨w7, hk7, -⟩, rfl⟩ := hC
    cases e
    obtain ⟨ao1, cap1, w8, hr, own1, g1, hin⟩ := run_app0 TBl w7 31 ho (q15.grow hk7.grow).pr.sl (by omega) (by omega)
    exact yields_run (run_exec_append hr) ⟨Keep.of_grow [] g1, ⟨_, _, rfl, own1, fun y hy' => by
      rcases hin y hy' with h | h
      · exact hy y h
      · exact Nat.le_trans hk7.size h⟩⟩
  obtain ⟨b68, d68, rfl, -⟩ := hV
  clear hC hF w7
  simp only [List.set_cons_succ, List.set_cons_zero]
  repeat (first | (refine RC.wpV_skp rfl rfl ?_; simp only [List.set_cons_succ, List.set_cons_zero]) | (refine RC.wpV_look rfl rfl rfl rfl rfl (fun K hK => ?_); go_big_quiet_op; refine hK _ ?_; clear hK K) | (refine RC.wpV_free rfl rfl rfl rfl (fun K hK => ?_); unfold BaseF; go_big_quiet_op; refine hK _ ?_; clear hK K))
  refine RC.wpV_mk rfl rfl rfl [] (by kernel_rfl) (fun vs w7 hC hF => ?_) (fun vs v w7 hC hV hF => ?_)
  · obtain ⟨⟨w7, hk7, -⟩, rfl⟩ := hC
    unfold yields
    go_simp
    exact ⟨Keep.of_grow [] (Grow.alloc w7 _), ⟨_, rfl, (Own.made (n := 1) (sz := 16) (heap_alloc_new w7 _) rfl (by decide) (by simp [Value.oneCell'])).sl⟩⟩
  obtain ⟨b70, rfl, -⟩ := hV
  clear hC hF w7
  simp only [List.set_cons_succ, List.set_cons_zero]
  repeat (first | (refine RC.wpV_skp rfl rfl ?_; simp only [List.set_cons_succ, List.set_cons_zero]) | (refine RC.wpV_look rfl rfl rfl rfl rfl (fun K hK => ?_); go_big_quiet_op; refine hK _ ?_; clear hK K) | (refine RC.wpV_free rfl rfl rfl rfl (fun K hK => ?_); unfold BaseF; go_big_quiet_op; refine hK _ ?_; clear hK K))
  refine RC.wpV_tn rfl rfl (by kernel_rfl) (fun w7 hC hF => ?_)
  obtain ⟨⟨w7, hk7, -⟩, rfl⟩ := hC
  obtain ⟨ko16, kc16, e60, ok16, hy60⟩ := ((((hF 60).1.resolve_left (by simp)).1.resolve_left (by simp)).1.resolve_left (by simp)).1.resolve_left (by simp) |>.2 rfl
  obtain ⟨ao17, c17, e68, o17, hy68⟩ := ((hF 68).1.resolve_left (by simp)).2 rfl
  obtain ⟨ao18, e70, s18⟩ := (hF 70).2 rfl
  cases e60
  cases e68
  cases e70
  clear hF
  obtain ⟨ao19, c19, w19, hr, o19, -, k19, in19⟩ := run_app TBl w7 31 o17 s18 (by omega) (by omega)
  have hap := own_apart ok16 o17 (by decide)
  have ok19 := ok16.keep k19 hap
  have q16 := q15.grow hk7.grow
  have hfl := q15.hb.bk.lt
  have hcFP : ∀ y ∈ blk b68, w15.heap.size ≤ y := hy68
  have G19 : Grow w15 w19 := hk7.grow.then k19 hcFP
  have q19 := q15.grow G19
  have hko19 : ∀ y ∈ blk b60, y ∉ FP8 := fun y hy hm => by have := hy60 y hy; have := hfl y hm; omega
  have hpo19 : ∀ y ∈ blk ao19, y ∉ FP8 := fun y hy hm => by
    have := hfl y hm
    rcases in19 y hy with h | h
    · have := hy68 y h; omega
    · have := hk7.size; omega
  have K19 : Keep FP w w19 := K15.trans (Keep.of_grow _ G19)
  rw [← bVs_app] at o19
  refine yields_run (run_exec_append hr) ⟨segB FP w w19 K19 [], segB_at, ?_⟩
  unfold segB
  simp only [List.set_cons_succ, List.set_cons_zero]
  repeat (first | (refine RC.wpV_skp rfl rfl ?_; simp only [List.set_cons_succ, List.set_cons_zero]) | (refine RC.wpV_look rfl rfl rfl rfl rfl (fun K hK => ?_); go_big_quiet_op; refine hK _ ?_; clear hK K) | (refine RC.wpV_free rfl rfl rfl rfl (fun K hK => ?_); unfold BaseF; go_big_quiet_op; refine hK _ ?_; clear hK K))
  refine RC.wpV_tn rfl rfl (by kernel_rfl) (fun w7 hC hF => yields_call (by kernel_rfl) ?_)
  obtain ⟨⟨w7, hk7, -⟩, rfl⟩ := hC
  clear hF
  refine (q19.grow hk7.grow).verify tb n i hn hi b60 d60 (ok19.grow hk7.grow) hko19 (by omega) RT ta tn tc text htxt (st0.grow (q19.grow hk7.grow).gr) (hbz _ _ _ (q19.grow hk7.grow)) ao19 (pn + 1) c19 (Pf ++ [B0]) (by rw [List.length_append, Hpn.out]; rfl) (by omega) (o19.grow hk7.grow) hpo19 false Hv4.out _ ?_
  intro FP20 cs20 w20 q20 hl20 k20 in20
  have K20 : Keep FP w w20 := (K19.trans (hk7.mono (by simp))).trans' k20 IN8
  refine ⟨_, rfl, segB FP w w20 (K20) [], segB_at, ?_⟩
  unfold segB
  simp only [List.set_cons_succ, List.set_cons_zero]
  repeat (first | (refine RC.wpV_skp rfl rfl ?_; simp only [List.set_cons_succ, List.set_cons_zero]) | (refine RC.wpV_look rfl rfl rfl rfl rfl (fun K hK => ?_); go_big_quiet_op; refine hK _ ?_; clear hK K) | (refine RC.wpV_free rfl rfl rfl rfl (fun K hK => ?_); unfold BaseF; go_big_quiet_op; refine hK _ ?_; clear hK K))
  refine RC.wpV_tn rfl rfl (by kernel_rfl) (fun w7 hC hF => yields_call (by kernel_rfl) ?_)
  obtain ⟨⟨w7, hk7, -⟩, rfl⟩ := hC
  clear hF
  refine haw w7 _ ?_
  intro w21 gr21
  have q21 := q20.grow (hk7.grow.trans gr21)
  refine ⟨_, rfl, segB FP w w21 (K20.trans ((hk7.mono (by simp)).trans (Keep.of_grow _ gr21))) [], segB_at, ?_⟩
  unfold segB
  simp only [List.set_cons_succ, List.set_cons_zero]
  repeat (first | (refine RC.wpV_skp rfl rfl ?_; simp only [List.set_cons_succ, List.set_cons_zero]) | (refine RC.wpV_look rfl rfl rfl rfl rfl (fun K hK => ?_); go_big_quiet_op; refine hK _ ?_; clear hK K) | (refine RC.wpV_free rfl rfl rfl rfl (fun K hK => ?_); unfold BaseF; go_big_quiet_op; refine hK _ ?_; clear hK K))
  refine RC.wpV_nil ?_
  intro w9 hC hF
  obtain ⟨⟨w9, hk9, -⟩, rfl⟩ := hC
  exact hQ _ (q21.gr.trans hk9.grow)
end Go.Proofs.Ytfmnkcmicbnfdaa
