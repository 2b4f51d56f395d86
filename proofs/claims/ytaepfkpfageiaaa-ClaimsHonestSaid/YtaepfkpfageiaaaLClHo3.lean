/- The walk of ClaimsHonest: all claims but one. -/
import Derived.Test.YtaepfkpfageiaaaLClHo2
namespace Go.Proofs.Ytaepfkpfageiaaa
open Go Go.RowKit

/-- A slice of no claims, its own, new since the size N. -/
def pE35 (N : Nat) : Pr := ⟨fun v w => ∃ ao, v = .slice ao 0 0 ∧ Own w 66 35 ao 0 0 [] ∧ ∀ g ∈ blk ao, N ≤ g, fun k ⟨ao, h1, h, hf⟩ => ⟨ao, h1, h.keep k (by simp), hf⟩⟩
theorem pE35_new (N : Nat) (w : World) (h : N ≤ w.heap.size) : (pE35 N).p (.slice (some ⟨w.heap.size, 0, none⟩) 0 0) (w.alloc (.cells #[] 66)) :=
  ⟨_, rfl, Own.made (n := 0) (heap_alloc_new w _) rfl (by decide) (by simp), fun g hg => by simp [blk] at hg; omega⟩
/-- A slice of claims, its own, new since the size N. -/
def pO35 (N n : Nat) (xs : List Value) : Pr := ⟨fun v w => ∃ ao c, v = .slice ao n c ∧ Own w 66 35 ao n c xs ∧ ∀ g ∈ blk ao, N ≤ g, fun k ⟨ao, c, h1, h, hf⟩ => ⟨ao, c, h1, h.keep k (by simp), hf⟩⟩


set_option maxRecDepth 100000 in
set_option maxHeartbeats 1000000 in
theorem clHo23 (lo : Option Addr) (n cap k : Nat) (cs : List Clm) (hn : n = cs.length) (hnl : n ≤ 100) (hk : 2 * k < n) (hfit : ∀ c ∈ cs, c.fit) (hfo : forgedS (cs.take (2 * k) ++ cs.drop (2 * k + 1)) = true) {c0 c1 c2 c3 c4 c5 c6 c7 c8 c9 c12 c13 c14 c15 c16 c17 c18 c19 c20 c21 c22 c23 c24 c25 c26 c27 c28 c29 c30 c31 c32 c33 c34 c35 c36 c37 c38 c39 c40 c41 c42 c43 c44 c45 c46 c47 c48 c49 c50 c51 c52 c53 c54 c55 c56 c57 c58 c59 c60 c61 c62 c63 c64 c65 c66 c67 c68 c69 c70 c71 c72 c73 c74 c75 c76 c77 c78 c79 c80 c81 c82 c83 c84 c85 c86 c87 c88 c89 c90 c91 c92 c93 c94 c95 c96 c97 c98 c99 c100 c101 c102 c103 c104 c105 c106 c107 c108 c109 c110 c111 c112 c113 c114 c115 c116 c117 c118 c119 c120 : Value} (w : World)
    (s1 : Sl w 35 lo n cap (clVs cs)) {Q : Exit → Act → World → Prop}
    (hQ : ∀ (w' : World), Grow w w' → ∀ {u105 u106 u107 u108 u109 u110 u111 u112 u113 u114 u115 u116 u117 u118 u119 u120 : Value}, Q .normal ⟨List.toArray (c0 :: c1 :: c2 :: c3 :: c4 :: c5 :: .bool true :: c7 :: c8 :: c9 :: .slice lo n cap :: .int .i64 (k : Int) :: c12 :: c13 :: c14 :: c15 :: c16 :: c17 :: c18 :: c19 :: c20 :: c21 :: c22 :: c23 :: c24 :: c25 :: c26 :: c27 :: c28 :: c29 :: c30 :: c31 :: c32 :: c33 :: c34 :: c35 :: c36 :: c37 :: c38 :: c39 :: c40 :: c41 :: c42 :: c43 :: c44 :: c45 :: c46 :: c47 :: c48 :: c49 :: c50 :: c51 :: c52 :: c53 :: c54 :: c55 :: c56 :: c57 :: c58 :: c59 :: c60 :: c61 :: c62 :: c63 :: c64 :: c65 :: c66 :: c67 :: c68 :: c69 :: c70 :: c71 :: c72 :: c73 :: c74 :: c75 :: c76 :: c77 :: c78 :: c79 :: c80 :: c81 :: c82 :: c83 :: c84 :: c85 :: c86 :: c87 :: c88 :: c89 :: c90 :: c91 :: c92 :: c93 :: c94 :: c95 :: c96 :: c97 :: c98 :: c99 :: c100 :: c101 :: c102 :: c103 :: c104 :: u105 :: u106 :: u107 :: u108 :: u109 :: u110 :: u111 :: u112 :: u113 :: u114 :: u115 :: u116 :: u117 :: u118 :: u119 :: u120 :: []), []⟩ w') :
    Code.wp Try.prog (regionAt Try.f16 23) Q ⟨List.toArray (c0 :: c1 :: c2 :: c3 :: c4 :: c5 :: c6 :: c7 :: c8 :: c9 :: .slice lo n cap :: .int .i64 (k : Int) :: c12 :: c13 :: c14 :: c15 :: c16 :: c17 :: c18 :: c19 :: c20 :: c21 :: c22 :: c23 :: c24 :: c25 :: c26 :: c27 :: c28 :: c29 :: c30 :: c31 :: c32 :: c33 :: c34 :: c35 :: c36 :: c37 :: c38 :: c39 :: c40 :: c41 :: c42 :: c43 :: c44 :: c45 :: c46 :: c47 :: c48 :: c49 :: c50 :: c51 :: c52 :: c53 :: c54 :: c55 :: c56 :: c57 :: c58 :: c59 :: c60 :: c61 :: c62 :: c63 :: c64 :: c65 :: c66 :: c67 :: c68 :: c69 :: c70 :: c71 :: c72 :: c73 :: c74 :: c75 :: c76 :: c77 :: c78 :: c79 :: c80 :: c81 :: c82 :: c83 :: c84 :: c85 :: c86 :: c87 :: c88 :: c89 :: c90 :: c91 :: c92 :: c93 :: c94 :: c95 :: c96 :: c97 :: c98 :: c99 :: c100 :: c101 :: c102 :: c103 :: c104 :: c105 :: c106 :: c107 :: c108 :: c109 :: c110 :: c111 :: c112 :: c113 :: c114 :: c115 :: c116 :: c117 :: c118 :: c119 :: c120 :: []), []⟩ w := by
  have hml : maxLen = 9223372036854775807 := rfl
  have haw := awake12C
  obtain ⟨so, sc, hcut, sk, -⟩ := run_cut0 TCl s1 (2 * (k : Int)) (2 * k) (by omega) (by omega)
  obtain ⟨so2, sc2, hcut2, sk2, -⟩ := run_cut1 TCl s1 (2 * (k : Int) + 1) (2 * k + 1) (by omega) (by omega)
  rw [clVs_take cs _ (by omega)] at sk
  rw [clVs_drop cs _ (by omega)] at sk2
  have hm : 2 * k + (n - (2 * k + 1)) = (cs.take (2 * k) ++ cs.drop (2 * k + 1)).length := by
    rw [List.length_append, List.length_take, List.length_drop]
    omega
  have hc := fun ao c w s R (hR : ∀ w', Grow w w' → R (.returned (.bool true)) w') => forgedC ao (2 * k + (n - (2 * k + 1))) c (cs.take (2 * k) ++ cs.drop (2 * k + 1)) hm (fun c hc => hfit c (by
    rcases List.mem_append.1 hc with h | h
    · exact List.mem_of_mem_take h
    · exact List.mem_of_mem_drop h)) w s R (by rw [hfo]; exact hR)
  rw [clVs_app] at hc
  have hx := s1.hcap
  have hy := s1.hle
  obtain ⟨X, hX⟩ : ∃ X, X = clVs (cs.take (2 * k)) := ⟨_, rfl⟩
  obtain ⟨Y, hY⟩ : ∃ X, X = clVs (cs.drop (2 * k + 1)) := ⟨_, rfl⟩
  rw [← hX] at sk
  rw [← hY] at sk2
  simp only [← hX, ← hY] at hc
  have Hc := Lib.hid hc
  clear hX hY hfo hfit hn hm s1 hc
  conv => arg 2; whnf
  refine wp_region_R (segT w [(0, pE35 w.heap.size), (5, pO35 w.heap.size (2 * k) X)]) (by kernel_rfl) segT_drew ?_
  unfold segT segK segR
  refine wpV_mk rfl rfl rfl [] rfl (fun vs w7 hC _ => ?_) (fun vs v w7 hC hV hF => ?_)
  · obtain ⟨⟨w7, hk, -⟩, rfl⟩ := hC
    unfold yields
    go_simp
    exact ⟨⟨Keep.of_grow [] (Grow.alloc w7 _), trivial⟩, pE35_new _ w7 hk.size⟩
  obtain ⟨bo, rfl, -⟩ := hV
  clear hC hF w7
  simp only [List.set_cons_succ, List.set_cons_zero]
  repeat (first | (refine wpV_skp rfl rfl ?_; simp only [List.set_cons_succ, List.set_cons_zero]) | (refine wpV_look rfl rfl rfl rfl rfl (fun K hK => ?_); go_big_quiet_op; refine hK _ ?_; clear hK K))
  refine wpV_mk rfl rfl rfl [0] (by kernel_rfl) (fun vs w7 hC hF => ?_) (fun vs v w7 hC hV hF => ?_)
  · obtain ⟨bo, e, ho, hf0⟩ := (hF 0 (by simp)).2 rfl
    cases e
    obtain ⟨⟨w7, hk, -⟩, rfl⟩ := hC
    obtain ⟨ao1, cap1, w8, hr, own1, g1, hb1⟩ := run_app0 TCl w7 62 ho (sk.keep hk (by simp)) (by omega) (by omega)
    exact yields_run (run_exec_append hr) ⟨⟨Keep.of_grow [] g1, trivial⟩, ⟨_, _, rfl, own1, fun g hg => (hb1 g hg).elim (hf0 g) (fun h => Nat.le_trans hk.size h)⟩⟩
  obtain ⟨ao, c, rfl, -⟩ := hV
  clear hC hF w7
  simp only [List.set_cons_succ, List.set_cons_zero]
  repeat (first | (refine wpV_skp rfl rfl ?_; simp only [List.set_cons_succ, List.set_cons_zero]) | (refine wpV_look rfl rfl rfl rfl rfl (fun K hK => ?_); go_big_quiet_op; refine hK _ ?_; clear hK K))
  refine wpV_tn rfl rfl (by kernel_rfl) (fun w7 hC hF => ?_)
  obtain ⟨ao', c', e, ho, hf0⟩ := (hF 5).2 rfl
  cases e
  obtain ⟨⟨w7, hk, -⟩, rfl⟩ := hC
  obtain ⟨ao1, cap1, w8, hr, own1, -, kp1, -⟩ := run_app TCl w7 62 ho (sk2.keep hk (by simp)) (by omega) (by omega)
  refine yields_run (run_exec_append hr) ⟨segL w8, segL_at, ?_⟩
  have G8 : Grow w w8 := hk.grow.then kp1 hf0
  clear hF hr ho hf0 kp1 hk sk sk2
  unfold segL segK segR
  simp only [List.set_cons_succ, List.set_cons_zero]
  refine wpV_tn rfl rfl (by kernel_rfl) (fun w9 hC hF => yields_call (by kernel_rfl) ?_)
  obtain ⟨⟨w9, hk9, -⟩, rfl⟩ := hC
  refine Hc.out _ _ w9 (own1.sl.keep hk9 (by simp)) _ ?_
  intro w10 g10
  refine ⟨_, rfl, segL w10, segL_at, ?_⟩
  have G10 := (G8.trans hk9.grow).trans g10
  clear hF own1 G8 g10 hk9 Hc
  unfold segL segK segR
  simp only [List.set_cons_succ, List.set_cons_zero]
  repeat (first | (refine wpV_skp rfl rfl ?_; simp only [List.set_cons_succ, List.set_cons_zero]) | (refine wpV_look rfl rfl rfl rfl rfl (fun K hK => ?_); go_big_quiet_op; refine hK _ ?_; clear hK K))
  refine wpV_tn rfl rfl (by kernel_rfl) (fun w9 hC hF => yields_call (by kernel_rfl) ?_)
  obtain ⟨⟨w9, hk9, -⟩, rfl⟩ := hC
  refine haw w9 _ ?_
  intro w11 g11
  refine ⟨_, rfl, segL w11, segL_at, ?_⟩
  have G11 := (G10.trans hk9.grow).trans g11
  clear hF G10 g11 hk9 haw
  unfold segL segK segR
  simp only [List.set_cons_succ, List.set_cons_zero]
  repeat (first | (refine wpV_skp rfl rfl ?_; simp only [List.set_cons_succ, List.set_cons_zero]) | (refine wpV_look rfl rfl rfl rfl rfl (fun K hK => ?_); go_big_quiet_op; refine hK _ ?_; clear hK K))
  refine wpV_nil ?_
  intro w12 hC hF
  obtain ⟨⟨w12, hkw12, -⟩, rfl⟩ := hC
  clear hF
  exact hQ _ (G11.trans hkw12.grow)
end Go.Proofs.Ytaepfkpfageiaaa
