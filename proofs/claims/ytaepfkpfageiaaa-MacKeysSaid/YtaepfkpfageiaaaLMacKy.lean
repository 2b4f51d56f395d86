/- The walk of MacKeys. -/
import Derived.Test.YtaepfkpfageiaaaMacAw
import Derived.Test.YtaepfkpfageiaaaRsL
import Derived.Test.YtaepfkpfageiaaaEqA
import Derived.Test.YtaepfkpfageiaaaRegC
import Derived.Test.YtaepfkpfageiaaaAppZ
import Derived.Test.YtaepfkpfageiaaaRound
namespace Go.Proofs.Ytaepfkpfageiaaa
open Go Go.RowKit


set_option maxRecDepth 100000 in
set_option maxHeartbeats 1000000 in
theorem keys10 (a0 : Option Addr) (n c0 : Nat) (key : List UInt8) (a1 : Option Addr) (m c1 : Nat) (text : List UInt8) (q : Nat) (A : Array Value) (hn : n ≤ 64) {c2 c3 c4 c5 c6 c7 c9 c10 c11 c12 c13 c14 c15 c16 c17 c18 c19 c20 c21 c22 c23 c24 c25 c26 c27 c28 c29 c30 c31 c32 c33 c34 c35 c36 c37 c38 c39 c40 c41 c42 c43 c44 c45 c46 c47 c48 c49 c50 c51 c52 c53 c54 c55 c56 c57 c58 c59 c60 c61 c62 c63 c64 c65 c66 c67 c68 : Value} (w : World)
    (s0 : Sl w 1 a0 n c0 (key.map B)) (s1 : Sl w 1 a1 m c1 (text.map B))
    (ldA : ∀ w', Keep [] w w' → (Instr.loadAt 27 (.pointer (some ⟨q, 0, none⟩))).run Try.prog w' = .ok (.agg A) w')
    (hmac : ∀ w' ao c lo cap vs, Sl w' 1 ao 64 c ((key ++ List.replicate (64 - n) 0).map B) → Sl w' 1 lo 1 cap vs → Pt w' vs [text] → ∀ R : Ending → World → Prop, (∀ w'', Grow w' w'' → R (.returned (.agg A)) w'') → Calls Try.prog 25 #[.slice ao 64 c, .slice lo 1 cap] w' R)
    (heq : ∀ w', (Op.equalIn 10000 27 (.agg A) (.agg A)).run Try.prog w' = .ok true w')
    {Q : Exit → Act → World → Prop}
    (hQ : ∀ w' : World, Grow w w' → ∀ {u54 u55 u56 u57 u58 u59 u60 u61 u62 u63 u64 u65 u66 u67 u68 : Value}, Q .normal ⟨List.toArray (.slice a0 n c0 :: .slice a1 m c1 :: c2 :: c3 :: c4 :: c5 :: .bool true :: c7 :: .pointer (some ⟨q, 0, none⟩) :: c9 :: c10 :: c11 :: c12 :: c13 :: c14 :: c15 :: c16 :: c17 :: c18 :: c19 :: c20 :: c21 :: c22 :: c23 :: c24 :: c25 :: c26 :: c27 :: c28 :: c29 :: c30 :: c31 :: c32 :: c33 :: c34 :: c35 :: c36 :: c37 :: c38 :: c39 :: c40 :: c41 :: c42 :: c43 :: c44 :: c45 :: c46 :: c47 :: c48 :: c49 :: c50 :: c51 :: c52 :: c53 :: u54 :: u55 :: u56 :: u57 :: u58 :: u59 :: u60 :: u61 :: u62 :: u63 :: u64 :: u65 :: u66 :: u67 :: u68 :: []), []⟩ w') :
    Code.wp Try.prog (regionAt Try.f6 10) Q ⟨List.toArray (.slice a0 n c0 :: .slice a1 m c1 :: c2 :: c3 :: c4 :: c5 :: c6 :: c7 :: .pointer (some ⟨q, 0, none⟩) :: c9 :: c10 :: c11 :: c12 :: c13 :: c14 :: c15 :: c16 :: c17 :: c18 :: c19 :: c20 :: c21 :: c22 :: c23 :: c24 :: c25 :: c26 :: c27 :: c28 :: c29 :: c30 :: c31 :: c32 :: c33 :: c34 :: c35 :: c36 :: c37 :: c38 :: c39 :: c40 :: c41 :: c42 :: c43 :: c44 :: c45 :: c46 :: c47 :: c48 :: c49 :: c50 :: c51 :: c52 :: c53 :: c54 :: c55 :: c56 :: c57 :: c58 :: c59 :: c60 :: c61 :: c62 :: c63 :: c64 :: c65 :: c66 :: c67 :: c68 :: []), []⟩ w := by
  have hml : maxLen = 9223372036854775807 := rfl
  have haw := awakeC
  have hnI : (0 : Int) ≤ 64 - (n : Int) := by omega
  have hsub : (64 : Int) - (n : Int) = ((64 - n : Nat) : Int) := by omega
  have Hsub := Lib.hid hsub
  have hkm := s0.hcap
  have hks := s0.hle
  clear hsub
  conv => arg 2; whnf
  let V : Nat → Array Value → Value → World → Prop := fun j _ v w' =>
    (j = 0 → ∃ ao, v = .slice ao 0 0 ∧ Own w' 5 1 ao 0 0 [] ∧ Fr (blk ao) w) ∧
    (j = 2 → ∃ ao c, v = .slice ao n c ∧ Own w' 5 1 ao n c (key.map B) ∧ Fr (blk ao) w) ∧
    (j = 6 → ∃ ao c, v = .slice ao 64 c ∧ Sl w' 1 ao 64 c ((key ++ List.replicate (64 - n) 0).map B)) ∧
    (j = 8 → ∃ g, v = .slice (some ⟨g, 0, none⟩) 1 1 ∧ w'.heap[g]? = some (.cells #[.slice a1 m c1] 22 (0, 0)) ∧ w.heap.size ≤ g) ∧
    (j = 9 → v = .agg A) ∧
    (j = 13 → v = .bool true)
  refine RC.wp_region_F [] (RC.segX w w (Grow.refl w) [0, 2, 6, 8, 9, 13] [(6, 0), (6, 2)] (fun i x w => i = 6 ∧ ∃ cur, w.heap[x]? = some (.cells cur 5 (0, 0))) V ?_) (by kernel_rfl) RC.segX_drew ?_
  · rintro i j vs' v wa wb fp hij hkl hgr kp hok ⟨v0, v2, v6, v8, v9, v13⟩
    have hnil : i ≠ 6 → fp = [] := fun hi => List.eq_nil_iff_forall_not_mem.2 fun x hx => hi (hok x hx).2.1
    refine ⟨fun hj => ?_, fun hj => ?_, fun hj => ?_, fun hj => ?_, v9, v13⟩
    · obtain ⟨ao, hv, ho, hf⟩ := v0 hj
      have := hnil (fun e => by subst e; subst hj; simp at hkl)
      subst this
      exact ⟨ao, hv, ho.keep kp (by simp), hf⟩
    · obtain ⟨ao, c, hv, ho, hf⟩ := v2 hj
      have := hnil (fun e => by subst e; subst hj; simp at hkl)
      subst this
      exact ⟨ao, c, hv, ho.keep kp (by simp), hf⟩
    · obtain ⟨ao, c, hv, ho⟩ := v6 hj
      have := hnil (fun e => by subst e; subst hj; exact hij rfl)
      subst this
      exact ⟨ao, c, hv, ho.keep kp (by simp)⟩
    · obtain ⟨g, hv, ho, hf⟩ := v8 hj
      refine ⟨g, hv, kp.obj ho fun hm => ?_, hf⟩
      obtain ⟨-, -, cur, hc⟩ := hok g hm
      rw [ho] at hc
      have : (22 : Nat) = 5 := by simpa using (Obj.cells.inj (Option.some.inj hc)).2.1
      exact absurd this (by decide)
  unfold RC.segX
  repeat (first | (refine RC.wpV_skp rfl rfl ?_; simp only [List.set_cons_succ, List.set_cons_zero]) | (refine RC.wpV_look rfl rfl rfl rfl rfl (fun K hK => ?_); go_big_quiet_op; refine hK _ ?_; clear hK K) | (refine RC.wpV_free rfl rfl rfl rfl (fun K hK => ?_); unfold RC.Base; go_big_quiet_op; refine hK _ ?_; clear hK K))
  refine RC.wpV_mk rfl rfl rfl [] (by kernel_rfl) (fun vs7 w7 hC _ => ?_) (fun vs7 v w7 hC hV hF => ?_)
  · obtain ⟨⟨w7, hk, -⟩, rfl⟩ := hC
    unfold yields
    go_simp
    obtain ⟨bo, e, ho⟩ := pEm_new w7 5
    exact ⟨⟨[], Keep.alloc [] w7 _, by simp⟩, fun _ => ⟨_, rfl, by cases e; exact ho, fun x hx => by simp [blk] at hx; subst hx; exact hk.size⟩, by simp, by simp, by simp, by simp, by simp⟩
  obtain ⟨ao0, rfl, -, -⟩ := hV.1 rfl
  clear hV hC hF w7
  simp only [List.set_cons_succ, List.set_cons_zero]
  repeat (first | (refine RC.wpV_skp rfl rfl ?_; simp only [List.set_cons_succ, List.set_cons_zero]) | (refine RC.wpV_look rfl rfl rfl rfl rfl (fun K hK => ?_); go_big_quiet_op; refine hK _ ?_; clear hK K) | (refine RC.wpV_free rfl rfl rfl rfl (fun K hK => ?_); unfold RC.Base; go_big_quiet_op; refine hK _ ?_; clear hK K))
  refine RC.wpV_mk rfl rfl rfl [0] (by kernel_rfl) (fun vs7 w7 hC hF => ?_) (fun vs7 v w7 hC hV hF => ?_)
  · obtain ⟨⟨w7, hk, -⟩, rfl⟩ := hC
    obtain ⟨bo, e, ho, hf⟩ := ((hF 0 (by simp)).2 rfl).1 rfl
    cases e
    obtain ⟨ao1, cap1, w8, hr, own1, g1, fb⟩ := run_app0 TBy w7 22 ho (s0.keep hk (by simp)) (by omega) (by omega)
    exact yields_run (run_exec_append hr) ⟨⟨[], Keep.of_grow [] g1, by simp⟩, by simp, fun _ => ⟨_, _, rfl, own1, fun x hx => by
      rcases fb x hx with h | h
      · exact hf x h
      · exact Nat.le_trans hk.size h⟩, by simp, by simp, by simp, by simp⟩
  obtain ⟨ao2, c2, rfl, -, -⟩ := hV.2.1 rfl
  clear hV hC hF w7
  simp only [List.set_cons_succ, List.set_cons_zero]
  repeat (first | (refine RC.wpV_skp rfl rfl ?_; simp only [List.set_cons_succ, List.set_cons_zero]) | (refine RC.wpV_look rfl rfl rfl rfl rfl (fun K hK => ?_); go_big_quiet_op; refine hK _ ?_; clear hK K) | (refine RC.wpV_free rfl rfl rfl rfl (fun K hK => ?_); unfold RC.Base; go_big_quiet_op; refine hK _ ?_; clear hK K))
  rw [Hsub.out]
  refine RC.wpV_mk rfl rfl rfl [2] (by kernel_rfl) (fun vs7 w7 hC hF => ?_) (fun vs7 v w7 hC hV hF => ?_)
  · obtain ⟨⟨w7, hk, -⟩, rfl⟩ := hC
    obtain ⟨bo, d, e, ho, hf⟩ := ((hF 2 (by simp)).2 rfl).2.1 rfl
    cases e
    obtain ⟨ao1, cap1, w8, hr, own1, k1⟩ := run_appZ w7 ho (64 - n) (by omega)
    rw [show n + (64 - n) = 64 by omega] at hr own1
    exact yields_run (run_exec_append2 hr) ⟨⟨blk _, k1, fun x hx => ⟨hf x hx, rfl, by
      obtain rfl := own_form ho hx
      obtain ⟨cur, hc, -⟩ := own_obj ho
      exact ⟨cur, hc⟩⟩⟩, by simp, by simp, fun _ => ⟨_, _, rfl, own1⟩, by simp, by simp, by simp⟩
  obtain ⟨ao6, c6, rfl, -⟩ := hV.2.2.1 rfl
  clear hV hC hF w7
  simp only [List.set_cons_succ, List.set_cons_zero]
  repeat (first | (refine RC.wpV_skp rfl rfl ?_; simp only [List.set_cons_succ, List.set_cons_zero]) | (refine RC.wpV_look rfl rfl rfl rfl rfl (fun K hK => ?_); go_big_quiet_op; refine hK _ ?_; clear hK K) | (refine RC.wpV_free rfl rfl rfl rfl (fun K hK => ?_); unfold RC.Base; go_big_quiet_op; refine hK _ ?_; clear hK K))
  refine RC.wpV_mk rfl rfl rfl [] (by kernel_rfl) (fun vs7 w7 hC _ => ?_) (fun vs7 v w7 hC hV hF => ?_)
  · obtain ⟨⟨w7, hk, -⟩, rfl⟩ := hC
    unfold yields
    go_simp
    exact ⟨⟨[], Keep.alloc [] w7 _, by simp⟩, by simp, by simp, by simp, fun _ => ⟨_, rfl, alloc_new w7 _, hk.size⟩, by simp, by simp⟩
  obtain ⟨g8, rfl, -, -⟩ := hV.2.2.2.1 rfl
  clear hV hC hF w7
  simp only [List.set_cons_succ, List.set_cons_zero]
  refine RC.wpV_mk rfl rfl rfl [6, 8] (by kernel_rfl) (fun vs7 w7 hC hF => yields_call (by kernel_rfl) ?_) (fun vs7 v w7 hC hV hF => ?_)
  · obtain ⟨⟨w7, hk, -⟩, rfl⟩ := hC
    obtain ⟨ao, c, e, hs⟩ := (((hF 6 (by simp)).1.resolve_left (by simp)).2 rfl).2.2.1 rfl
    obtain ⟨g, e2, hg, hgl⟩ := (((hF 8 (by simp)).2 rfl).2.2.2.1 rfl)
    cases e
    cases e2
    exact hmac w7 _ _ _ _ [.slice a1 m c1] hs (sl_obj (C := [.slice a1 m c1]) hg 1 rfl (by decide) (by simp [Value.oneCell'])) (pt1 (s1.keep hk (by simp))) _ (fun w8 g8 => ⟨_, rfl, ⟨[], Keep.of_grow [] g8, by simp⟩, by simp, by simp, by simp, by simp, fun _ => rfl, by simp⟩)
  obtain rfl := hV.2.2.2.2.1 rfl
  clear hV hC hF w7
  simp only [List.set_cons_succ, List.set_cons_zero]
  refine RC.wpV_val rfl rfl rfl rfl rfl _ (fun w hC => by obtain ⟨n, rfl⟩ := hC; exact exec_load (ldA _ n.h)) ?_
  simp only [List.set_cons_succ, List.set_cons_zero]
  repeat (first | (refine RC.wpV_skp rfl rfl ?_; simp only [List.set_cons_succ, List.set_cons_zero]) | (refine RC.wpV_look rfl rfl rfl rfl rfl (fun K hK => ?_); go_big_quiet_op; refine hK _ ?_; clear hK K) | (refine RC.wpV_free rfl rfl rfl rfl (fun K hK => ?_); unfold RC.Base; go_big_quiet_op; refine hK _ ?_; clear hK K))
  refine RC.wpV_mk rfl rfl rfl [] (by kernel_rfl) (fun vs7 w7 hC _ => yields_call (by kernel_rfl) ?_) (fun vs7 v w7 hC hV hF => ?_)
  · obtain ⟨⟨w7, hk, -⟩, rfl⟩ := hC
    exact haw w7 _ (fun w8 g8 => ⟨_, rfl, ⟨[], Keep.of_grow [] g8, by simp⟩, by simp, by simp, by simp, by simp, by simp, fun _ => rfl⟩)
  obtain rfl := hV.2.2.2.2.2 rfl
  clear hV hC hF w7
  simp only [List.set_cons_succ, List.set_cons_zero]
  repeat (first | (refine RC.wpV_skp rfl rfl ?_; simp only [List.set_cons_succ, List.set_cons_zero]) | (refine RC.wpV_look rfl rfl rfl rfl rfl (fun K hK => ?_); go_big_quiet_op; refine hK _ ?_; clear hK K) | (refine RC.wpV_free rfl rfl rfl rfl (fun K hK => ?_); unfold RC.Base; go_big_quiet_op; refine hK _ ?_; clear hK K))
  refine RC.wpV_nil ?_
  intro w9 hC hF
  obtain ⟨⟨w9, hk9, -⟩, rfl⟩ := hC
  exact hQ w9 hk9.grow

set_option maxRecDepth 100000 in
set_option maxHeartbeats 2000000 in
theorem macKyW (a0 : Option Addr) (c0 : Nat) (key : List UInt8) (a1 : Option Addr) (c1 : Nat) (text : List UInt8) (a2 : Int) (w : World) (s0 : Sl w 1 a0 key.length c0 (key.map B)) (s1 : Sl w 1 a1 text.length c1 (text.map B)) (_ : (Lit.int IntKind.i64 a2).wf = true)
    (R : Ending → World → Prop) (hR : ∀ w', Grow w w' → R (.returned (.bool true)) w') :
    Calls Try.prog 6 #[.slice a0 key.length c0, .slice a1 text.length c1, .int .i64 a2] w R := by
  have hml : maxLen = 9223372036854775807 := rfl
  have haw := awakeC
  have hm0 := s0.hcap
  have hn0 := s0.hle
  have hm1 := s1.hcap
  have hn1 := s1.hle
  by_cases hlo : 200 < key.length
  · go_enter Try.func6, Try.ntmps6
    go_wp2_with fail
    refine haw _ _ ?_
    intro w2 g2
    have hf := hR w2 g2
    clear hR
    go_wp2_with fail
    exact hf
  have hd : decide (200 < (key.length : Int)) = false := by simp; omega
  by_cases hhi : 500 < text.length
  · go_enter Try.func6, Try.ntmps6
    go_wp2_with fail
    refine haw _ _ ?_
    intro w2 g2
    have hf := hR w2 g2
    clear hR
    go_wp2_with fail
    exact hf
  have hd2 : decide (500 < (text.length : Int)) = false := by simp; omega
  have hkl : key.length ≤ 200 := by omega
  have htl : text.length ≤ 500 := by omega
  clear hlo hhi hm0 hn0 hm1 hn1
  have hnew := rNewC
  have hHlt : ∀ x ∈ Hs, x < 4294967296 := Hs_lt
  have hsum := fun p w sm sb R hR => rSumC p Hs Ks hHlt a0 c0 key w sm sb (by omega) R hR
  have hdef : ∀ l, sumOf Hs Ks l = sumS l := fun l => rfl
  simp only [hdef] at hsum
  have hM32 := macS_len key text
  have hS32 := sumS_len key
  have hmac := fun w' sk lo cap vs s pt => macTop a0 c0 key lo cap vs [text] w' sk (by omega) s pt (by simp) (by simp; omega)
  have hmac2 := fun k w' sk lo cap vs s pt => macTop a0 c0 key lo cap vs [text.take k, text.drop k] w' sk (by omega) s pt (by simp) (by simp; omega)
  have hmac3 := fun ao c w' sk lo cap vs s pt => macTop ao c (sumS key) lo cap vs [text] w' sk (by omega) s pt (by simp) (by simp; omega)
  have hmac4 := fun (h : key.length ≤ 64) ao c w' sk lo cap vs s pt => macTop ao c (key ++ List.replicate (64 - key.length) 0) lo cap vs [text] w' sk (by simp; omega) s pt (by simp) (by simp; omega)
  have hlz : key.length ≤ 64 → (key ++ List.replicate (64 - key.length) (0 : UInt8)).length = 64 := fun h => by simp; omega
  simp only [List.flatten_cons, List.flatten_nil, List.append_nil, List.take_append_drop, List.length_cons, List.length_nil, Nat.zero_add, Nat.reduceAdd, hS32] at hmac hmac2 hmac3 hmac4
  have hms := macS_short key text
  have hmL := macS_long key text
  have heq := eq_hash (macS key text) (macS key text) hM32 hM32
  rw [beq_self_eq_true] at heq
  obtain ⟨T, hT⟩ : ∃ T, T = (macS key text).map B := ⟨_, rfl⟩
  have hTl : T.length = 32 := by rw [hT, List.length_map]; exact hM32
  have hT1 : ∀ v ∈ T, v.oneCell' = true := by rw [hT]; exact B_one _
  rw [← hT] at heq
  simp only [← hT] at hmac hmac2
  have hmac3' : 64 < key.length → _ := fun h => by have := hmac3; rw [hmL h, ← hT] at this; exact this
  have hmac4' : ∀ h : key.length ≤ 64, _ := fun h => by have := hmac4 h; rw [hms h, ← hT, hlz h] at this; exact this
  generalize Hs = H at *
  generalize Ks = K at *
  have i32 : (Try.prog.info? 27).map (·.size) = some 32 := by kernel_rfl
  have hrl := rnd_lt a2 (text.length + 1) (by omega)
  have hrc := roundC a2 (text.length + 1) (by omega) (by omega)
  obtain ⟨k, hk⟩ : ∃ k, k = rnd a2 (text.length + 1) := ⟨_, rfl⟩
  rw [← hk] at hrl hrc
  rw [show ((text.length + 1 : Nat) : Int) = (text.length : Int) + 1 by omega] at hrc
  have hkt : k ≤ text.length := by omega
  have hcl : (text.take k).length = k := by simp; omega
  have hcd : (text.drop k).length = text.length - k := by simp
  obtain ⟨so, sc, hcut, sk, -⟩ := run_cut0 TBy s1 (k : Int) k rfl hkt
  obtain ⟨so2, sc2, hcut2, sk2, -⟩ := run_cut1 TBy s1 (k : Int) k rfl hkt
  rw [Nat.mul_one, ← List.map_take] at sk
  rw [Nat.mul_one, ← List.map_drop] at sk2
  have hmac2 := hmac2 k
  obtain ⟨A, hA⟩ : ∃ A, A = T.toArray := ⟨_, rfl⟩
  have Hcl := Lib.hid hcl
  have Hcd := Lib.hid hcd
  obtain ⟨N, hN⟩ : ∃ N, N = key.length := ⟨_, rfl⟩
  obtain ⟨M, hM⟩ : ∃ N, N = text.length := ⟨_, rfl⟩
  rw [← hN] at s0 hd hmac hmac2 hmac3' hmac4' hsum ⊢
  rw [← hM] at s1 hd2 htl hrc hkt hcut hcut2 sk2 ⊢
  have HN := Lib.hid hN.symm
  have HM := Lib.hid hM.symm
  clear hk hrl hcl hcd hT hM32 hdef hHlt hmac3 hmac4 hms hmL hlz hkl
  have ga := Grow.alloc w (.cells #[.slice a1 M c1] 22)
  have bA := alloc_new w (.cells #[.slice a1 M c1] 22)
  clear hN hM
  go_enter Try.func6, Try.ntmps6
  go_upto_region 4 with (go_at_call 31; refine hrc _ _ ?_)
  clear hrc hd hd2
  go_wp2_with fail
  have hc := hmac _ (s0.grow ga) _ _ _ (sl_obj (C := [.slice a1 M c1]) bA 1 rfl (by decide) (by simp [Value.oneCell'])) (pt1 (s1.grow ga))
  refine hc _ ?_
  clear hc bA
  intro w5 g5
  have G5 := ga.trans g5
  clear ga g5
  obtain ⟨o1, ga1, th1, al1⟩ := newvar (t := 27) w5 (.int .u8 0) rfl (by omega) hTl hT1
  have hszF : (Try.prog.info? 27).map (·.size) = some T.toArray.size := by rw [List.size_toArray, hTl]; exact i32
  go_upto_region 5 with (refine wpList_store_mid rfl 27 _ _ rfl w5.heap.size 0 T.toArray rfl rfl th1 hszF al1 ?_)
  change Code.wp _ _ _ ⟨_, _⟩ ((w5.alloc (.cells (List.replicate 32 (.int .u8 0)).toArray 27)).setCells w5.heap.size 0 T)
  have G6 := G5.trans ga1
  obtain ⟨q, hq⟩ : ∃ q, q = w5.heap.size := ⟨_, rfl⟩
  generalize (w5.alloc (.cells (List.replicate 32 (.int .u8 0)).toArray 27)).setCells w5.heap.size 0 T = w6 at *
  rw [← hq] at o1 ⊢
  clear hq th1 al1 ga1 G5
  have ldA : ∀ w', Keep [] w6 w' → (Instr.loadAt 27 (.pointer (some ⟨q, 0, none⟩))).run Try.prog w' = .ok (.agg A) w' := fun w' k => by rw [hA]; exact load_arr (by decide) hTl (o1.keep k (by simp)) Try.underlying27 rfl i32
  rw [← hA] at heq ⊢
  simp only [← hA] at hmac hmac2 hmac3' hmac4'
  have s06 := s0.grow G6
  have s16 := s1.grow G6
  have sk6 := sk.grow G6
  have sk26 := sk2.grow G6
  clear hA hszF hTl hT1 o1 s0 s1 sk sk2 hmac
  refine wp_region_R (segT w6 [(8, pPt [text.take k, text.drop k]), (9, pIs (.agg A))]) (by kernel_rfl) segT_drew ?_
  unfold segT segK segR
  repeat (first | (refine wpV_skp rfl rfl ?_; simp only [List.set_cons_succ, List.set_cons_zero]) | (refine wpV_val rfl rfl rfl rfl rfl _ (fun w hC => by obtain ⟨n, rfl⟩ := hC; exact exec_load (ldA _ n.h)) ?_; simp only [List.set_cons_succ, List.set_cons_zero]) | (refine wpV_look rfl rfl rfl rfl rfl (fun K hK => ?_); go_big_quiet_op; refine hK _ ?_; clear hK K))
  refine wpV_mk rfl rfl rfl [] rfl (fun vs w7 hC _ => ?_) (fun vs v w7 hC hV hF => ?_)
  · obtain ⟨⟨w7, hk, -⟩, rfl⟩ := hC
    unfold yields
    go_simp
    exact ⟨⟨Keep.of_grow [] (Grow.alloc w7 _), trivial⟩, pPt_two (sk6.keep hk (by simp)) (sk26.keep hk (by simp))⟩
  obtain ⟨bo, d, vs7, rfl, -, -⟩ := hV
  clear hC hF w7
  simp only [List.set_cons_succ, List.set_cons_zero]
  refine wpV_mk rfl rfl rfl [8] (by kernel_rfl) (fun vs w7 hC hF => yields_call (by kernel_rfl) ?_) (fun vs v w7 hC hV hF => ?_)
  · obtain ⟨bo, d, vs7, e, hs, hp⟩ := (hF 8 (by simp)).2 rfl
    cases e
    obtain ⟨⟨w7, hk, -⟩, rfl⟩ := hC
    exact hmac2 w7 (s06.keep hk (by simp)) _ _ _ hs hp _ (fun w8 g8 => ⟨_, rfl, ⟨Keep.of_grow [] g8, trivial⟩, rfl⟩)
  obtain rfl := hV
  clear hC hF w7
  simp only [List.set_cons_succ, List.set_cons_zero]
  repeat (first | (refine wpV_skp rfl rfl ?_; simp only [List.set_cons_succ, List.set_cons_zero]) | (refine wpV_look rfl rfl rfl rfl rfl (fun K hK => ?_); go_big_quiet_op; refine hK _ ?_; clear hK K))
  refine wpV_nil ?_
  intro w9 hC hF
  obtain ⟨⟨w9, hkw9, -⟩, rfl⟩ := hC
  clear hF
  have G9 := G6.trans hkw9.grow
  have ldA9 : ∀ w', Keep [] w9 w' → (Instr.loadAt 27 (.pointer (some ⟨q, 0, none⟩))).run Try.prog w' = .ok (.agg A) w' := fun w' k => ldA w' (hkw9.trans k)
  have s09 := s06.keep hkw9 (by simp)
  have s19 := s16.keep hkw9 (by simp)
  clear sk6 sk26 hcut hcut2 hmac2 s06 s16 hkw9 ldA G6
  by_cases h64 : N ≤ 64
  · have hd3 : decide (64 < (N : Int)) = false := by simp; omega
    have hm4 := hmac4' h64
    clear hmac4' hmac3' hsum hnew haw
    go_upto_region 10 with (fail)
    clear hd3
    refine keys10 a0 N c0 key a1 M c1 text q A h64 w9 s09 s19 ldA9 (fun w' ao c lo cap vs s s' pt R hR => hm4 ao c w' s lo cap vs s' pt R hR) heq ?_
    intro w10 g10
    intros
    have hf := hR _ (G9.trans g10)
    clear hR
    go_wp2_with fail
    exact hf
  · have hd3 : decide (64 < (N : Int)) = true := by simp; omega
    have hm3 := hmac3' (by omega)
    clear hmac4' hmac3'
    obtain ⟨S1, hS1⟩ : ∃ S, S = sumS key := ⟨_, rfl⟩
    rw [← hS1] at hm3 hsum hS32
    have HS1 : ∀ v ∈ S1.map B, v.oneCell' = true := B_one _
    have hS1l : (S1.map B).length = 32 := by rw [List.length_map]; exact hS32
    clear hS1
    go_wp2_with fail
    refine hnew _ _ ?_
    intro p w10 sm g10 _
    clear hd3 hnew
    have hc := hsum p w10 sm (s09.grow g10)
    clear hsum
    go_wp2_with fail
    refine hc _ ?_
    clear hc
    intro w11 g11
    have G11 := g10.trans g11
    clear g10 g11 sm
    obtain ⟨o1, ga1, th1, al1⟩ := newvar (t := 27) w11 (.int .u8 0) rfl (by omega) hS1l HS1
    have hszF : (Try.prog.info? 27).map (·.size) = some (S1.map B).toArray.size := by rw [List.size_toArray, hS1l]; exact i32
    go_upto_region 9 with (refine wpList_store_mid rfl 27 _ _ rfl w11.heap.size 0 (S1.map B).toArray rfl rfl th1 hszF al1 ?_)
    change Code.wp _ _ _ ⟨_, _⟩ ((w11.alloc (.cells (List.replicate 32 (.int .u8 0)).toArray 27)).setCells w11.heap.size 0 (S1.map B))
    have G12 := G11.trans ga1
    obtain ⟨q2, hq⟩ : ∃ q, q = w11.heap.size := ⟨_, rfl⟩
    generalize (w11.alloc (.cells (List.replicate 32 (.int .u8 0)).toArray 27)).setCells w11.heap.size 0 (S1.map B) = w12 at *
    rw [← hq] at o1 ⊢
    have ldA12 : ∀ w', Keep [] w12 w' → (Instr.loadAt 27 (.pointer (some ⟨q, 0, none⟩))).run Try.prog w' = .ok (.agg A) w' := fun w' k => ldA9 w' ((Keep.of_grow [] G12).trans k)
    have s112 := s19.grow G12
    have so12 := o1.sl
    have G13 := G9.trans G12
    clear hq th1 al1 ga1 G11 o1 ldA9 s09 s19 hszF G12 G9 HS1 hS1l
    refine wp_region_R (segT w12 [(2, pPt [text]), (3, pIs (.agg A)), (7, pIs (.bool true))]) (by kernel_rfl) segT_drew ?_
    unfold segT segK segR
    repeat (first | (refine wpV_skp rfl rfl ?_; simp only [List.set_cons_succ, List.set_cons_zero]) | (refine wpV_look rfl rfl rfl rfl rfl (fun K hK => ?_); go_big_quiet_op; refine hK _ ?_; clear hK K))
    refine wpV_mk rfl rfl rfl [] rfl (fun vs w7 hC _ => ?_) (fun vs v w7 hC hV hF => ?_)
    · obtain ⟨⟨w7, hk, -⟩, rfl⟩ := hC
      unfold yields
      go_simp
      exact ⟨⟨Keep.of_grow [] (Grow.alloc w7 _), trivial⟩, pPt_one (s112.keep hk (by simp))⟩
    obtain ⟨bo, d, vs7, rfl, -, -⟩ := hV
    clear hC hF w7
    simp only [List.set_cons_succ, List.set_cons_zero]
    refine wpV_mk rfl rfl rfl [2] (by kernel_rfl) (fun vs w7 hC hF => yields_call (by kernel_rfl) ?_) (fun vs v w7 hC hV hF => ?_)
    · obtain ⟨bo, d, vs7, e, hs, hp⟩ := (hF 2 (by simp)).2 rfl
      cases e
      obtain ⟨⟨w7, hk, -⟩, rfl⟩ := hC
      exact hm3 _ _ w7 (so12.keep hk (by simp)) _ _ _ hs hp _ (fun w8 g8 => ⟨_, rfl, ⟨Keep.of_grow [] g8, trivial⟩, rfl⟩)
    obtain rfl := hV
    clear hC hF w7
    simp only [List.set_cons_succ, List.set_cons_zero]
    repeat (first | (refine wpV_skp rfl rfl ?_; simp only [List.set_cons_succ, List.set_cons_zero]) | (refine wpV_val rfl rfl rfl rfl rfl _ (fun w hC => by obtain ⟨n, rfl⟩ := hC; exact exec_load (ldA12 _ n.h)) ?_; simp only [List.set_cons_succ, List.set_cons_zero]) | (refine wpV_look rfl rfl rfl rfl rfl (fun K hK => ?_); go_big_quiet_op; refine hK _ ?_; clear hK K))
    refine wpV_mk rfl rfl rfl [] rfl (fun vs w7 hC _ => yields_call (by kernel_rfl) ?_) (fun vs v w7 hC hV hF => ?_)
    · obtain ⟨⟨w7, hk, -⟩, rfl⟩ := hC
      exact haw w7 _ (fun w8 g8 => ⟨_, rfl, ⟨Keep.of_grow [] g8, trivial⟩, rfl⟩)
    obtain rfl := hV
    clear hC hF w7
    simp only [List.set_cons_succ, List.set_cons_zero]
    repeat (first | (refine wpV_skp rfl rfl ?_; simp only [List.set_cons_succ, List.set_cons_zero]) | (refine wpV_look rfl rfl rfl rfl rfl (fun K hK => ?_); go_big_quiet_op; refine hK _ ?_; clear hK K))
    refine wpV_nil ?_
    intro w13 hC hF
    obtain ⟨⟨w13, hkw13, -⟩, rfl⟩ := hC
    clear hF
    have hf := hR _ (G13.trans hkw13.grow)
    clear hR
    go_wp2_with fail
    exact hf
end Go.Proofs.Ytaepfkpfageiaaa
