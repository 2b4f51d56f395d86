/- awake of law 12. -/
import Derived.Test.YtaepfkpfageiaaaClmQ
import Derived.Test.YtaepfkpfageiaaaClashC
import Derived.Test.YtaepfkpfageiaaaKF
namespace Go.Proofs.Ytaepfkpfageiaaa
open Go Go.RowKit

set_option maxRecDepth 100000 in
set_option maxHeartbeats 2000000 in
theorem awake12C (w : World) (R : Ending → World → Prop) (hR : ∀ w', Grow w w' → R (.returned (.bool true)) w') :
    Calls Try.prog 43 #[] w R := by
  have hml : maxLen = 9223372036854775807 := rfl
  have kc := fun (w : World) (C : Array Value) (n c : Nat) => Lib.run_convert_bytes_const (P := Try.prog) w 22 5 C n c Try.underlying22 Try.underlying5
  have kc2 : ∀ (w : World) (o : Obj) (C : Array Value) (n c : Nat), (convert 22 22 (.slice (some ⟨w.heap.size + 1, 0, none⟩) n c)).run Try.prog ((w.alloc o).alloc (.cells C 5)) = .ok (.slice (some ⟨w.heap.size + 1, 0, none⟩) n c) ((w.alloc o).alloc (.cells C 5 (C.size, C.size + 1))) := fun w o C n c => by
    have := kc (w.alloc o) C n c
    rwa [sz_al] at this
  have hnew := newBkC
  have hmk := fun p w bk a0 c0 lo cap vs sk s pt => makeC p none 0 0 [] a0 c0 [107] lo cap vs [[97]] w sk (by decide) s pt (by decide) (by decide) bk (by decide)
  have hck := fun p ao n c cs w bk (hn : n ≤ 100000) a0 c0 T hT lo cap vs ls sk s pt hl ht => checkC p ao n c cs a0 c0 [107] T hT lo cap vs ls w sk (by decide) s pt hl ht bk hn
  have hM := macS_len [107] (framS [[97]])
  have hS := shortS_len _ hM
  have hsh := shortMC (macS [107] (framS [[97]])) hM
  obtain ⟨C1, hC1⟩ : ∃ c, c = clmS [107] (framS [[97]]) true := ⟨_, rfl⟩
  obtain ⟨C2, hC2⟩ : ∃ c, c = clmS [107] (framS [[97]]) false := ⟨_, rfl⟩
  have hne := ne12
  have hfo := forged_ms [107] (framS [[97]])
  have hcl := clash_ms [107] (framS [[97]])
  have hfs := forged_s [107] (framS [[97]])
  have hmN := fun w a0 c0 lo cap vs sk s pt => makeN a0 c0 [107] lo cap vs [[97]] w sk (by decide) s pt (by decide) (by decide)
  have ht1 : C1.tag = macS [107] (framS [[97]]) := by rw [hC1]; rfl
  have hm1 : C1.made = true := by rw [hC1]; rfl
  have hm2 : C2.made = false := by rw [hC2]; rfl
  have hf1 : C1.fit := by rw [hC1]; exact ⟨by decide, by decide⟩
  have hf2 : C2.fit := by rw [hC2]; exact ⟨by decide, by decide⟩
  rw [← hC1, ← hC2] at hfo hcl
  rw [← hC2] at hfs
  have heq := eq_hash (macS [107] (framS [[97]])) (macS [107] (framS [[97]])) hM hM
  rw [beq_self_eq_true] at heq
  have hfoC := fun lo c w s R (hR : ∀ w', Grow w w' → R (.returned (.bool false)) w') => forgedC lo 2 c [C1, C2] rfl (by simp [hf1, hf2]) w s R (by rw [hfo]; exact hR)
  have hclC := fun lo c w s R (hR : ∀ w', Grow w w' → R (.returned (.bool false)) w') => clashC lo 2 c [C1, C2] rfl (by simp [hf1, hf2]) w s R (by rw [hcl]; exact hR)
  have hfsC := fun lo c w s R (hR : ∀ w', Grow w w' → R (.returned (.bool true)) w') => forgedC lo 1 c [C2] rfl (by simp [hf2]) w s R (by rw [hfs]; exact hR)
  obtain ⟨M, hMM⟩ : ∃ M, M = macS [107] (framS [[97]]) := ⟨_, rfl⟩
  obtain ⟨S, hSS⟩ : ∃ S, S = shortS (macS [107] (framS [[97]])) := ⟨_, rfl⟩
  rw [← hMM] at hsh hM ht1 heq hne
  rw [← hMM] at hSS
  rw [← hSS] at hsh hne
  have hS' : S.length = 16 := by rw [hSS, hMM]; exact hS
  have hck1 := fun p ao n c cs w bk hn a0 c0 lo cap vs sk s pt R h => hck p ao n c cs w bk hn a0 c0 S hS' lo cap vs [[97]] sk s pt (by decide) (by decide) R h (fun e => by rw [← hMM, ← hSS] at e; simp at e)
  have hck2 := fun p ao n c cs w bk hn a0 c0 lo cap vs sk s pt R h => hck p ao n c cs w bk hn a0 c0 S hS' lo cap vs [[98]] sk s pt (by decide) (by decide) R (fun e => by rw [hne] at e; cases e) h
  simp only [← hMM, ← hSS, ← hC1, ← hC2, List.nil_append, Nat.zero_add, List.length_cons, List.length_nil, beq_self_eq_true, forall_const, hne] at hmk hck1 hck2 hmN
  have hVl : (M.map B).length = 32 := by rw [List.length_map]; exact hM
  obtain ⟨V, hV⟩ : ∃ V, V = M.map B := ⟨_, rfl⟩
  have hV1 : ∀ v ∈ V, v.oneCell' = true := by rw [hV]; exact B_one _
  rw [← hV] at hVl hsh heq
  simp only [← hV] at hmk hmN
  have i32 : (Try.prog.info? 27).map (·.size) = some 32 := by kernel_rfl
  have hsV : (Try.prog.info? 27).map (·.size) = some V.length := by rw [hVl]; exact i32
  have ht2 : C1.tag.map B = V := by rw [ht1, hV]
  clear hck hne hfo hcl hfs hf1 hf2 hMM hSS hS hS' hM hV ht1 hC1 hC2
  go_enter Try.func43, Try.ntmps43
  go_wp2_with fail
  refine hnew _ _ ?_
  intro p1 w1 bk1 g1 hp1
  obtain ⟨sk, g⟩ := lit1 w1 [107] 1 rfl (by decide) (1, 2)
  obtain ⟨ps, pp, pg⟩ := part1 (w1.alloc (.cells (([107] : List UInt8).map B).toArray 5 (1, 2))) [97] 1 rfl (by decide) (1, 2) (0, 0)
  rw [sz_al] at ps pp pg
  have hc := hmk p1 _ (bk1.grow (g.trans pg)) _ _ _ _ _ (sk.grow pg) ps pp
  have gg := g.trans pg
  have G1 := g1.trans gg
  have F1 : Fr (p1 :: blk none) w := fun g hg => by simp [blk] at hg; omega
  clear sk ps pp g pg g1 bk1 hmk gg hp1
  go_wp2_with fail
  refine hc _ ?_
  clear hc
  intro ao1 c1 w2 bk2 k2 b2
  obtain ⟨G2, F2⟩ := bk_step G1 F1 k2 b2
  have hlt2 := bk2.lt
  clear G1 F1 k2 b2
  obtain ⟨o2, ga1, th1, al1⟩ := newvar (t := 27) w2 (.int .u8 0) rfl (by omega) hVl hV1
  have hszF : (Try.prog.info? 27).map (·.size) = some V.toArray.size := by rw [List.size_toArray, hVl]; exact i32
  go_upto_region 5 with (refine wpList_store_mid rfl 27 _ _ rfl w2.heap.size 0 V.toArray rfl rfl th1 hszF al1 ?_)
  change Code.wp _ _ _ ⟨_, _⟩ ((w2.alloc (.cells (List.replicate 32 (.int .u8 0)).toArray 27)).setCells w2.heap.size 0 V)
  have G3 := G2.trans ga1
  have bk3 := bk2.grow ga1
  obtain ⟨q2, hq⟩ : ∃ q, q = w2.heap.size := ⟨_, rfl⟩
  generalize (w2.alloc (.cells (List.replicate 32 (.int .u8 0)).toArray 27)).setCells w2.heap.size 0 V = w3 at *
  rw [← hq] at o2 ⊢
  have hge_q2 : w2.heap.size ≤ q2 := by omega
  clear hq th1 al1 ga1 hszF G2 bk2
  have D3 : q2 ∉ p1 :: blk ao1 := fun hm => by have := hlt2 q2 hm; omega
  clear hlt2
  obtain ⟨sk, g⟩ := lit1 w3 [107] 1 rfl (by decide) (1, 2)
  have hrg := own_range (o2.grow g) (by omega)
  go_wp2_with (refine wpList_load_mid rfl 27 _ rfl q2 0 rfl V _ hrg Try.underlying27 rfl hsV ?_)
  refine hsh _ _ ?_
  intro w4 g4
  have g5 := g.trans g4
  have sk4 := sk.grow g4
  clear hrg sk g g4
  obtain ⟨ps, pp, pg⟩ := part1 w4 [97] 1 rfl (by decide) (1, 2) (0, 0)
  have gg := g5.trans pg
  have hc := hck1 p1 ao1 1 c1 [C1] _ (bk3.grow gg) (by decide) _ _ _ _ _ (sk4.grow pg) ps pp
  have GG := G3.trans gg
  have OO := o2.grow gg
  have hlq := OO.lt q2 (by simp [blk])
  clear sk4 ps pp pg g5 gg o2 G3 bk3
  go_wp2_with fail
  refine hc _ ?_
  clear hc
  intro ao2 c2 w5 bk5 k5 b5
  obtain ⟨G5, F5⟩ := bk_step GG F2 k5 b5
  have D5 := bk_out hlq D3 b5
  have o5 := OO.keep k5 (by simpa [blk] using D3)
  clear GG OO F2 D3 k5 b5 hlq
  simp only [List.cons_append, List.nil_append] at bk5
  obtain ⟨sk, g⟩ := lit1 w5 [107] 1 rfl (by decide) (1, 2)
  have hrg := own_range (o5.grow g) (by omega)
  go_wp2_with (refine wpList_load_mid rfl 27 _ rfl q2 0 rfl V _ hrg Try.underlying27 rfl hsV ?_)
  refine hsh _ _ ?_
  intro w6 g4
  have g5 := g.trans g4
  have sk4 := sk.grow g4
  clear hrg sk g g4
  obtain ⟨ps, pp, pg⟩ := part1 w6 [98] 1 rfl (by decide) (1, 2) (0, 0)
  have gg := g5.trans pg
  have hc := hck2 p1 ao2 2 c2 [C1, C2] _ (bk5.grow gg) (by decide) _ _ _ _ _ (sk4.grow pg) ps pp
  have GG := G5.trans gg
  have OO := o5.grow gg
  have hlq := OO.lt q2 (by simp [blk])
  have bk6 := bk5.grow gg
  clear sk4 ps pp pg g5 gg o5 G5 bk5
  go_wp2_with fail
  refine hc _ ?_
  clear hc
  intro w7 g7
  have G7 := GG.trans g7
  have o7 := OO.grow g7
  have bk7 := bk6.grow g7
  have hal := allC p1 ao2 2 c2 [C1, C2] w7 bk7 (by decide)
  clear GG OO bk6 g7 hlq hck2
  go_wp2_with fail
  refine hal _ ?_
  clear hal
  intro lo lc w8 ol g8 _
  have G8 := G7.trans g8
  have o8 := o7.grow g8
  clear G7 o7 bk7 g8 F5 D5
  go_wp2_with fail
  refine hnew _ _ ?_
  intro p2 w9 bk9 g9 hp2
  have G9 := G8.trans g9
  have o9 := o8.grow g9
  have ol9 := ol.grow g9
  have hl8 := o8.lt q2 (by simp [blk])
  have hl8b := ol.lt
  have D9 : q2 ∉ p2 :: blk none := fun hm => by simp [blk] at hm; omega
  have F9 : Fr (p2 :: blk none) w := fun g hg => by simp [blk] at hg; have := G8.size; omega
  have E9 : ∀ g ∈ blk lo, g ∉ p2 :: blk none := fun g hg hm => by simp [blk] at hm; have := hl8b g hg; omega
  clear G8 o8 ol g9 hl8 hl8b hnew hp2
  obtain ⟨sk, g⟩ := lit1 w9 [107] 1 rfl (by decide) (1, 2)
  have hrg := own_range (o9.grow g) (by omega)
  go_wp2_with (refine wpList_load_mid rfl 27 _ rfl q2 0 rfl V _ hrg Try.underlying27 rfl hsV ?_)
  refine hsh _ _ ?_
  intro w10 g4
  have g5 := g.trans g4
  have sk4 := sk.grow g4
  clear hrg sk g g4
  obtain ⟨ps, pp, pg⟩ := part1 w10 [97] 1 rfl (by decide) (1, 2) (0, 0)
  have gg := g5.trans pg
  have hc := hck1 p2 none 0 0 [] _ (bk9.grow gg) (by decide) _ _ _ _ _ (sk4.grow pg) ps pp
  have GG := G9.trans gg
  have OO := o9.grow gg
  have hlq := OO.lt q2 (by simp [blk])
  have olA := ol9.grow gg
  clear sk4 ps pp pg g5 gg o9 G9 bk9 ol9
  go_wp2_with fail
  refine hc _ ?_
  clear hc
  intro ao3 c3 w11 bk11 k11 b11
  obtain ⟨G11, F11⟩ := bk_step GG F9 k11 b11
  have o11 := OO.keep k11 (by simpa [blk] using D9)
  have ol11 := olA.keep k11 E9
  clear GG OO F9 D9 E9 k11 b11 hlq olA hck1 hsh
  simp only [List.nil_append] at bk11
  obtain ⟨gl, ofl, eg, hcl⟩ := ol11.sl.hat (by decide)
  subst eg
  obtain rfl : ofl = 0 := by
    rcases ol11.row.2 with ⟨hv, -⟩ | ⟨g', cap', cur, hv, -⟩
    · simp at hv
    · simp only [Value.slice.injEq, Option.some.injEq, Addr.mk.injEq, and_true] at hv
      exact hv.1.2
  have hca : Cells w11 gl 0 (clV C1) := by have := cells_clm hcl 0 (by simp); simpa using this
  have hcb : Cells w11 gl 35 (clV C2) := by have := cells_clm hcl 1 (by simp); simpa using this
  have f0 := KW.cell (fp := []) (p0 := tt) (hca.at (clV_made C1)) (by simp)
  have f1 := KW.cell (fp := []) (p0 := tt) (hcb.at (clV_made C2)) (by simp)
  rw [hm1] at f0
  rw [hm2] at f1
  simp only [Nat.zero_add, Nat.reduceAdd] at f0 f1
  have ldT := ldK_tag hca
  rw [ht2] at ldT
  have ldH : ∀ w', Keep [] w11 w' → (Instr.loadAt 27 (.pointer (some ⟨q2, 0, none⟩))).run Try.prog w' = .ok (.agg V.toArray) w' := fun w' k => load_arr (by decide) hVl (o11.keep k (by simp)) Try.underlying27 rfl i32
  have sl11 := ol11.sl
  clear hcl hca hcb hm1 hm2 ht2 kc kc2 ol11 o11
  go_upto_region 13 with (fail)
  refine wp_region_R (segF w11 [(28, fIs (.bool false)), (33, fIs (.bool false)), (38, fSl 35 1 (clVs [C2])), (39, fIs (.bool true)), (43, fLit w11.heap.size [107]), (44, fBy [107]), (45, fLit w11.heap.size [97]), (46, fBy [97]), (47, fPt [[97]]), (48, fIs (.agg V.toArray)), (54, fIs (.slice none 0 0))]) (by kernel_rfl) segF_drew ?_
  unfold segF
  repeat (first | (refine wpV_skp rfl rfl ?_; simp only [List.set_cons_succ, List.set_cons_zero]) | (refine wpV_val rfl rfl rfl rfl rfl _ (fun w hC => by obtain ⟨n, rfl⟩ := hC; exact exec_load (ldT _ n.h)) ?_; simp only [List.set_cons_succ, List.set_cons_zero]) | (refine wpV_val rfl rfl rfl rfl rfl _ (fun w hC => by obtain ⟨n, rfl⟩ := hC; exact exec_load (ldH _ n.h)) ?_; simp only [List.set_cons_succ, List.set_cons_zero]) | (refine wpV_look rfl rfl rfl rfl rfl (fun K hK => ?_); go_big_quiet_op; refine hK _ ?_; clear hK K))
  refine wpV_mk rfl rfl rfl [] (by kernel_rfl) (fun vs w7 hC hF => yields_call (by kernel_rfl) ?_) (fun vs v w7 hC hV hF => ?_)
  · obtain ⟨⟨w7, hk, -⟩, rfl⟩ := hC
    exact hfoC _ _ w7 (sl11.keep hk (by simp)) _ (fun w8 g8 => ⟨_, rfl, growF g8, rfl⟩)
  obtain rfl := hV
  clear hC hF w7
  simp only [List.set_cons_succ, List.set_cons_zero]
  repeat (first | (refine wpV_skp rfl rfl ?_; simp only [List.set_cons_succ, List.set_cons_zero]) | (refine wpV_look rfl rfl rfl rfl rfl (fun K hK => ?_); go_big_quiet_op; refine hK _ ?_; clear hK K))
  refine wpV_mk rfl rfl rfl [] (by kernel_rfl) (fun vs w7 hC hF => yields_call (by kernel_rfl) ?_) (fun vs v w7 hC hV hF => ?_)
  · obtain ⟨⟨w7, hk, -⟩, rfl⟩ := hC
    exact hclC _ _ w7 (sl11.keep hk (by simp)) _ (fun w8 g8 => ⟨_, rfl, growF g8, rfl⟩)
  obtain rfl := hV
  clear hC hF w7
  simp only [List.set_cons_succ, List.set_cons_zero]
  repeat (first | (refine wpV_skp rfl rfl ?_; simp only [List.set_cons_succ, List.set_cons_zero]) | (refine wpV_look rfl rfl rfl rfl rfl (fun K hK => ?_); go_big_quiet_op; refine hK _ ?_; clear hK K))
  refine wpV_mk rfl rfl rfl [] (by kernel_rfl) (fun vs w7 hC hF => yields_call (by kernel_rfl) ?_) (fun vs v w7 hC hV hF => ?_)
  · obtain ⟨⟨w7, hk, -⟩, rfl⟩ := hC
    exact allC p2 ao3 1 c3 [C2] w7 (bk11.keep hk (by simp) (by simp)) (by decide) _ (fun ao c w8 o8 g8 _ => ⟨_, rfl, growF g8, ⟨_, _, rfl, o8.sl⟩⟩)
  obtain ⟨b38, d38, rfl, -⟩ := hV
  clear hC hF w7
  simp only [List.set_cons_succ, List.set_cons_zero]
  refine wpV_mk rfl rfl rfl [38] (by kernel_rfl) (fun vs w7 hC hF => yields_call (by kernel_rfl) ?_) (fun vs v w7 hC hV hF => ?_)
  · obtain ⟨⟨w7, hk, -⟩, rfl⟩ := hC
    obtain ⟨bo, d, e, hs⟩ := (hF 38 (by simp)).2 rfl
    cases e
    exact hfsC _ _ w7 hs _ (fun w8 g8 => ⟨_, rfl, growF g8, rfl⟩)
  obtain rfl := hV
  clear hC hF w7
  simp only [List.set_cons_succ, List.set_cons_zero]
  repeat (first | (refine wpV_skp rfl rfl ?_; simp only [List.set_cons_succ, List.set_cons_zero]) | (refine wpV_look rfl rfl rfl rfl rfl (fun K hK => ?_); go_big_quiet_op; refine hK _ ?_; clear hK K))
  refine wpV_mk rfl rfl rfl [] (by kernel_rfl) (fun vs w7 hC hF => ?_) (fun vs v w7 hC hV hF => ?_)
  · obtain ⟨⟨w7, hk, -⟩, rfl⟩ := hC
    unfold yields
    go_simp
    exact ⟨growF (Grow.alloc w7 _), fLit_new w7 _ [107] 1 rfl hk.size⟩
  obtain ⟨g43, r43, rfl, -, -⟩ := hV
  clear hC hF w7
  simp only [List.set_cons_succ, List.set_cons_zero]
  refine wpV_mk rfl rfl rfl [43] (by kernel_rfl) (fun vs w7 hC hF => ?_) (fun vs v w7 hC hV hF => ?_)
  · obtain ⟨⟨w7, hk, -⟩, rfl⟩ := hC
    obtain ⟨g, fr, e, hh, hg⟩ := (hF 43 (by simp)).2 rfl
    cases e
    obtain ⟨w8, hr, kf, kp⟩ := conv_lit 1 1 hh
    exact yields_run (exec_conv hr) ⟨⟨kf, _, kp, by simpa using hg⟩, fBy_lit hh (by decide) kf⟩
  obtain ⟨b44, d44, rfl, -⟩ := hV
  clear hC hF w7
  simp only [List.set_cons_succ, List.set_cons_zero]
  refine wpV_mk rfl rfl rfl [] (by kernel_rfl) (fun vs w7 hC hF => ?_) (fun vs v w7 hC hV hF => ?_)
  · obtain ⟨⟨w7, hk, -⟩, rfl⟩ := hC
    unfold yields
    go_simp
    exact ⟨growF (Grow.alloc w7 _), fLit_new w7 _ [97] 1 rfl hk.size⟩
  obtain ⟨g45, r45, rfl, -, -⟩ := hV
  clear hC hF w7
  simp only [List.set_cons_succ, List.set_cons_zero]
  refine wpV_mk rfl rfl rfl [45] (by kernel_rfl) (fun vs w7 hC hF => ?_) (fun vs v w7 hC hV hF => ?_)
  · obtain ⟨⟨w7, hk, -⟩, rfl⟩ := hC
    obtain ⟨g, fr, e, hh, hg⟩ := (hF 45 (by simp)).2 rfl
    cases e
    obtain ⟨w8, hr, kf, kp⟩ := conv_lit 1 1 hh
    exact yields_run (exec_conv hr) ⟨⟨kf, _, kp, by simpa using hg⟩, fBy_lit hh (by decide) kf⟩
  obtain ⟨b46, d46, rfl, -⟩ := hV
  clear hC hF w7
  simp only [List.set_cons_succ, List.set_cons_zero]
  refine wpV_mk rfl rfl rfl [46] (by kernel_rfl) (fun vs w7 hC hF => ?_) (fun vs v w7 hC hV hF => ?_)
  · obtain ⟨⟨w7, hk, -⟩, rfl⟩ := hC
    obtain ⟨bo, d, e, hs⟩ := (hF 46 (by simp)).2 rfl
    cases e
    unfold yields
    go_simp
    exact ⟨growF (Grow.alloc w7 _), fPt_one hs⟩
  obtain ⟨b47, d47, v47, rfl, -, -⟩ := hV
  clear hC hF w7
  simp only [List.set_cons_succ, List.set_cons_zero]
  refine wpV_mk rfl rfl rfl [44, 47] (by kernel_rfl) (fun vs w7 hC hF => yields_call (by kernel_rfl) ?_) (fun vs v w7 hC hV hF => ?_)
  · obtain ⟨⟨w7, hk, -⟩, rfl⟩ := hC
    obtain ⟨bo, d, e, hs⟩ := (hF 44 (by simp)).1.1.1.2 rfl
    obtain ⟨bo2, d2, vs2, e2, hs2, hp2⟩ := (hF 47 (by simp)).2 rfl
    cases e
    cases e2
    exact hmN w7 _ _ _ _ _ hs hs2 hp2 _ (fun w8 g8 => ⟨_, rfl, growF g8, rfl⟩)
  obtain rfl := hV
  clear hC hF w7
  simp only [List.set_cons_succ, List.set_cons_zero]
  repeat (first | (refine wpV_skp rfl rfl ?_; simp only [List.set_cons_succ, List.set_cons_zero]) | (refine wpV_val rfl rfl rfl rfl rfl _ (fun w hC => by obtain ⟨n, rfl⟩ := hC; exact exec_load (ldH _ n.h)) ?_; simp only [List.set_cons_succ, List.set_cons_zero]) | (refine wpV_look rfl rfl rfl rfl rfl (fun K hK => ?_); go_big_quiet_op; refine hK _ ?_; clear hK K))
  refine wpV_mk rfl rfl rfl [] (by kernel_rfl) (fun vs w7 hC hF => yields_call (by kernel_rfl) ?_) (fun vs v w7 hC hV hF => ?_)
  · obtain ⟨⟨w7, hk, -⟩, rfl⟩ := hC
    exact allN w7 _ ⟨_, rfl, growF (Grow.refl w7), rfl⟩
  obtain rfl := hV
  clear hC hF w7
  simp only [List.set_cons_succ, List.set_cons_zero]
  repeat (first | (refine wpV_skp rfl rfl ?_; simp only [List.set_cons_succ, List.set_cons_zero]) | (refine wpV_look rfl rfl rfl rfl rfl (fun K hK => ?_); go_big_quiet_op; refine hK _ ?_; clear hK K))
  refine wpV_nil ?_
  intro w12 hC hF
  obtain ⟨⟨w12, hkw12, -⟩, rfl⟩ := hC
  clear hF
  have hf := hR _ (G11.trans hkw12.grow)
  clear hR
  go_wp2_with fail
  exact hf
end Go.Proofs.Ytaepfkpfageiaaa
