/- The walk of MacNested, joined. -/
import Derived.Test.YtaepfkpfageiaaaLMacNe
namespace Go.Proofs.Ytaepfkpfageiaaa
open Go Go.RowKit

set_option maxRecDepth 100000 in
set_option maxHeartbeats 2000000 in
theorem macNeW (a0 : Option Addr) (c0 : Nat) (key : List UInt8) (a1 : Option Addr) (c1 : Nat) (text : List UInt8) (w : World) (s0 : Sl w 1 a0 key.length c0 (key.map B)) (s1 : Sl w 1 a1 text.length c1 (text.map B))
    (R : Ending → World → Prop) (hR : ∀ w', Grow w w' → R (.returned (.bool true)) w') :
    Calls Try.prog 7 #[.slice a0 key.length c0, .slice a1 text.length c1] w R := by
  have hml : maxLen = 9223372036854775807 := rfl
  have haw := awakeC
  have hm0 := s0.hcap
  have hn0 := s0.hle
  have hm1 := s1.hcap
  have hn1 := s1.hle
  by_cases hlo : 64 < key.length
  · go_enter Try.func7, Try.ntmps7
    go_wp2_with fail
    refine haw _ _ ?_
    intro w2 g2
    have hf := hR w2 g2
    clear hR
    go_wp2_with fail
    exact hf
  have hd : decide (64 < (key.length : Int)) = false := by simp; omega
  by_cases hhi : 500 < text.length
  · go_enter Try.func7, Try.ntmps7
    go_wp2_with fail
    refine haw _ _ ?_
    intro w2 g2
    have hf := hR w2 g2
    clear hR
    go_wp2_with fail
    exact hf
  have hd2 : decide (500 < (text.length : Int)) = false := by simp; omega
  have hkl : key.length ≤ 64 := by omega
  have htl : text.length ≤ 500 := by omega
  clear hlo hhi hm0 hn0 hm1 hn1
  have hnew := rNewC
  have hHlt : ∀ x ∈ Hs, x < 4294967296 := Hs_lt
  have hsum := fun p bo c L w sm sb hl R hR => rSumC p Hs Ks hHlt bo c L w sm sb hl R hR
  have hdef : ∀ l, sumOf Hs Ks l = sumS l := fun l => rfl
  simp only [hdef] at hsum
  have hil := inK_len key
  have hol := outK_len key
  have h32 := sumS_len (inK key ++ text)
  have hM32 := macS_len key text
  have hmac := fun w' sk lo cap vs s pt => macTop a0 c0 key lo cap vs [text] w' sk (by omega) s pt (by simp) (by simp; omega)
  simp only [List.flatten_cons, List.flatten_nil, List.append_nil, List.length_cons, List.length_nil, Nat.zero_add] at hmac
  have hsum1 := fun p bo c w' sm sb => hsum p bo c (inK key ++ text) w' sm sb (by rw [List.length_append]; omega)
  have hsum2 := fun p bo c w' sm sb => hsum p bo c (outK key ++ sumS (inK key ++ text)) w' sm sb (by rw [List.length_append]; omega)
  have e0 : sumS (outK key ++ sumS (inK key ++ text)) = macS key text := rfl
  rw [e0] at hsum2
  have heq := eq_hash (macS key text) (macS key text) hM32 hM32
  rw [beq_self_eq_true] at heq
  simp only [List.length_append, hil, hol, h32] at hsum1 hsum2
  generalize Hs = H at *
  generalize Ks = K at *
  obtain ⟨S1, hS1⟩ : ∃ S, S = sumS (inK key ++ text) := ⟨_, rfl⟩
  obtain ⟨A, hA⟩ : ∃ A, A = ((macS key text).map B).toArray := ⟨_, rfl⟩
  rw [← hS1] at hsum1 hsum2 h32
  rw [← hA] at heq
  simp only [← hA] at hmac hsum2
  obtain ⟨N, hN⟩ : ∃ N, N = key.length := ⟨_, rfl⟩
  obtain ⟨M, hM⟩ : ∃ N, N = text.length := ⟨_, rfl⟩
  rw [← hN] at s0 hd hmac ⊢
  rw [← hM] at s1 hd2 htl hsum1 ⊢
  have HN := Lib.hid hN
  have HM := Lib.hid hM
  have HS1 : ∀ v ∈ S1.map B, v.oneCell' = true := B_one _
  have hS1l : (S1.map B).length = 32 := by rw [List.length_map]; exact h32
  have i32 : (Try.prog.info? 27).map (·.size) = some 32 := by kernel_rfl
  clear hN hM hA hM32 e0 hdef hHlt hsum hS1 hil hol h32
  go_enter Try.func7, Try.ntmps7
  go_upto_region 3 with (fail)
  clear hd hd2
  refine nest3 w ?_
  intro qa qb w1 hab ha hb oa ob g1
  intros
  go_upto_block 0 with (fail)
  refine nestL a0 N c0 key hkl HN qa qb hab w1 (s0.grow g1) (fun g hg => by have := s0.ltN g hg; simp; omega) oa ob ?_
  intro w2 oa2 ob2 k2
  intros
  have g2 : Grow w w2 := g1.then k2 (fun x hx => by simp at hx; omega)
  clear oa ob k2 g1
  go_wp2_with fail
  refine hnew _ _ ?_
  intro p w3 sm g3 hp
  have hpa : p ≠ qa := by have := oa2.lt qa (by simp [blk]); omega
  have G3 := g2.trans g3
  have oa3 := oa2.grow g3
  have ob3 := ob2.grow g3
  clear oa2 ob2 g2 g3 hnew
  go_wp2_with (at_builtin; refine wpList_app TBy rfl rfl oa3 (s1.grow G3) (by omega) (by omega) ?_; intro ao1 cap1 w4 own4 _ kp4 blk4; rw [← List.map_append] at own4)
  have G4 : Grow w w4 := G3.then kp4 (fun x hx => by simp [blk] at hx; omega)
  have ob4 := ob3.keep kp4 (by simp [blk]; exact fun e => hab e.symm)
  have sm4 : Sm w4 p H K := ⟨sm.1.keep kp4 (by simp [blk]; exact hpa), sm.2⟩
  have hc1 := hsum1 p ao1 cap1 w4 sm4 own4.sl
  clear own4 kp4 blk4 oa3 ob3 G3 sm hsum1
  refine hc1 _ ?_
  clear hc1
  intro w5 g5
  have G5 := G4.trans g5
  have ob5 := ob4.grow g5
  have sm5 : Sm w5 p H K := ⟨sm4.1.keep (Keep.of_grow [] g5) (by simp), sm4.2⟩
  clear G4 ob4 sm4 g5
  obtain ⟨o1, ga1, th1, al1⟩ := newvar (t := 27) w5 (.int .u8 0) rfl (by omega) hS1l HS1
  have hszF : (Try.prog.info? 27).map (·.size) = some (S1.map B).toArray.size := by rw [List.size_toArray, hS1l]; exact i32
  go_upto_region 13 with (refine wpList_store_mid rfl 27 _ _ rfl w5.heap.size 0 (S1.map B).toArray rfl rfl th1 hszF al1 ?_)
  change Code.wp _ _ _ ⟨_, _⟩ ((w5.alloc (.cells (List.replicate 32 (.int .u8 0)).toArray 27)).setCells w5.heap.size 0 (S1.map B))
  have G6 := G5.trans ga1
  have ob6 := ob5.grow ga1
  have sm6 : Sm _ p H K := ⟨sm5.1.keep (Keep.of_grow [] ga1) (by simp), sm5.2⟩
  clear th1 al1 ga1 G5 ob5 sm5
  obtain ⟨q, hq⟩ : ∃ q, q = w5.heap.size := ⟨_, rfl⟩
  generalize (w5.alloc (.cells (List.replicate 32 (.int .u8 0)).toArray 27)).setCells w5.heap.size 0 (S1.map B) = w6 at *
  rw [← hq] at o1 ⊢
  clear hq
  have s06 := s0.grow G6
  have s16 := s1.grow G6
  have so := o1.sl
  clear s0 s1 o1
  refine wp_region_R (segT w6 [(2, pPt [text]), (3, pIs (.agg A)), (7, pBy (outK key ++ S1)), (8, pIs (.agg A)), (11, pIs (.bool true))]) (by kernel_rfl) segT_drew ?_
  unfold segT segK segR
  repeat (first | (refine wpV_skp rfl rfl ?_; simp only [List.set_cons_succ, List.set_cons_zero]) | (refine wpV_look rfl rfl rfl rfl rfl (fun K hK => ?_); go_big_quiet_op; refine hK _ ?_; clear hK K))
  refine wpV_mk rfl rfl rfl [] rfl (fun vs w7 hC _ => ?_) (fun vs v w7 hC hV hF => ?_)
  · obtain ⟨⟨w7, hk, -⟩, rfl⟩ := hC
    unfold yields
    go_simp
    exact ⟨⟨Keep.of_grow [] (Grow.alloc w7 _), trivial⟩, pPt_one (s16.keep hk (by simp))⟩
  obtain ⟨bo, d, vs7, rfl, -, -⟩ := hV
  clear hC hF w7
  simp only [List.set_cons_succ, List.set_cons_zero]
  refine wpV_mk rfl rfl rfl [2] (by kernel_rfl) (fun vs w7 hC hF => yields_call (by kernel_rfl) ?_) (fun vs v w7 hC hV hF => ?_)
  · obtain ⟨bo, d, vs7, e, hs, hp⟩ := (hF 2 (by simp)).2 rfl
    cases e
    obtain ⟨⟨w7, hk, -⟩, rfl⟩ := hC
    exact hmac w7 (s06.keep hk (by simp)) _ _ _ hs hp _ (fun w8 g8 => ⟨_, rfl, ⟨Keep.of_grow [] g8, trivial⟩, rfl⟩)
  obtain rfl := hV
  clear hC hF w7
  simp only [List.set_cons_succ, List.set_cons_zero]
  repeat (first | (refine wpV_skp rfl rfl ?_; simp only [List.set_cons_succ, List.set_cons_zero]) | (refine wpV_look rfl rfl rfl rfl rfl (fun K hK => ?_); go_big_quiet_op; refine hK _ ?_; clear hK K))
  refine wpV_mk rfl rfl rfl [] (by kernel_rfl) (fun vs w7 hC hF => ?_) (fun vs v w7 hC hV hF => ?_)
  · obtain ⟨⟨w7, hk, -⟩, rfl⟩ := hC
    obtain ⟨ao2, cap2, w8, hr, own2, g8, -⟩ := run_appF TBy w7 22 (ob6.keep hk (by simp)) (so.keep hk (by simp)) (by omega) (by omega) (by omega)
    rw [← List.map_append] at own2
    exact yields_run (run_exec_append hr) ⟨⟨Keep.of_grow [] g8, trivial⟩, pBy_mk own2.sl⟩
  obtain ⟨bo, d, rfl, -⟩ := hV
  clear hC hF w7
  simp only [List.set_cons_succ, List.set_cons_zero]
  refine wpV_mk rfl rfl rfl [7] (by kernel_rfl) (fun vs w7 hC hF => yields_call (by kernel_rfl) ?_) (fun vs v w7 hC hV hF => ?_)
  · obtain ⟨bo, d, e, hs⟩ := (hF 7 (by simp)).2 rfl
    cases e
    obtain ⟨⟨w7, hk, -⟩, rfl⟩ := hC
    have el : (outK key ++ S1).length = 64 + 32 := by rw [List.length_append, outK_len, ← List.length_map (f := B), hS1l]
    rw [el] at hs ⊢
    exact hsum2 p _ _ w7 ⟨sm6.1.keep hk (by simp), sm6.2⟩ hs _ (fun w8 g8 => ⟨_, rfl, ⟨Keep.of_grow [] g8, trivial⟩, rfl⟩)
  obtain rfl := hV
  clear hC hF w7
  simp only [List.set_cons_succ, List.set_cons_zero]
  repeat (first | (refine wpV_skp rfl rfl ?_; simp only [List.set_cons_succ, List.set_cons_zero]) | (refine wpV_look rfl rfl rfl rfl rfl (fun K hK => ?_); go_big_quiet_op; refine hK _ ?_; clear hK K))
  refine wpV_mk rfl rfl rfl [] rfl (fun vs w7 hC _ => yields_call (by kernel_rfl) ?_) (fun vs v w7 hC hV hF => ?_)
  · obtain ⟨⟨w7, hk, -⟩, rfl⟩ := hC
    exact haw w7 _ (fun w8 g8 => ⟨_, rfl, ⟨Keep.of_grow [] g8, trivial⟩, rfl⟩)
  obtain rfl := hV
  clear hC hF w7
  simp only [List.set_cons_succ, List.set_cons_zero]
  repeat (first | (refine wpV_skp rfl rfl ?_; simp only [List.set_cons_succ, List.set_cons_zero]) | (refine wpV_look rfl rfl rfl rfl rfl (fun K hK => ?_); go_big_quiet_op; refine hK _ ?_; clear hK K))
  refine wpV_nil ?_
  intro w9 hC hF
  obtain ⟨⟨w9, hkw9, -⟩, rfl⟩ := hC
  clear hF
  have hf := hR _ (G6.trans hkw9.grow)
  clear hR
  go_wp2_with fail
  exact hf
end Go.Proofs.Ytaepfkpfageiaaa
