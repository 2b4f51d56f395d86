/- The walk of MacSum. -/
import Derived.Test.YtaepfkpfageiaaaMacAw
import Derived.Test.YtaepfkpfageiaaaRMac
import Derived.Test.YtaepfkpfageiaaaRegC
import Derived.Test.YtaepfkpfageiaaaShaT
import Derived.Test.YtaepfkpfageiaaaEqA
namespace Go.Proofs.Ytaepfkpfageiaaa
open Go Go.RowKit

theorem build4 (w : World) (k : Nat) (a b c d : Int) (ha : a = (k % 256 : Nat)) (hb : b = (k / 256 % 256 : Nat)) (hc : c = (k / 65536 % 256 : Nat)) (hd : d = (k / 16777216 % 256 : Nat)) (e : TypeId) :
    (pBy (len4 k)).p (.slice (some ⟨w.heap.size, 0, none⟩) 4 4) (w.alloc (.cells #[.int .u8 a, .int .u8 b, .int .u8 c, .int .u8 d] e)) := by
  have h := len4_B k a b c d ha hb hc hd
  have s := sl_obj (C := [.int .u8 a, .int .u8 b, .int .u8 c, .int .u8 d]) (alloc_new w (.cells #[.int .u8 a, .int .u8 b, .int .u8 c, .int .u8 d] e)) 4 rfl (by decide) (by simp [Value.oneCell'])
  refine ⟨_, _, rfl, ?_⟩
  rw [← h]
  exact s
set_option maxRecDepth 100000 in
set_option maxHeartbeats 1000000 in
theorem rFramC (lo : Option Addr) (cap : Nat) (vs : List Value) (ls : List (List UInt8)) (w : World) (s : Sl w 1 lo ls.length cap vs) (p : Pt w vs ls) (hl : ls.length ≤ 1000000) (ht : ls.flatten.length ≤ 1000000) (R : Ending → World → Prop)
    (hR : ∀ ao c w', Own w' 5 1 ao (framS ls).length c ((framS ls).map B) → Grow w w' → Fr (blk ao) w → R (.returned (.slice ao (framS ls).length c)) w') :
    Calls Try.prog 29 #[.slice lo ls.length cap] w R := by
  have hml : maxLen = 9223372036854775807 := rfl
  have hfl : ∀ i, (framS (ls.take i)).length ≤ 5000000 := fun i => by
    rw [framS_len]
    have h1 : (ls.take i).flatten.length ≤ ls.flatten.length := flat_le ls i
    have h2 : (ls.take i).length ≤ ls.length := by rw [List.length_take]; omega
    omega
  obtain ⟨n, hn⟩ : ∃ n, n = ls.length := ⟨_, rfl⟩
  rw [← hn] at s hl ⊢
  have Hn := Lib.hid hn
  have Hfl := Lib.hid hfl
  clear hn ht hfl
  go_enter Try.func29, Try.ntmps29
  go_wp2_with fail
  go_loopw [3, 4] (fun o vi wr => ∃ (i : Nat) (L : List UInt8) (ao : Option Addr) (c : Nat), vi = .int .i64 (i : Int) ∧ o = .slice ao L.length c ∧ Hid (L = framS (ls.take i)) ∧ i ≤ n ∧ Own wr 5 1 ao L.length c (L.map B) ∧ Grow w wr ∧ Fr (blk ao) w) (fun _ vi _ => n - (intOf vi).toNat)
  case atStart => exact ⟨0, [], none, 0, by simp, rfl, Lib.hid (by simp [framS]), by omega, Own.none _ _ _, Grow.refl _, by simp [blk, Fr]⟩
  case round =>
    obtain ⟨i, L, ao, c, rfl, rfl, hL, hi, ho, hg, hb⟩ := hrel
    by_cases hil : i < n
    · obtain ⟨g, off, eg, hcs⟩ := s.hat (by omega)
      subst eg
      have hil2 : i < ls.length := by rw [← Hn.out]; exact hil
      obtain ⟨xo, xc, hxv, sx⟩ := p.2 i hil2
      have c1 := KW.cell (fp := []) (p0 := tt) (hcs.at hxv) (by simp)
      have cr := (hcs.keep (Keep.of_grow [] hg) (by simp)).at hxv
      have hft := framS_take ls i hil2
      have hfl := Hfl.out (i + 1)
      have hfl0 := Hfl.out i
      rw [hft, ← hL.out] at hfl
      rw [← hL.out] at hfl0
      simp only [List.length_append, len4_len] at hfl
      obtain ⟨X, hX⟩ : ∃ X, X = ls[i] := ⟨_, rfl⟩
      rw [← hX] at c1 cr sx hft hfl
      have h2 : Hid (L ++ len4 X.length ++ X = framS (ls.take (i + 1))) := Lib.hid (by rw [hft, ← hL.out])
      obtain ⟨k, hk⟩ : ∃ k, k = X.length := ⟨_, rfl⟩
      rw [← hk] at c1 cr sx hfl
      have Hk := Lib.hid hk
      have hR0 := Lib.hid hR
      clear hX hft hcs hk hxv hil2 hR
      go_upto_region 6 with (fail)
      clear cr
      refine RC.wp_region_F [14, 15, 16, 17] (RC.segP w wr hg [(12, pBy (len4 k))]) (by kernel_rfl) RC.segP_from ?_
      unfold RC.segP RC.segX
      repeat (first | (refine RC.wpV_skp rfl rfl ?_; simp only [List.set_cons_succ, List.set_cons_zero]) | (refine RC.wpV_look rfl rfl rfl rfl rfl (fun K hK => ?_); go_big_quiet_op; refine hK _ ?_; clear hK K) | (refine RC.wpV_free rfl rfl rfl rfl (fun K hK => ?_); unfold RC.Base; go_big_quiet_op; refine hK _ ?_; clear hK K))
      refine RC.wpV_mk rfl rfl rfl [] (by kernel_rfl) (fun vs7 w7 hC _ => ?_) (fun vs7 v w7 hC hV hF => ?_)
      · obtain ⟨⟨w7, hk7, -⟩, rfl⟩ := hC
        unfold yields
        go_simp
        exact ⟨⟨[], Keep.alloc [] w7 _, by simp⟩, build4 w7 k _ _ _ _ (by omega) (by omega) (by omega) (by omega) _⟩
      obtain ⟨bo, d, rfl, -⟩ := hV
      clear hC hF w7
      simp only [List.set_cons_succ, List.set_cons_zero]
      repeat (first | (refine RC.wpV_skp rfl rfl ?_; simp only [List.set_cons_succ, List.set_cons_zero]) | (refine RC.wpV_look rfl rfl rfl rfl rfl (fun K hK => ?_); go_big_quiet_op; refine hK _ ?_; clear hK K) | (refine RC.wpV_free rfl rfl rfl rfl (fun K hK => ?_); unfold RC.Base; go_big_quiet_op; refine hK _ ?_; clear hK K))
      refine RC.wpV_tn rfl rfl (by kernel_rfl) (fun w7 hC hF => ?_)
      obtain ⟨⟨w7, hk7, -⟩, rfl⟩ := hC
      obtain ⟨bo', d', e, s4⟩ := (hF 12).2 rfl
      cases e
      rw [len4_len] at s4
      obtain ⟨ao1, cap1, w8, hr, own1, -, kp1, blk1⟩ := run_app TBy w7 22 (ho.keep hk7 (by simp)) s4 (by omega) (by omega)
      have g7 := hg.trans hk7.grow
      have g8 := g7.then kp1 hb
      have hb8 : Fr (blk ao1) w := fun y hy => by
        rcases blk1 y hy with h | h
        · exact hb y h
        · have := g7.size; omega
      unfold yields
      rw [run_exec_append hr]
      simp only [yUpon]
      refine ⟨RC.segL w w8 g8, RC.segL_at, ?_⟩
      simp only [List.set_cons_succ, List.set_cons_zero]
      clear hr hF kp1 blk1 s4 ho hk7 g7 hg hb
      unfold RC.segL RC.segX
      repeat (first | (refine RC.wpV_skp rfl rfl ?_; simp only [List.set_cons_succ, List.set_cons_zero]) | (refine RC.wpV_look rfl rfl rfl rfl rfl (fun K hK => ?_); go_big_quiet_op; refine hK _ ?_; clear hK K) | (refine RC.wpV_free rfl rfl rfl rfl (fun K hK => ?_); unfold RC.Base; go_big_quiet_op; refine hK _ ?_; clear hK K))
      refine RC.wpV_tn rfl rfl (by kernel_rfl) (fun w9 hC _ => ?_)
      obtain ⟨⟨w9, hk9, -⟩, rfl⟩ := hC
      have g9 := g8.trans hk9.grow
      obtain ⟨ao2, cap2, w10, hr, own2, -, kp2, blk2⟩ := run_app TBy w9 22 (own1.keep hk9 (by simp)) (sx.grow g9) (by omega) (by omega)
      have g10 := g9.then kp2 hb8
      have hb10 : Fr (blk ao2) w := fun y hy => by
        rcases blk2 y hy with h | h
        · exact hb8 y h
        · have := g9.size; omega
      unfold yields
      rw [run_exec_append hr]
      simp only [yUpon]
      refine ⟨RC.segL w w10 g10, RC.segL_at, ?_⟩
      simp only [List.set_cons_succ, List.set_cons_zero]
      unfold RC.segL RC.segX
      have e1 : L.length + 4 + k = (L ++ len4 X.length ++ X).length := by rw [Hk.out]; simp [len4_len]; omega
      have e2 : L.map B ++ (len4 k).map B ++ X.map B = (L ++ len4 X.length ++ X).map B := by rw [Hk.out]; simp
      rw [e1, e2] at own2
      rw [e1]
      clear hr kp2 blk2 e1 e2 own1 c1 g9 hk9 hb8 g8
      repeat (first | (refine RC.wpV_skp rfl rfl ?_; simp only [List.set_cons_succ, List.set_cons_zero]) | (refine RC.wpV_look rfl rfl rfl rfl rfl (fun K hK => ?_); go_big_quiet_op; refine hK _ ?_; clear hK K) | (refine RC.wpV_free rfl rfl rfl rfl (fun K hK => ?_); unfold RC.Base; go_big_quiet_op; refine hK _ ?_; clear hK K))
      refine RC.wpV_nil ?_
      intro w11 hC _
      obtain ⟨⟨w11, hk11, -⟩, rfl⟩ := hC
      have own3 := own2.keep hk11 (by simp)
      have g11 := g10.trans hk11.grow
      clear own2 hk11 g10
      go_wp2_with fail
      go_roundw
      case rel => exact ⟨i + 1, _, ao2, cap2, by go_num, rfl, h2, by omega, own3, g11, hb10⟩
      case measure => simp [intOf]; omega
    · obtain rfl : i = n := by omega
      have hLL : L = framS ls := by rw [hL.out, List.take_of_length_le (by rw [← Hn.out]; exact Nat.le_refl _)]
      rw [← hLL] at hR
      clear hL Hfl hLL
      go_wp2_with fail
      exact hR _ _ _ ho hg hb

theorem eq_block (xs ys : List UInt8) (hx : xs.length = 16) (hy : ys.length = 16) (w : World) : (Op.equalIn 10000 34 (.agg (xs.map B).toArray) (.agg (ys.map B).toArray)).run Try.prog w = .ok (xs == ys) w :=
  run_equalIn_bytes w 9998 34 5 16 Try.underlying34 Try.underlying5 (sizeOf_of (by kernel_rfl)) xs ys hx hy
set_option maxRecDepth 100000 in
set_option maxHeartbeats 2000000 in
theorem macSuW (a0 : Option Addr) (c0 : Nat) (key : List UInt8) (lo : Option Addr) (cap : Nat) (ls : List (List UInt8)) (w : World) (s0 : Sl w 1 a0 key.length c0 (key.map B)) (vs : List Value) (h : Sl w 1 lo ls.length cap vs ∧ Pt w vs ls) (R : Ending → World → Prop) (hR : ∀ w', Grow w w' → R (.returned (.bool true)) w') :
    Calls Try.prog 3 #[.slice a0 key.length c0, .slice lo ls.length cap] w R := by
  obtain ⟨s, pt⟩ := h
  have hml : maxLen = 9223372036854775807 := rfl
  have haw := awakeC
  have hm0 := s0.hcap
  have hn0 := s0.hle
  by_cases hlo : 300 < key.length
  · go_enter Try.func3, Try.ntmps3
    go_wp2_with fail
    refine haw _ _ ?_
    intro w2 g2
    have hf := hR w2 g2
    clear hR
    go_wp2_with fail
    exact hf
  have hd : decide (300 < (key.length : Int)) = false := by simp; omega
  have hkl : key.length ≤ 300 := by omega
  clear hlo hm0 hn0
  go_enter Try.func3, Try.ntmps3
  go_wp2_with fail
  refine shortC lo cap vs ls 1500 (by omega) w s pt _ ?_
  intro b w1 hb g1
  cases b with
  | false =>
    go_wp2_with fail
    refine haw _ _ ?_
    intro w2 g2
    have hf := hR w2 (g1.trans g2)
    clear hR
    go_wp2_with fail
    exact hf
  | true =>
    have hle := hb rfl
    have hl1 : ls.length ≤ 900000 := by omega
    have hl2 : ls.flatten.length ≤ 900000 := by omega
    have hnew := rNewC
    have hmac := fun w' sk s' pt' => macTop a0 c0 key lo cap vs ls w' sk (by omega) s' pt' hl1 hl2
    have hj := fun w' s' pt' => joinC lo cap vs ls w' s' pt' (by omega) (by omega)
    have hrm := fun p w' sm sk bo c sb => rMacC p w' sm a0 c0 key sk (by omega) bo c ls.flatten sb hl2
    have hfr := fun w' s' pt' => framC lo cap vs ls w' s' pt' (by omega) (by omega)
    have hfr2 := fun w' s' pt' => rFramC lo cap vs ls w' s' pt' (by omega) (by omega)
    have hsh := shortMC (macS key ls.flatten) (macS_len _ _)
    have hsh2 := rShortC (macS key ls.flatten) (macS_len _ _)
    have heq := eq_hash (macS key ls.flatten) (macS key ls.flatten) (macS_len _ _) (macS_len _ _)
    have heb := eq_block (shortS (macS key ls.flatten)) (shortS (macS key ls.flatten)) (shortS_len _ (macS_len _ _)) (shortS_len _ (macS_len _ _))
    rw [beq_self_eq_true] at heq heb
    generalize Hs = H at *
    generalize Ks = K at *
    obtain ⟨T, hT⟩ : ∃ T, T = macS key ls.flatten := ⟨_, rfl⟩
    have hTl : (T.map B).length = 32 := by rw [hT, List.length_map]; exact macS_len _ _
    have hT1 : ∀ v ∈ T.map B, v.oneCell' = true := B_one _
    obtain ⟨U, hU⟩ : ∃ T, T = ((shortS (macS key ls.flatten)).map B).toArray := ⟨_, rfl⟩
    rw [← hU] at heb
    simp only [← hU] at hsh hsh2
    simp only [← hT] at hmac hrm hsh hsh2 heq
    obtain ⟨V, hV⟩ : ∃ V, V = T.map B := ⟨_, rfl⟩
    rw [← hV] at hTl hT1 heq
    simp only [← hV] at hmac hrm hsh hsh2
    obtain ⟨L, hL⟩ : ∃ L, L = ls.flatten := ⟨_, rfl⟩
    simp only [← hL] at hj hrm
    obtain ⟨F, hFr⟩ : ∃ F, F = framS ls := ⟨_, rfl⟩
    simp only [← hFr] at hfr hfr2
    have hff : (F == F) = true := by simp
    have i32 : (Try.prog.info? 27).map (·.size) = some 32 := by kernel_rfl
    obtain ⟨N, hN⟩ : ∃ N, N = key.length := ⟨_, rfl⟩
    obtain ⟨n, hn⟩ : ∃ N, N = ls.length := ⟨_, rfl⟩
    simp only [← hN, ← hn] at s0 s hmac hj hrm hfr hfr2 hd ⊢
    clear hT hU hV hL hFr hN hn hle hb hl1 hl2 hkl
    go_wp2_with fail
    refine hnew _ _ ?_
    intro p w3 sm g3 _
    have G3 := g1.trans g3
    clear hnew g3 g1
    go_wp2_with fail
    refine hj w3 (s.grow G3) (pt.grow G3) _ ?_
    clear hj
    intro ao c w4 o4 g4 _
    have G4 := G3.trans g4
    have hc := hrm p w4 ⟨sm.1.keep (Keep.of_grow [] g4) (by simp), sm.2⟩ (s0.grow G4) ao c o4.sl
    clear hrm o4 sm g4 G3
    go_wp2_with fail
    refine hc _ ?_
    clear hc
    intro w5 g5
    have G5 := G4.trans g5
    clear G4 g5
    obtain ⟨o1, ga1, th1, al1⟩ := newvar (t := 27) w5 (.int .u8 0) rfl (by omega) hTl hT1
    have hszF : (Try.prog.info? 27).map (·.size) = some V.toArray.size := by rw [List.size_toArray, hTl]; exact i32
    go_upto_region 4 with (refine wpList_store_mid rfl 27 _ _ rfl w5.heap.size 0 V.toArray rfl rfl th1 hszF al1 ?_)
    change Code.wp _ _ _ ⟨_, _⟩ ((w5.alloc (.cells (List.replicate 32 (.int .u8 0)).toArray 27)).setCells w5.heap.size 0 V)
    have G6 := G5.trans ga1
    obtain ⟨q, hq⟩ : ∃ q, q = w5.heap.size := ⟨_, rfl⟩
    generalize (w5.alloc (.cells (List.replicate 32 (.int .u8 0)).toArray 27)).setCells w5.heap.size 0 V = w6 at *
    rw [← hq] at o1 ⊢
    clear hq th1 al1 ga1 G5
    have ldA : ∀ w', Keep [] w6 w' → (Instr.loadAt 27 (.pointer (some ⟨q, 0, none⟩))).run Try.prog w' = .ok (.agg V.toArray) w' := fun w' k => load_arr (by decide) hTl (o1.keep k (by simp)) Try.underlying27 rfl i32
    obtain ⟨A, hA⟩ : ∃ A, A = V.toArray := ⟨_, rfl⟩
    rw [← hA] at heq ⊢
    simp only [← hA] at hmac hsh hsh2 ldA
    have s06 := s0.grow G6
    have s6 := s.grow G6
    have pt6 := pt.grow G6
    clear hA hszF hTl hT1 o1 s0 s pt hd
    refine wp_region_R (segT w6 [(2, pIs (.agg A)), (7, pIs (.agg U)), (9, pIs (.agg U)), (14, pBy F), (15, pIs (.string (str F))), (17, pBy F), (18, pIs (.string (str F))), (22, pIs (.bool true))]) (by kernel_rfl) segT_drew ?_
    unfold segT segK segR
    repeat (first | (refine wpV_skp rfl rfl ?_; simp only [List.set_cons_succ, List.set_cons_zero]) | (refine wpV_look rfl rfl rfl rfl rfl (fun K hK => ?_); go_big_quiet_op; refine hK _ ?_; clear hK K))
    refine wpV_mk rfl rfl rfl [] (by kernel_rfl) (fun vs w7 hC hF => yields_call (by kernel_rfl) ?_) (fun vs v w7 hC hV hF => ?_)
    · obtain ⟨⟨w7, hk, -⟩, rfl⟩ := hC
      exact hmac w7 (s06.keep hk (by simp)) (s6.keep hk (by simp)) (pt6.keep0 hk) _ (fun w8 g8 => ⟨_, rfl, ⟨Keep.of_grow [] g8, trivial⟩, rfl⟩)
    obtain rfl := hV
    clear hC hF w7
    simp only [List.set_cons_succ, List.set_cons_zero]
    repeat (first | (refine wpV_skp rfl rfl ?_; simp only [List.set_cons_succ, List.set_cons_zero]) | (refine wpV_val rfl rfl rfl rfl rfl _ (fun w hC => by obtain ⟨n, rfl⟩ := hC; exact exec_load (ldA _ n.h)) ?_; simp only [List.set_cons_succ, List.set_cons_zero]) | (refine wpV_look rfl rfl rfl rfl rfl (fun K hK => ?_); go_big_quiet_op; refine hK _ ?_; clear hK K))
    refine wpV_mk rfl rfl rfl [] rfl (fun vs w7 hC _ => yields_call (by kernel_rfl) ?_) (fun vs v w7 hC hV hF => ?_)
    · obtain ⟨⟨w7, hk, -⟩, rfl⟩ := hC
      exact hsh w7 _ (fun w8 g8 => ⟨_, rfl, ⟨Keep.of_grow [] g8, trivial⟩, rfl⟩)
    obtain rfl := hV
    clear hC hF w7
    simp only [List.set_cons_succ, List.set_cons_zero]
    repeat (first | (refine wpV_skp rfl rfl ?_; simp only [List.set_cons_succ, List.set_cons_zero]) | (refine wpV_val rfl rfl rfl rfl rfl _ (fun w hC => by obtain ⟨n, rfl⟩ := hC; exact exec_load (ldA _ n.h)) ?_; simp only [List.set_cons_succ, List.set_cons_zero]) | (refine wpV_look rfl rfl rfl rfl rfl (fun K hK => ?_); go_big_quiet_op; refine hK _ ?_; clear hK K))
    refine wpV_mk rfl rfl rfl [] rfl (fun vs w7 hC _ => yields_call (by kernel_rfl) ?_) (fun vs v w7 hC hV hF => ?_)
    · obtain ⟨⟨w7, hk, -⟩, rfl⟩ := hC
      exact hsh2 w7 _ (fun w8 g8 => ⟨_, rfl, ⟨Keep.of_grow [] g8, trivial⟩, rfl⟩)
    obtain rfl := hV
    clear hC hF w7
    simp only [List.set_cons_succ, List.set_cons_zero]
    repeat (first | (refine wpV_skp rfl rfl ?_; simp only [List.set_cons_succ, List.set_cons_zero]) | (refine wpV_look rfl rfl rfl rfl rfl (fun K hK => ?_); go_big_quiet_op; refine hK _ ?_; clear hK K))
    refine wpV_mk rfl rfl rfl [] (by kernel_rfl) (fun vs w7 hC hF => yields_call (by kernel_rfl) ?_) (fun vs v w7 hC hV hF => ?_)
    · obtain ⟨⟨w7, hk, -⟩, rfl⟩ := hC
      exact hfr w7 (s6.keep hk (by simp)) (pt6.keep0 hk) _ (fun ao c w8 o8 g8 _ => ⟨_, rfl, ⟨Keep.of_grow [] g8, trivial⟩, pBy_mk o8.sl⟩)
    obtain ⟨bo, d, rfl, -⟩ := hV
    clear hC hF w7
    simp only [List.set_cons_succ, List.set_cons_zero]
    refine wpV_mk rfl rfl rfl [14] (by kernel_rfl) (fun vs w7 hC hF => ?_) (fun vs v w7 hC hV hF => ?_)
    · obtain ⟨bo, d, e, hs⟩ := (hF 14 (by simp)).2 rfl
      cases e
      obtain ⟨⟨w7, hk, -⟩, rfl⟩ := hC
      exact yields_run (exec_conv (run_str (d := 9) Try.underlying22 Try.underlying5 Try.underlying9 hs)) ⟨⟨Keep.refl [] _, trivial⟩, rfl⟩
    obtain rfl := hV
    clear hC hF w7
    simp only [List.set_cons_succ, List.set_cons_zero]
    repeat (first | (refine wpV_skp rfl rfl ?_; simp only [List.set_cons_succ, List.set_cons_zero]) | (refine wpV_look rfl rfl rfl rfl rfl (fun K hK => ?_); go_big_quiet_op; refine hK _ ?_; clear hK K))
    refine wpV_mk rfl rfl rfl [] (by kernel_rfl) (fun vs w7 hC hF => yields_call (by kernel_rfl) ?_) (fun vs v w7 hC hV hF => ?_)
    · obtain ⟨⟨w7, hk, -⟩, rfl⟩ := hC
      exact hfr2 w7 (s6.keep hk (by simp)) (pt6.keep0 hk) _ (fun ao c w8 o8 g8 _ => ⟨_, rfl, ⟨Keep.of_grow [] g8, trivial⟩, pBy_mk o8.sl⟩)
    obtain ⟨bo, d, rfl, -⟩ := hV
    clear hC hF w7
    simp only [List.set_cons_succ, List.set_cons_zero]
    refine wpV_mk rfl rfl rfl [17] (by kernel_rfl) (fun vs w7 hC hF => ?_) (fun vs v w7 hC hV hF => ?_)
    · obtain ⟨bo, d, e, hs⟩ := (hF 17 (by simp)).2 rfl
      cases e
      obtain ⟨⟨w7, hk, -⟩, rfl⟩ := hC
      exact yields_run (exec_conv (run_str (d := 9) Try.underlying22 Try.underlying5 Try.underlying9 hs)) ⟨⟨Keep.refl [] _, trivial⟩, rfl⟩
    obtain rfl := hV
    clear hC hF w7
    simp only [List.set_cons_succ, List.set_cons_zero]
    repeat (first | (refine wpV_skp rfl rfl ?_; simp only [List.set_cons_succ, List.set_cons_zero]) | (refine wpV_look rfl rfl rfl rfl rfl (fun K hK => ?_); go_big_quiet_op; refine hK _ ?_; clear hK K))
    refine wpV_mk rfl rfl rfl [] rfl (fun vs w7 hC _ => yields_call (by kernel_rfl) ?_) (fun vs v w7 hC hV hF => ?_)
    · obtain ⟨⟨w7, hk, -⟩, rfl⟩ := hC
      exact haw w7 _ (fun w8 g8 => ⟨_, rfl, ⟨Keep.of_grow [] g8, trivial⟩, rfl⟩)
    obtain rfl := hV
    clear hC hF w7
    simp only [List.set_cons_succ, List.set_cons_zero]
    repeat (first | (refine wpV_skp rfl rfl ?_; simp only [List.set_cons_succ, List.set_cons_zero]) | (refine wpV_look rfl rfl rfl rfl rfl (fun K hK => ?_); go_big_quiet_op; refine hK _ ?_; clear hK K))
    refine wpV_nil ?_
    intro w9 hC hF
    obtain ⟨⟨w9, hkw9, -⟩, rfl⟩ := hC
    clear hF
    have hf := hR _ (G6.trans hkw9.grow)
    clear hR
    go_wp2_with fail
    exact hf
end Go.Proofs.Ytaepfkpfageiaaa
