/- The document's frame. -/
import Derived.Test.YtaepfkpfageiaaaMacF
import Derived.Test.YtaepfkpfageiaaaRegC
namespace Go.Proofs.Ytaepfkpfageiaaa
open Go Go.RowKit

theorem build4 (w : World) (k : Nat) (a b c d : Int) (ha : a = (k % 256 : Nat)) (hb : b = (k / 256 % 256 : Nat)) (hc : c = (k / 65536 % 256 : Nat)) (hd : d = (k / 16777216 % 256 : Nat)) (e : TypeId) :
    (pBy (len4 k)).p (.slice (some ⟨w.heap.size, 0, none⟩) 4 4) (w.alloc (.cells #[.int .u8 a, .int .u8 b, .int .u8 c, .int .u8 d] e)) := by
  have h := len4_B k a b c d ha hb hc hd
  have s := sl_obj (C := [.int .u8 a, .int .u8 b, .int .u8 c, .int .u8 d]) (alloc_new w (.cells #[.int .u8 a, .int .u8 b, .int .u8 c, .int .u8 d] e)) 4 rfl (by decide) (by simp [Value.oneCell'])
  refine ⟨_, _, rfl, ?_⟩
  rw [← h]
  exact s
set_option maxRecDepth 100000 in
set_option maxHeartbeats 1000000 in
theorem rFramC (lo : Option Addr) (cap : Nat) (vs : List Value) (ls : List (List UInt8)) (w : World) (s : Sl w 1 lo ls.length cap vs) (p : Pt w vs ls) (hl : ls.length ≤ 1000000) (ht : ls.flatten.length ≤ 1000000) (R : Ending → World → Prop)
    (hR : ∀ ao c w', Own w' 5 1 ao (framS ls).length c ((framS ls).map B) → Grow w w' → Fr (blk ao) w → R (.returned (.slice ao (framS ls).length c)) w') :
    Calls Try.prog 29 #[.slice lo ls.length cap] w R := by
  have hml : maxLen = 9223372036854775807 := rfl
  have hfl : ∀ i, (framS (ls.take i)).length ≤ 5000000 := fun i => by
    rw [framS_len]
    have h1 : (ls.take i).flatten.length ≤ ls.flatten.length := flat_le ls i
    have h2 : (ls.take i).length ≤ ls.length := by rw [List.length_take]; omega
    omega
  obtain ⟨n, hn⟩ : ∃ n, n = ls.length := ⟨_, rfl⟩
  rw [← hn] at s hl ⊢
  have Hn := Lib.hid hn
  have Hfl := Lib.hid hfl
  clear hn ht hfl
  go_enter Try.func29, Try.ntmps29
  go_wp2_with fail
  go_loopw [3, 4] (fun o vi wr => ∃ (i : Nat) (L : List UInt8) (ao : Option Addr) (c : Nat), vi = .int .i64 (i : Int) ∧ o = .slice ao L.length c ∧ Hid (L = framS (ls.take i)) ∧ i ≤ n ∧ Own wr 5 1 ao L.length c (L.map B) ∧ Grow w wr ∧ Fr (blk ao) w) (fun _ vi _ => n - (intOf vi).toNat)
  case atStart => exact ⟨0, [], none, 0, by simp, rfl, Lib.hid (by simp [framS]), by omega, Own.none _ _ _, Grow.refl _, by simp [blk, Fr]⟩
  case round =>
    obtain ⟨i, L, ao, c, rfl, rfl, hL, hi, ho, hg, hb⟩ := hrel
    by_cases hil : i < n
    · obtain ⟨g, off, eg, hcs⟩ := s.hat (by omega)
      subst eg
      have hil2 : i < ls.length := by rw [← Hn.out]; exact hil
      obtain ⟨xo, xc, hxv, sx⟩ := p.2 i hil2
      have c1 := KW.cell (fp := []) (p0 := tt) (hcs.at hxv) (by simp)
      have cr := (hcs.keep (Keep.of_grow [] hg) (by simp)).at hxv
      have hft := framS_take ls i hil2
      have hfl := Hfl.out (i + 1)
      have hfl0 := Hfl.out i
      rw [hft, ← hL.out] at hfl
      rw [← hL.out] at hfl0
      simp only [List.length_append, len4_len] at hfl
      obtain ⟨X, hX⟩ : ∃ X, X = ls[i] := ⟨_, rfl⟩
      rw [← hX] at c1 cr sx hft hfl
      have h2 : Hid (L ++ len4 X.length ++ X = framS (ls.take (i + 1))) := Lib.hid (by rw [hft, ← hL.out])
      obtain ⟨k, hk⟩ : ∃ k, k = X.length := ⟨_, rfl⟩
      rw [← hk] at c1 cr sx hfl
      have Hk := Lib.hid hk
      have hR0 := Lib.hid hR
      clear hX hft hcs hk hxv hil2 hR
      go_upto_region 6 with (fail)
      clear cr
      refine RC.wp_region_F [14, 15, 16, 17] (RC.segP w wr hg [(12, pBy (len4 k))]) (by kernel_rfl) RC.segP_from ?_
      unfold RC.segP RC.segX
      repeat (first | (refine RC.wpV_skp rfl rfl ?_; simp only [List.set_cons_succ, List.set_cons_zero]) | (refine RC.wpV_look rfl rfl rfl rfl rfl (fun K hK => ?_); go_big_quiet_op; refine hK _ ?_; clear hK K) | (refine RC.wpV_free rfl rfl rfl rfl (fun K hK => ?_); unfold RC.Base; go_big_quiet_op; refine hK _ ?_; clear hK K))
      refine RC.wpV_mk rfl rfl rfl [] (by kernel_rfl) (fun vs7 w7 hC _ => ?_) (fun vs7 v w7 hC hV hF => ?_)
      · obtain ⟨⟨w7, hk7, -⟩, rfl⟩ := hC
        unfold yields
        go_simp
        exact ⟨⟨[], Keep.alloc [] w7 _, by simp⟩, build4 w7 k _ _ _ _ (by omega) (by omega) (by omega) (by omega) _⟩
      obtain ⟨bo, d, rfl, -⟩ := hV
      clear hC hF w7
      simp only [List.set_cons_succ, List.set_cons_zero]
      repeat (first | (refine RC.wpV_skp rfl rfl ?_; simp only [List.set_cons_succ, List.set_cons_zero]) | (refine RC.wpV_look rfl rfl rfl rfl rfl (fun K hK => ?_); go_big_quiet_op; refine hK _ ?_; clear hK K) | (refine RC.wpV_free rfl rfl rfl rfl (fun K hK => ?_); unfold RC.Base; go_big_quiet_op; refine hK _ ?_; clear hK K))
      refine RC.wpV_tn rfl rfl (by kernel_rfl) (fun w7 hC hF => ?_)
      obtain ⟨⟨w7, hk7, -⟩, rfl⟩ := hC
      obtain ⟨bo', d', e, s4⟩ := (hF 12).2 rfl
      cases e
      rw [len4_len] at s4
      obtain ⟨ao1, cap1, w8, hr, own1, -, kp1, blk1⟩ := run_app TBy w7 22 (ho.keep hk7 (by simp)) s4 (by omega) (by omega)
      have g7 := hg.trans hk7.grow
      have g8 := g7.then kp1 hb
      have hb8 : Fr (blk ao1) w := fun y hy => by
        rcases blk1 y hy with h | h
        · exact hb y h
        · have := g7.size; omega
      unfold yields
      rw [run_exec_append hr]
      simp only [yUpon]
      refine ⟨RC.segL w w8 g8, RC.segL_at, ?_⟩
      simp only [List.set_cons_succ, List.set_cons_zero]
      clear hr hF kp1 blk1 s4 ho hk7 g7 hg hb
      unfold RC.segL RC.segX
      repeat (first | (refine RC.wpV_skp rfl rfl ?_; simp only [List.set_cons_succ, List.set_cons_zero]) | (refine RC.wpV_look rfl rfl rfl rfl rfl (fun K hK => ?_); go_big_quiet_op; refine hK _ ?_; clear hK K) | (refine RC.wpV_free rfl rfl rfl rfl (fun K hK => ?_); unfold RC.Base; go_big_quiet_op; refine hK _ ?_; clear hK K))
      refine RC.wpV_tn rfl rfl (by kernel_rfl) (fun w9 hC _ => ?_)
      obtain ⟨⟨w9, hk9, -⟩, rfl⟩ := hC
      have g9 := g8.trans hk9.grow
      obtain ⟨ao2, cap2, w10, hr, own2, -, kp2, blk2⟩ := run_app TBy w9 22 (own1.keep hk9 (by simp)) (sx.grow g9) (by omega) (by omega)
      have g10 := g9.then kp2 hb8
      have hb10 : Fr (blk ao2) w := fun y hy => by
        rcases blk2 y hy with h | h
        · exact hb8 y h
        · have := g9.size; omega
      unfold yields
      rw [run_exec_append hr]
      simp only [yUpon]
      refine ⟨RC.segL w w10 g10, RC.segL_at, ?_⟩
      simp only [List.set_cons_succ, List.set_cons_zero]
      unfold RC.segL RC.segX
      have e1 : L.length + 4 + k = (L ++ len4 X.length ++ X).length := by rw [Hk.out]; simp [len4_len]; omega
      have e2 : L.map B ++ (len4 k).map B ++ X.map B = (L ++ len4 X.length ++ X).map B := by rw [Hk.out]; simp
      rw [e1, e2] at own2
      rw [e1]
      clear hr kp2 blk2 e1 e2 own1 c1 g9 hk9 hb8 g8
      repeat (first | (refine RC.wpV_skp rfl rfl ?_; simp only [List.set_cons_succ, List.set_cons_zero]) | (refine RC.wpV_look rfl rfl rfl rfl rfl (fun K hK => ?_); go_big_quiet_op; refine hK _ ?_; clear hK K) | (refine RC.wpV_free rfl rfl rfl rfl (fun K hK => ?_); unfold RC.Base; go_big_quiet_op; refine hK _ ?_; clear hK K))
      refine RC.wpV_nil ?_
      intro w11 hC _
      obtain ⟨⟨w11, hk11, -⟩, rfl⟩ := hC
      have own3 := own2.keep hk11 (by simp)
      have g11 := g10.trans hk11.grow
      clear own2 hk11 g10
      go_wp2_with fail
      go_roundw
      case rel => exact ⟨i + 1, _, ao2, cap2, by go_num, rfl, h2, by omega, own3, g11, hb10⟩
      case measure => simp [intOf]; omega
    · obtain rfl : i = n := by omega
      have hLL : L = framS ls := by rw [hL.out, List.take_of_length_le (by rw [← Hn.out]; exact Nat.le_refl _)]
      rw [← hLL] at hR
      clear hL Hfl hLL
      go_wp2_with fail
      exact hR _ _ _ ho hg hb
end Go.Proofs.Ytaepfkpfageiaaa
