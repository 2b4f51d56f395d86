/- The walk of MacEqual. -/
import Derived.Test.YtaepfkpfageiaaaMacAw
import Derived.Test.YtaepfkpfageiaaaTabE
import Derived.Test.YtaepfkpfageiaaaRound
namespace Go.Proofs.Ytaepfkpfageiaaa
open Go Go.RowKit

set_option maxRecDepth 100000 in
set_option maxHeartbeats 2000000 in
theorem macEqW (a0 : Option Addr) (c0 : Nat) (a : List UInt8) (a1 : Option Addr) (c1 : Nat) (b : List UInt8) (x2 x3 : Int) (w : World) (s0 : Sl w 1 a0 a.length c0 (a.map B)) (s1 : Sl w 1 a1 b.length c1 (b.map B)) (_ : (Lit.int IntKind.i64 x2).wf = true) (_ : (Lit.int IntKind.i64 x3).wf = true)
    (R : Ending → World → Prop) (hR : ∀ w', Grow w w' → R (.returned (.bool true)) w') :
    Calls Try.prog 4 #[.slice a0 a.length c0, .slice a1 b.length c1, .int .i64 x2, .int .i64 x3] w R := by
  have hml : maxLen = 9223372036854775807 := rfl
  have haw := awakeC
  have hm0 := s0.hcap
  have hn0 := s0.hle
  have hm1 := s1.hcap
  have hn1 := s1.hle
  by_cases hlo : 500 < a.length
  · go_enter Try.func4, Try.ntmps4
    go_wp2_with fail
    refine haw _ _ ?_
    intro w2 g2
    have hf := hR w2 g2
    clear hR
    go_wp2_with fail
    exact hf
  have hd : decide (500 < (a.length : Int)) = false := by simp; omega
  by_cases hhi : 500 < b.length
  · go_enter Try.func4, Try.ntmps4
    go_wp2_with fail
    refine haw _ _ ?_
    intro w2 g2
    have hf := hR w2 g2
    clear hR
    go_wp2_with fail
    exact hf
  have hd2 : decide (500 < (b.length : Int)) = false := by simp; omega
  have hl : a.length ≤ 500 := by omega
  clear hlo hhi hm0 hn0 hm1 hn1
  have he1 := fun w' s s' => equalC a0 c0 a a1 c1 b w' s s'
  have he2 := fun bo c w' s s' => equalC a0 c0 a bo c a w' s s'
  obtain ⟨e, hab⟩ : ∃ e, e = (a == b) := ⟨_, rfl⟩
  have hea : (a == a) = true := by simp
  rw [← hab] at he1
  rw [hea] at he2
  have hns : ∀ z : UInt8, ∀ k, k < a.length → z ≠ a.getD k 0 → (a == a.set k z) = false := fun z k hk hz => by
    rw [beq_eq_false_iff_ne]
    intro h
    have := congrArg (fun l => l.getD k 0) h
    simp [hk] at this
    exact hz (by simp [hk, ← this])
  have hnt : ∀ k, k < a.length → (a == a.take k) = false := fun k hk => by
    rw [beq_eq_false_iff_ne]
    intro h
    have := congrArg List.length h
    rw [List.length_take] at this
    omega
  have he3 := fun bo c w' k (z : UInt8) => equalC a0 c0 a bo c (a.set k z) w'
  have he4 := fun bo c w' k => equalC a0 c0 a bo c (a.take k) w'
  obtain ⟨N, hN⟩ : ∃ N, N = a.length := ⟨_, rfl⟩
  obtain ⟨M, hM⟩ : ∃ N, N = b.length := ⟨_, rfl⟩
  simp only [List.length_set, List.length_take] at he3 he4
  rw [← hN] at s0 hd hl
  rw [← hM] at s1 hd2
  simp only [← hN, ← hM] at he1 he2 he3 he4 hns hnt ⊢
  have HN := Lib.hid hN
  have Hab := Lib.hid hab
  clear hN hM
  go_enter Try.func4, Try.ntmps4
  go_upto_region 3 with (fail)
  clear hd hd2
  have cva : ∀ w', Keep [] w w' → (convert 22 9 (.slice a0 N c0)).run Try.prog w' = .ok (.string (str a)) w' := fun w' k => run_str Try.underlying22 Try.underlying5 Try.underlying9 (s0.keep k (by simp))
  have cvb : ∀ w', Keep [] w w' → (convert 22 9 (.slice a1 M c1)).run Try.prog w' = .ok (.string (str b)) w' := fun w' k => run_str Try.underlying22 Try.underlying5 Try.underlying9 (s1.keep k (by simp))
  have s0' := s0
  have s1' := s1
  have hab' := hab.symm
  clear hab
  have Hns := Lib.hid hns
  have Hnt := Lib.hid hnt
  have H3 := Lib.hid he3
  have H4 := Lib.hid he4
  clear hns hnt he3 he4
  refine wp_region_R (segT w [(2, pIs (.bool e)), (11, pEm 5), (13, pBy a), (14, pIs (.bool true))]) (by kernel_rfl) segT_drew ?_
  unfold segT segK segR
  repeat (first | (refine wpV_skp rfl rfl ?_; simp only [List.set_cons_succ, List.set_cons_zero]) | (refine wpV_val rfl rfl rfl rfl rfl _ (fun w hC => by obtain ⟨n, rfl⟩ := hC; exact exec_conv (cva _ n.h)) ?_; simp only [List.set_cons_succ, List.set_cons_zero]) | (refine wpV_val rfl rfl rfl rfl rfl _ (fun w hC => by obtain ⟨n, rfl⟩ := hC; exact exec_conv (cvb _ n.h)) ?_; simp only [List.set_cons_succ, List.set_cons_zero]) | (refine wpV_look rfl rfl rfl rfl rfl (fun K hK => ?_); go_big_quiet_op; refine hK _ ?_; clear hK K))
  refine wpV_mk rfl rfl rfl [] rfl (fun vs w7 hC _ => yields_call (by kernel_rfl) ?_) (fun vs v w7 hC hV hF => ?_)
  · obtain ⟨⟨w7, hk, -⟩, rfl⟩ := hC
    exact he1 w7 (s0'.keep hk (by simp)) (s1'.keep hk (by simp)) _ (fun w8 g8 => ⟨_, rfl, ⟨Keep.of_grow [] g8, trivial⟩, rfl⟩)
  obtain rfl := hV
  clear hC hF w7
  simp only [List.set_cons_succ, List.set_cons_zero]
  repeat (first | (refine wpV_skp rfl rfl ?_; simp only [List.set_cons_succ, List.set_cons_zero]) | (refine wpV_val rfl rfl rfl rfl rfl _ (fun w hC => by obtain ⟨n, rfl⟩ := hC; exact exec_conv (cva _ n.h)) ?_; simp only [List.set_cons_succ, List.set_cons_zero]) | (refine wpV_val rfl rfl rfl rfl rfl _ (fun w hC => by obtain ⟨n, rfl⟩ := hC; exact exec_conv (cvb _ n.h)) ?_; simp only [List.set_cons_succ, List.set_cons_zero]) | (refine wpV_look rfl rfl rfl rfl rfl (fun K hK => ?_); go_big_quiet_op; refine hK _ ?_; clear hK K))
  refine wpV_mk rfl rfl rfl [] rfl (fun vs w7 hC _ => ?_) (fun vs v w7 hC hV hF => ?_)
  · obtain ⟨⟨w7, hk, -⟩, rfl⟩ := hC
    unfold yields
    go_simp
    exact ⟨⟨Keep.of_grow [] (Grow.alloc w7 _), trivial⟩, pEm_new w7 _⟩
  obtain ⟨bo, rfl, -⟩ := hV
  clear hC hF w7
  simp only [List.set_cons_succ, List.set_cons_zero]
  repeat (first | (refine wpV_skp rfl rfl ?_; simp only [List.set_cons_succ, List.set_cons_zero]) | (refine wpV_look rfl rfl rfl rfl rfl (fun K hK => ?_); go_big_quiet_op; refine hK _ ?_; clear hK K))
  refine wpV_mk rfl rfl rfl [11] (by kernel_rfl) (fun vs w7 hC hF => ?_) (fun vs v w7 hC hV hF => ?_)
  · obtain ⟨bo, e, ho⟩ := (hF 11 (by simp)).2 rfl
    cases e
    obtain ⟨⟨w7, hk, -⟩, rfl⟩ := hC
    obtain ⟨ao1, cap1, w8, hr, own1, g1, -⟩ := run_app0 TBy w7 22 ho (s0'.keep hk (by simp)) (by omega) (by omega)
    exact yields_run (run_exec_append hr) ⟨⟨Keep.of_grow [] g1, trivial⟩, pBy_mk own1.sl⟩
  obtain ⟨bo, d, rfl, -⟩ := hV
  clear hC hF w7
  simp only [List.set_cons_succ, List.set_cons_zero]
  refine wpV_mk rfl rfl rfl [13] (by kernel_rfl) (fun vs w7 hC hF => yields_call (by kernel_rfl) ?_) (fun vs v w7 hC hV hF => ?_)
  · obtain ⟨bo, d, e, hs⟩ := (hF 13 (by simp)).2 rfl
    cases e
    obtain ⟨⟨w7, hk, -⟩, rfl⟩ := hC
    rw [← HN.out] at hs ⊢
    exact he2 _ _ w7 (s0'.keep hk (by simp)) hs _ (fun w8 g8 => ⟨_, rfl, ⟨Keep.of_grow [] g8, trivial⟩, rfl⟩)
  obtain rfl := hV
  clear hC hF w7
  simp only [List.set_cons_succ, List.set_cons_zero]
  repeat (first | (refine wpV_skp rfl rfl ?_; simp only [List.set_cons_succ, List.set_cons_zero]) | (refine wpV_look rfl rfl rfl rfl rfl (fun K hK => ?_); go_big_quiet_op; refine hK _ ?_; clear hK K))
  refine wpV_nil ?_
  intro w9 hC hF
  obtain ⟨⟨w9, hkw9, -⟩, rfl⟩ := hC
  clear hF
  have G9 := hkw9.grow
  clear cva cvb he1 he2 hkw9 s1 s1' s0' hab'
  by_cases h0 : N = 0
  · subst h0
    go_wp2_with fail
    refine haw _ _ ?_
    intro w10 g10
    have hf := hR _ (G9.trans g10)
    clear hR
    go_wp2_with fail
    exact hf
  have hd0 : ((N : Int) == 0) = false := by simpa using h0
  have hNp : 0 < N := by omega
  have oE : Own (w9.alloc (.cells #[] 5)) 5 1 (some ⟨w9.heap.size, 0, none⟩) 0 0 [] := Own.made (n := 0) (heap_alloc_new w9 _) rfl (by decide) (by simp)
  have gE := Grow.alloc w9 (.cells #[] 5)
  have hrc := roundC x2 N hNp (by omega)
  have hkl := rnd_lt x2 N hNp
  have hrc2 := roundC x3 255 (by decide) (by decide)
  have hrl := rnd_lt x3 255 (by decide)
  obtain ⟨k, hk⟩ : ∃ k, k = rnd x2 N := ⟨_, rfl⟩
  obtain ⟨r, hr⟩ : ∃ k, k = rnd x3 255 := ⟨_, rfl⟩
  rw [← hk] at hrc hkl
  rw [← hr] at hrc2 hrl
  clear hk hr
  go_upto_region 8 with (at_builtin; refine wpList_app TBy rfl rfl oE ((s0.grow G9).grow gE) (by omega) (by omega) ?_; intro ao1 cap1 w2 own1 _ keep1 blk1; simp only [Nat.zero_add, List.nil_append] at own1)
  have hb1 : Fr (blk ao1) w9 := fun y hy => by
    rcases blk1 y hy with h | h
    · simp [blk] at h; omega
    · simp at h; omega
  have g2 : Grow w9 w2 := gE.then keep1 (fun y hy => by simp [blk] at hy; omega)
  have G2 := G9.trans g2
  obtain ⟨g, v, eg, -, -, -⟩ := own_put own1 (i := k) (by omega)
  subst eg
  clear oE gE keep1 blk1 v
  go_upto_region 9 with (go_at_call 31; refine hrc _ _ ?_)
  clear hrc
  have hrc3 : ∀ w R, (∀ w', Grow w w' → R (.returned (.int .i64 (r : Int))) w') → Calls Try.prog 31 #[.int .i64 x3, .int .i64 255] w R := fun w R h => hrc2 w R (h w (Grow.refl w))
  obtain ⟨g', off', eg, hcs⟩ := own1.sl.hat (by omega)
  cases eg
  have hka : k < a.length := by rw [← HN.out]; exact hkl
  have c1 := hcs.at (i := k) (v := .int .u8 ((a.getD k 0).toNat : Int)) (by simp [B, hka])
  rw [Nat.zero_add] at c1
  have e1 := KW.cell (fp := []) (p0 := tt) c1 (by simp)
  refine wp_region_R (segT w2 [(8, pIs (.int .i64 (r : Int)))]) (by kernel_rfl) segT_drew ?_
  unfold segT segK segR
  repeat (first | (refine wpV_skp rfl rfl ?_; simp only [List.set_cons_succ, List.set_cons_zero]) | (refine wpV_look rfl rfl rfl rfl rfl (fun K hK => ?_); go_big_quiet_op; refine hK _ ?_; clear hK K))
  refine wpV_mk rfl rfl rfl [] rfl (fun vs w7 hC _ => yields_call (by kernel_rfl) ?_) (fun vs v w7 hC hV hF => ?_)
  · obtain ⟨⟨w7, hk, -⟩, rfl⟩ := hC
    exact hrc3 w7 _ (fun w8 g8 => ⟨_, rfl, ⟨Keep.of_grow [] g8, trivial⟩, rfl⟩)
  obtain rfl := hV
  clear hC hF w7
  simp only [List.set_cons_succ, List.set_cons_zero]
  repeat (first | (refine wpV_skp rfl rfl ?_; simp only [List.set_cons_succ, List.set_cons_zero]) | (refine wpV_look rfl rfl rfl rfl rfl (fun K hK => ?_); go_big_quiet_op; refine hK _ ?_; clear hK K))
  refine wpV_end0 rfl rfl (by kernel_rfl) (fun w7 hC hF => ?_)
  obtain ⟨⟨w7, hk, -⟩, rfl⟩ := hC
  obtain ⟨g', v', eg', hv', hfz', hset'⟩ := own_put (own1.keep hk (by simp)) (i := k) (by omega)
  cases eg'
  have hat : a.getD k 0 = a[k] := by simp [hka]
  obtain ⟨z, hz1, hz2⟩ : ∃ z : UInt8, z ≠ a.getD k 0 ∧ ((a[k].toNat : Int) + 1 + (r : Int)) % 256 = (z.toNat : Int) := by
    have hlt := UInt8.toNat_lt a[k]
    refine ⟨UInt8.ofNat (a[k].toNat + 1 + r), fun h => ?_, ?_⟩
    · have := congrArg UInt8.toNat h
      rw [hat, UInt8.toNat_ofNat'] at this
      omega
    · rw [UInt8.toNat_ofNat']
      omega
  have own3 := hset' (B z) rfl
  rw [← List.map_set] at own3
  have k3 := Keep.setCell (fp := [g]) w7 ⟨g, k, none⟩ (by simp) (B z)
  have G3 : Grow w (w7.setCell ⟨g, k, none⟩ (B z)) := (G2.trans hk.grow).then k3 (fun y hy => by
    simp at hy
    subst hy
    have := hb1 y (by simp [blk])
    have := G9.size
    omega)
  unfold yields
  go_simp
  simp only [yUpon]
  rw [show Value.int IntKind.u8 ((z.toNat : Nat) : Int) = B z from rfl]
  generalize w7.setCell ⟨g, k, none⟩ (B z) = w10 at *
  have hc3 := H3.out (some ⟨g, 0, none⟩) cap1 w10 k z (s0.grow G3) own3.sl
  rw [Hns.out z k hkl hz1] at hc3
  have hmin : min k N = k := by omega
  have hc4 := fun bo c w' s s' => H4.out bo c w' k s s'
  rw [hmin, Hnt.out k hkl] at hc4
  obtain ⟨so, sc, hcut, sk, -⟩ := run_cut0 TBy s0 (k : Int) k rfl (by omega)
  rw [Nat.mul_one, ← List.map_take] at sk
  clear own1 e1 c1 hcs hat hz1 hz2 own3 k3 hset' hfz' hv' hk hF hrc3 hrc2 hb1 G2 g2 G9 hd0 hmin H3 H4 Hns Hnt hea
  go_wp2_with fail
  refine hc3 _ ?_
  clear hc3
  intro w11 g11
  have G11 := G3.trans g11
  have hc5 := hc4 so sc w11 (s0.grow G11) (sk.grow G11)
  clear hc4 g11 G3
  go_wp2_with fail
  refine hc5 _ ?_
  clear hc5
  intro w12 g12
  have G12 := G11.trans g12
  clear g12
  go_wp2_with fail
  refine haw _ _ ?_
  intro w13 g13
  have hf := hR _ (G12.trans g13)
  clear hR
  go_wp2_with fail
  exact hf
end Go.Proofs.Ytaepfkpfageiaaa
