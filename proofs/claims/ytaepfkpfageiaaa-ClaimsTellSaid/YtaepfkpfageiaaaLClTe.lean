/- The walk of ClaimsTell. -/
import Derived.Test.YtaepfkpfageiaaaRCla2
import Derived.Test.YtaepfkpfageiaaaClmAw
namespace Go.Proofs.Ytaepfkpfageiaaa
open Go Go.RowKit

set_option maxRecDepth 100000 in
set_option maxHeartbeats 2000000 in
theorem clTeW (lo : Option Addr) (c0 : Nat) (cs : List Clm) (w : World) (s : Sl w 35 lo cs.length c0 (clVs cs)) (hsz : ∀ a ∈ cs, a.key.length ≤ reachBytes ∧ a.text.length ≤ reachBytes)
    (R : Ending → World → Prop) (hR : ∀ w', Grow w w' → R (.returned (.bool true)) w') :
    Calls Try.prog 15 #[.slice lo cs.length c0] w R := by
  have hml : maxLen = 9223372036854775807 := rfl
  have hrb : reachBytes = 140737488351232 := rfl
  have haw := awake12C
  have hks := s.hle
  have hkm := s.hcap
  by_cases hx1 : 15 < cs.length
  · go_enter Try.func15, Try.ntmps15
    go_wp2_with fail
    refine haw _ _ ?_
    intro w2 g2
    have hf := hR w2 g2
    clear hR
    go_wp2_with fail
    exact hf
  have hg1 : decide (15 < (cs.length : Int)) = false := decide_eq_false (by omega)
  have hnew := rNewC
  have c1 := fun hf w sl => forgedC lo cs.length c0 cs rfl hf w sl
  have c2 := fun p hf w sm sl => rForgedC p lo cs.length c0 cs rfl hf w sm sl
  have c3 := fun hf w sl => clashC lo cs.length c0 cs rfl hf w sl
  have c4 := fun p hf w sm sl => rClashC p lo cs.length c0 cs rfl hf w sm sl
  generalize Hs = H at *
  generalize Ks = K at *
  have hnl : cs.length ≤ 15 := by omega
  obtain ⟨n, hn⟩ : ∃ n, n = cs.length := ⟨_, rfl⟩
  rw [← hn] at s hks hnl hg1 ⊢
  simp only [← hn] at c1 c2 c3 c4
  obtain ⟨b1, hb1⟩ : ∃ b, b = forgedS cs := ⟨_, rfl⟩
  obtain ⟨b2, hb2⟩ : ∃ b, b = clashS cs := ⟨_, rfl⟩
  simp only [← hb1] at c1 c2
  simp only [← hb2] at c3 c4
  have e1 : (b1 == b1) = true := by simp
  have e2 : (b2 == b2) = true := by simp
  have C1 := Lib.hid c1
  have C2 := Lib.hid c2
  have C3 := Lib.hid c3
  have C4 := Lib.hid c4
  have Hn := Lib.hid hn
  have Hsz := Lib.hid hsz
  clear hn hsz hb1 hb2 c1 c2 c3 c4 hx1
  go_enter Try.func15, Try.ntmps15
  go_wp2_with fail
  go_loopw [3] (fun vi wr => ∃ i : Nat, vi = .int .i64 (i : Int) ∧ i ≤ n ∧ Hid (∀ j (hj : j < cs.length), j < i → cs[j].fit) ∧ Grow w wr) (fun vi _ => n - (intOf vi).toNat)
  case atStart => exact ⟨0, by simp, by omega, Lib.hid (fun j _ h => by omega), Grow.refl _⟩
  case round =>
    obtain ⟨i, rfl, hi, hft, g⟩ := hrel
    by_cases hlt : i < n
    · have hil : i < cs.length := by rw [← Hn.out]; exact hlt
      obtain ⟨gb, off, eg, hcs⟩ := (s.grow g).hat (by omega)
      subst eg
      have hci := cells_clm hcs i hil
      obtain ⟨x, hx⟩ : ∃ x, x = cs[i] := ⟨_, rfl⟩
      have hxs := Hsz.out x (by rw [hx]; exact List.getElem_mem hil)
      rw [← hx] at hci
      have f0 := KW.cell (fp := []) (p0 := tt) (hci.at (clV_key x)) (by simp)
      have f1 := KW.cell (fp := []) (p0 := tt) (hci.at (clV_text x)) (by simp)
      simp only [Nat.add_zero] at f0
      have z0 : (str x.key).size = x.key.length := rfl
      have z1 : (str x.text).size = x.text.length := rfl
      have hstep : x.fit → ∀ j (hj : j < cs.length), j < i + 1 → cs[j].fit := fun h j hj hji => by
        rcases Nat.lt_or_ge j i with h1 | h1
        · exact hft.out j hj h1
        · obtain rfl : j = i := by omega
          rw [← hx]; exact h
      have Hstep := Lib.hid hstep
      have hk1 := hxs.1
      have hk2 := hxs.2
      clear hx hcs hci hstep hft hxs
      by_cases hbig : 300 < x.key.length + x.text.length
      · have hd : decide (300 < (x.key.length : Int) + (x.text.length : Int)) = true := decide_eq_true (by omega)
        clear Hstep
        obtain ⟨s0, hs0⟩ : ∃ s, s = str x.key := ⟨_, rfl⟩
        obtain ⟨s1, hs1⟩ : ∃ s, s = str x.text := ⟨_, rfl⟩
        rw [← hs0] at f0 z0
        rw [← hs1] at f1 z1
        clear hs0 hs1
        go_upto_region 6 with (fail)
        refine wp_region_R (segT wr []) (by kernel_rfl) segT_drew ?_
        unfold segT segK segR
        repeat (first | (refine wpV_skp rfl rfl ?_; simp only [List.set_cons_succ, List.set_cons_zero]) | (refine wpV_look rfl rfl rfl rfl rfl (fun K hK => ?_); go_big_quiet_op; refine hK _ ?_; clear hK K))
        refine wpV_nil ?_
        intro w5 hC hF
        obtain ⟨⟨w5, hkw5, -⟩, rfl⟩ := hC
        clear hF
        have G5 := g.trans hkw5.grow
        clear f0 f1
        go_wp2_with fail
        refine haw _ _ ?_
        intro w6 g6
        have hf := hR _ (G5.trans g6)
        clear hR
        go_wp2_with fail
        exact hf
      · have hd : decide (300 < (x.key.length : Int) + (x.text.length : Int)) = false := decide_eq_false (by omega)
        have hnx := Hstep.out ⟨by omega, by omega⟩
        have Hnx := Lib.hid hnx
        clear hnx Hstep
        obtain ⟨s0, hs0⟩ : ∃ s, s = str x.key := ⟨_, rfl⟩
        obtain ⟨s1, hs1⟩ : ∃ s, s = str x.text := ⟨_, rfl⟩
        rw [← hs0] at f0 z0
        rw [← hs1] at f1 z1
        clear hs0 hs1
        go_upto_region 6 with (fail)
        refine wp_region_R (segT wr []) (by kernel_rfl) segT_drew ?_
        unfold segT segK segR
        repeat (first | (refine wpV_skp rfl rfl ?_; simp only [List.set_cons_succ, List.set_cons_zero]) | (refine wpV_look rfl rfl rfl rfl rfl (fun K hK => ?_); go_big_quiet_op; refine hK _ ?_; clear hK K))
        refine wpV_nil ?_
        intro w5 hC hF
        obtain ⟨⟨w5, hkw5, -⟩, rfl⟩ := hC
        clear hF
        have G5 := g.trans hkw5.grow
        clear f0 f1
        go_wp2_with fail
        go_roundw
        case rel => exact ⟨i + 1, by go_num, by omega, Hnx, G5⟩
        case measure => simp [intOf]; omega
    · obtain rfl : i = n := by omega
      have hfit : ∀ x ∈ cs, x.fit := fun x hx => by
        obtain ⟨j, hj, rfl⟩ := List.mem_iff_getElem.1 hx
        exact hft.out j hj (by rw [Hn.out]; exact hj)
      have Hfit := Lib.hid hfit
      clear hfit hft
      go_wp2_with fail
      refine hnew _ _ ?_
      clear hnew
      intro p w1 sm g1 _
      have G1 := g.trans g1
      have hc := C1.out Hfit.out w1 (s.grow G1)
      clear g g1
      go_wp2_with fail
      refine hc _ ?_
      clear hc
      intro w2 g2
      have G2 := G1.trans g2
      have sm2 := sm.grow g2
      have hc := C2.out p Hfit.out w2 sm2 (s.grow G2)
      clear sm G1 g2
      go_wp2_with fail
      refine hc _ ?_
      clear hc
      intro w3 g3
      have G3 := G2.trans g3
      have sm3 := sm2.grow g3
      have hc := C3.out Hfit.out w3 (s.grow G3)
      clear sm2 G2 g3
      go_wp2_with fail
      refine hc _ ?_
      clear hc
      intro w4 g4
      have G4 := G3.trans g4
      have sm4 := sm3.grow g4
      have hc := C4.out p Hfit.out w4 sm4 (s.grow G4)
      clear sm3 G3 g4
      go_wp2_with fail
      refine hc _ ?_
      clear hc
      intro w5 g5
      have G5 := G4.trans g5
      go_wp2_with fail
      refine haw _ _ ?_
      intro w6 g6
      have hf := hR _ (G5.trans g6)
      clear hR
      go_wp2_with fail
      exact hf
end Go.Proofs.Ytaepfkpfageiaaa
