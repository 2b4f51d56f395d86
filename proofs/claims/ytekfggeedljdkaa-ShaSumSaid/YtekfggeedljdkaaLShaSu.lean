/- The walk of ShaSum. -/
import Derived.Test.YtekfggeedljdkaaShaAw
import Derived.Test.YtekfggeedljdkaaRsL
import Derived.Test.YtekfggeedljdkaaShaT
import Derived.Test.YtekfggeedljdkaaEqA
namespace Go.Proofs.Ytekfggeedljdkaa
open Go Go.RowKit

theorem sumS_len' (l : List UInt8) : (sumOf Hs Ks l).length = 32 := sumOf_len _ _ _
set_option maxRecDepth 100000 in
set_option maxHeartbeats 400000 in
theorem shaSuW (lo : Option Addr) (cap : Nat) (ls : List (List UInt8)) (w : World) (vs : List Value) (h : Sl w 1 lo ls.length cap vs ∧ Pt w vs ls) (R : Ending → World → Prop) (hR : ∀ w', Grow w w' → R (.returned (.bool true)) w') :
    Calls Try.prog 3 #[.slice lo ls.length cap] w R := by
  obtain ⟨s, pt⟩ := h
  have haw := awakeC
  have hnew := rNewC
  have hHlt : ∀ x ∈ Hs, x < 4294967296 := Hs_lt
  have hsum := fun p bo c L w sm sb hl R hR => rSumC p Hs Ks hHlt bo c L w sm sb hl R hR
  have hl32 := fun l => sumS_len l
  have hdef : ∀ l, sumOf Hs Ks l = sumS l := fun l => rfl
  simp only [hdef] at hsum
  generalize Hs = H at *
  generalize Ks = K at *
  clear hdef hHlt
  go_enter Try.func3, Try.ntmps3
  go_wp2_with fail
  refine shortC lo cap vs ls 2000 (by omega) w s pt _ ?_
  intro b w1 hb g1
  cases b with
  | false =>
    go_wp2_with fail
    refine haw _ _ ?_
    intro w2 g2
    have hf := hR w2 (g1.trans g2)
    clear hR
    go_wp2_with fail
    exact hf
  | true =>
    have hle := hb rfl
    have hl1 : ls.length ≤ 1000000 := by omega
    have hl2 : ls.flatten.length ≤ 1000000 := by omega
    have hst := fun w' s' pt' => sumTop lo cap vs ls w' s' pt' hl1 hl2
    have hj := fun w' s' pt' => joinC lo cap vs ls w' s' pt' hl1 hl2
    obtain ⟨L, hL⟩ : ∃ L, L = ls.flatten := ⟨_, rfl⟩
    obtain ⟨S, hS⟩ : ∃ S, S = sumS L := ⟨_, rfl⟩
    have HS := Lib.hid hS
    simp only [← hL, ← hS] at hst hj hl2
    have hS32 : S.length = 32 := by rw [hS]; exact hl32 _
    have heq := eq_hash S S hS32 hS32
    rw [beq_self_eq_true] at heq
    clear hb hle hS hL hS32 hl32
    go_wp2_with fail
    refine hst w1 (s.grow g1) (pt.grow g1) _ ?_
    intro w2 g2
    have G2 := g1.trans g2
    clear g1 g2 hst
    go_wp2_with fail
    refine hnew _ _ ?_
    intro p w3 sm g3 _
    have G3 := G2.trans g3
    clear G2 g3 hnew
    go_wp2_with fail
    refine hj w3 (s.grow G3) (pt.grow G3) _ ?_
    intro ao c w4 o4 g4 _
    have G4 := G3.trans g4
    have sm4 : Sm w4 p H K := ⟨sm.1.keep (Keep.of_grow [] g4) (by simp), sm.2⟩
    have s4 := o4.sl
    clear G3 g4 sm o4 hj s pt
    go_wp2_with fail
    refine hsum p ao c L w4 sm4 s4 hl2 _ ?_
    intro w5 g5
    rw [← HS.out]
    have G5 := G4.trans g5
    clear G4 g5 sm4 s4 hsum
    go_wp2_with fail
    refine haw _ _ ?_
    intro w6 g6
    have hf := hR w6 (G5.trans g6)
    clear hR
    go_wp2_with fail
    exact hf
end Go.Proofs.Ytekfggeedljdkaa
