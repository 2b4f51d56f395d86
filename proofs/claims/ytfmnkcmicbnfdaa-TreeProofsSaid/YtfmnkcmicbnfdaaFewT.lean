/- Acts on a tree: are they looked at? -/
import Derived.Test.YtfmnkcmicbnfdaaActT
namespace Go.Proofs.Ytfmnkcmicbnfdaa
open Go Go.RowKit

set_option maxRecDepth 100000 in
set_option maxHeartbeats 1000000 in
theorem few20C (lo : Option Addr) (n cap : Nat) (l : List Ax) (hn : n = l.length) (w : World) (s : Sl w 3 lo n cap (l.flatMap axV)) (hg : ∀ a ∈ l, axG w a) (R : Ending → World → Prop) (hR : ∀ b w', (b = true → n ≤ 20 ∧ ∀ a ∈ l, a.text.length ≤ 200) → Grow w w' → R (.returned (.bool b)) w') :
    Calls Try.prog 41 #[.slice lo n cap] w R := by
  have hml : maxLen = 9223372036854775807 := rfl
  have hks := s.hle
  have hkm := s.hcap
  have Hn := Lib.hid hn
  have Hg := Lib.hid hg
  have hR0 := Lib.hid hR
  clear hn hg hR
  go_enter Try.func41, Try.ntmps41
  go_wp2_with fail
  go_loopw [3] (fun vi wr => ∃ i : Nat, vi = .int .i64 (i : Int) ∧ i ≤ n ∧ i ≤ 30 ∧ Hid (∀ j (hj : j < l.length), j < i → l[j].text.length ≤ 200) ∧ Grow w wr) (fun vi _ => n - (intOf vi).toNat)
  case atStart => exact ⟨0, by simp, by omega, by omega, Lib.hid (fun j _ h => by omega), Grow.refl _⟩
  case round =>
    obtain ⟨i, rfl, hi, hi3, hsm, g⟩ := hrel
    by_cases hlt : i < n
    · by_cases h30 : i < 30
      · have hil : i < l.length := by rw [← Hn.out]; exact hlt
        obtain ⟨gb, off, eg, hcs⟩ := (s.grow g).hat (by omega)
        subst eg
        have hci := cells_ax hcs i hil
        obtain ⟨a, ha⟩ : ∃ a, a = l[i] := ⟨_, rfl⟩
        have hga := (Hg.out a (by rw [ha]; exact List.getElem_mem hil)).grow g
        rw [← ha] at hci
        have c1 := hci.at (i := 2) rfl
        have hstep : a.text.length ≤ 200 → ∀ j (hj : j < l.length), j < i + 1 → l[j].text.length ≤ 200 := fun h j hj hji => by
          rcases Nat.lt_or_ge j i with h1 | h1
          · exact hsm.out j hj h1
          · obtain rfl : j = i := by omega
            rw [← ha]; exact h
        have Hstep := Lib.hid hstep
        have hw1 := hga.st.hcap
        have hw2 := hga.st.hle
        clear ha hcs hci hga hstep hsm
        by_cases hk : 200 < a.text.length
        · have hd1 : decide (200 < (a.text.length : Int)) = true := decide_eq_true (by omega)
          have hf := hR0.out false _ (fun e => by cases e) g
          go_wp2_with fail
          exact hf
        · have hd1 : decide (200 < (a.text.length : Int)) = false := decide_eq_false (by omega)
          have Hnx := Lib.hid (Hstep.out (by omega))
          clear Hstep
          go_wp2_with fail
          go_roundw
          case rel => exact ⟨i + 1, by go_num, by omega, by omega, Hnx, g⟩
          case measure => simp [intOf]; omega
      · have hd : decide ((n : Int) ≤ 20) = false := decide_eq_false (by omega)
        have hf := hR0.out false _ (fun e => by cases e) g
        go_wp2_with fail
        exact hf
    · obtain rfl : i = n := by omega
      have hf := hR0.out (decide ((i : Int) ≤ 20)) _ (fun e => ⟨by have := of_decide_eq_true e; omega, fun a ha => by
        obtain ⟨j, hj, rfl⟩ := List.mem_iff_getElem.1 ha
        exact hsm.out j hj (by rw [Hn.out]; exact hj)⟩) g
      go_wp2_with fail
      exact hf
end Go.Proofs.Ytfmnkcmicbnfdaa
