/- The document's square roots. -/
import Derived.Test.YtaepfkpfageiaaaShaR
import Derived.Laws.ShiftsVar
import Derived.Deep.DeepCutAuto
namespace Go.Proofs.Ytaepfkpfageiaaa
open Go Go.RowKit

theorem or_add (x j : Nat) (h : x % 2 ^ (j + 1) = 0) : x ||| 2 ^ j = x + 2 ^ j := by
  have hx : x = 2 ^ (j + 1) * (x / 2 ^ (j + 1)) := by have := Nat.div_add_mod x (2 ^ (j + 1)); omega
  have := Nat.two_pow_add_eq_or_of_lt (i := j + 1) (b := 2 ^ j) (Nat.pow_lt_pow_right (by decide) (by omega)) (x / 2 ^ (j + 1))
  rw [← hx] at this
  exact this.symm
theorem or_bit (x j : Nat) (hj : j ≤ 36) (hx : x < 137438953472) (h : x % 2 ^ (j + 1) = 0) : bits BinOp.or IntKind.u64 (x : Int) (IntKind.u64.wrap (2 ^ j)) = ((x + 2 ^ j : Nat) : Int) := by
  have hp : 2 ^ j ≤ 2 ^ 36 := Nat.pow_le_pow_right (by decide) hj
  have e : IntKind.u64.wrap (2 ^ j) = ((2 ^ j : Nat) : Int) := by
    rw [show (2 : Int) ^ j = ((2 ^ j : Nat) : Int) by simp]
    have : IntKind.u64.wrap ((2 ^ j : Nat) : Int) = ((2 ^ j : Nat) : Int) % 18446744073709551616 := by simp [IntKind.wrap, IntKind.bits, IntKind.signed]
    rw [this]; omega
  rw [e, u64_or_nat _ _ (by omega) (by omega), or_add x j h]
theorem mod_down (x j : Nat) (h : x % 2 ^ (j + 1) = 0) : x % 2 ^ j = 0 ∧ (x + 2 ^ j) % 2 ^ j = 0 := by
  have h1 : x % 2 ^ j = 0 := by
    rw [Nat.pow_succ] at h
    have : 2 ^ j ∣ x := Nat.dvd_trans (Nat.dvd_mul_right _ 2) (Nat.dvd_of_mod_eq_zero h)
    exact Nat.mod_eq_zero_of_dvd this
  exact ⟨h1, by rw [Nat.add_mod_right]; exact h1⟩
theorem and32 (y : Nat) (h : y < 18446744073709551616) : bits BinOp.and IntKind.u64 (y : Int) 4294967295 = ((y % 4294967296 : Nat) : Int) := by
  rw [show (4294967295 : Int) = ((4294967295 : Nat) : Int) from rfl, u64_and_nat _ _ h (by decide), show 4294967295 = 2 ^ 32 - 1 by decide, Nat.and_two_pow_sub_one_eq_mod]
/-- A square in two halves. -/
theorem sq_halves (y a b : Nat) (h : y = a * 4294967296 + b) : y ^ 2 = a * a * 18446744073709551616 + a * b * 8589934592 + b * b := by
  subst h
  rw [Nat.pow_two]
  simp only [Nat.add_mul, Nat.mul_add]
  have e1 : a * 4294967296 * (a * 4294967296) = a * a * 18446744073709551616 := by rw [Nat.mul_mul_mul_comm]
  have e2 : a * 4294967296 * b = a * b * 4294967296 := by rw [Nat.mul_right_comm]
  have e3 : b * (a * 4294967296) = a * b * 4294967296 := by rw [Nat.mul_comm b, Nat.mul_right_comm]
  rw [e1, e2, e3]; omega

set_option maxRecDepth 100000 in
set_option maxHeartbeats 4000000 in
theorem squareC (p : Nat) (hp : p < 512) (w : World) (R : Ending → World → Prop) (hR : R (.returned (.int .u32 ((rootF (p * 18446744073709551616) 2 37 0 % 4294967296 : Nat) : Int))) w) :
    Calls Try.prog 71 #[.int .u64 (p : Int)] w R := by
  obtain ⟨lim, hl⟩ : ∃ l, l = p * 18446744073709551616 := ⟨_, rfl⟩
  rw [← hl] at hR
  have Hl := Lib.hid hl
  obtain ⟨r, hr⟩ : ∃ r, r = rootF lim 2 37 0 := ⟨_, rfl⟩
  rw [← hr] at hR
  have Hr := Lib.hid hr
  clear hl hr
  go_enter Try.func71, Try.ntmps71
  go_wp2_with fail
  go_loopw [3, 4] (fun vx vb wr => ∃ j x : Nat, vx = .int .u64 (x : Int) ∧ vb = .int .i64 ((j : Int) - 1) ∧ Hid (r = rootF lim 2 j x) ∧ Hid (j ≤ 37 ∧ x + 2 ^ j ≤ 137438953472 ∧ x % 2 ^ j = 0) ∧ wr = w) (fun _ vb _ => (intOf vb + 1).toNat)
  case atStart => exact ⟨37, 0, by simp, by simp, Hr, Lib.hid (by decide), rfl⟩
  case round =>
    obtain ⟨j, x, rfl, rfl, hrj, hxj, rfl⟩ := hrel
    cases j with
    | zero =>
      have hrx : r = x := hrj.out
      have hx := hxj.out.2.1
      rw [show (((0 : Nat) : Int) - 1) = -1 by rfl]
      subst hrx
      clear hrj hxj
      go_wp2_with fail
      rw [Int.natCast_emod] at hR
      exact hR
    | succ j =>
      obtain ⟨hj37, hxb, hm⟩ := hxj.out
      have hj36 : j ≤ 36 := by omega
      rw [show (((j + 1 : Nat) : Int) - 1) = (j : Int) by omega]
      have hp2 : 0 < 2 ^ j := Nat.two_pow_pos j
      rw [Nat.pow_succ] at hxb
      have hor := Lib.hid (or_bit x j hj36 (by omega) hm)
      obtain ⟨hm1, hm2⟩ := mod_down x j hm
      have hrr := hrj.out
      rw [rootF] at hrr
      have hyes : (x + 2 ^ j) ^ 2 ≤ lim → Hid (r = rootF lim 2 j (x + 2 ^ j)) := fun h => Lib.hid (by rw [hrr, if_pos h])
      have hno : ¬ (x + 2 ^ j) ^ 2 ≤ lim → Hid (r = rootF lim 2 j x) := fun h => Lib.hid (by rw [hrr, if_neg h])
      have k1 : Hid (j ≤ 37 ∧ (x + 2 ^ j) + 2 ^ j ≤ 137438953472 ∧ (x + 2 ^ j) % 2 ^ j = 0) := Lib.hid ⟨by omega, by omega, hm2⟩
      have k2 : Hid (j ≤ 37 ∧ x + 2 ^ j ≤ 137438953472 ∧ x % 2 ^ j = 0) := Lib.hid ⟨by omega, by omega, hm1⟩
      go_upto_region 6 with (fail)
      simp only [hor.out]
      have hyl : x + 2 ^ j < 137438953472 := by omega
      clear hor hrr hm1 hm2 hrj hxj hxb hm hp2
      obtain ⟨y, hy⟩ : ∃ y, y = x + 2 ^ j := ⟨_, rfl⟩
      rw [← hy] at hyes hno k1 hyl ⊢
      have Hy := Lib.hid hy
      clear hy
      have e0 := and32 y (by omega)
      obtain ⟨a, ha⟩ : ∃ a, a = y / 4294967296 := ⟨_, rfl⟩
      obtain ⟨b, hb⟩ : ∃ b, b = y % 4294967296 := ⟨_, rfl⟩
      have hsq := sq_halves y a b (by omega)
      rw [← hb] at e0
      have ea : (y : Int) / 4294967296 = (a : Int) := by omega
      have hal : a < 32 := by omega
      have hbl : b < 4294967296 := by omega
      have haa : a * a ≤ 31 * 31 := Nat.mul_le_mul (by omega) (by omega)
      have hab : a * b ≤ 31 * 4294967295 := Nat.mul_le_mul (by omega) (by omega)
      have hbb : b * b ≤ 4294967295 * 4294967295 := Nat.mul_le_mul (by omega) (by omega)
      obtain ⟨aa, haae⟩ : ∃ aa, aa = a * a := ⟨_, rfl⟩
      obtain ⟨ab, habe⟩ : ∃ ab, ab = a * b := ⟨_, rfl⟩
      obtain ⟨bb, hbbe⟩ : ∃ bb, bb = b * b := ⟨_, rfl⟩
      have e1 : (a : Int) * (a : Int) = (aa : Int) := by rw [haae]; simp
      have e2 : (a : Int) * (b : Int) = (ab : Int) := by rw [habe]; simp
      have e3 : (b : Int) * (b : Int) = (bb : Int) := by rw [hbbe]; simp
      rw [← haae, ← habe, ← hbbe] at hsq
      rw [← haae] at haa
      rw [← habe] at hab
      rw [← hbbe] at hbb
      obtain ⟨c, hc⟩ : ∃ c, c = ab / 2147483648 := ⟨_, rfl⟩
      have e4 : (ab : Int) / 2147483648 = (c : Int) := by omega
      obtain ⟨h0, hh0⟩ : ∃ h0, h0 = aa + c := ⟨_, rfl⟩
      have e5 : (aa : Int) + (c : Int) = (h0 : Int) := by omega
      obtain ⟨lo, hlo⟩ : ∃ lo, lo = ab * 8589934592 % 18446744073709551616 := ⟨_, rfl⟩
      have e6 : IntKind.u64.wrap ((ab : Int) * 8589934592) = (lo : Int) := by
        have : IntKind.u64.wrap ((ab : Int) * 8589934592) = (ab : Int) * 8589934592 % 18446744073709551616 := by simp [IntKind.wrap, IntKind.bits, IntKind.signed]
        rw [this]; omega
      obtain ⟨s, hs⟩ : ∃ s, s = (lo + bb) % 18446744073709551616 := ⟨_, rfl⟩
      have e7 : IntKind.u64.wrap ((lo : Int) + (bb : Int)) = (s : Int) := by
        have : IntKind.u64.wrap ((lo : Int) + (bb : Int)) = ((lo : Int) + (bb : Int)) % 18446744073709551616 := by simp [IntKind.wrap, IntKind.bits, IntKind.signed]
        rw [this]; omega
      have hlol : lo < 18446744073709551616 := by omega
      have hsl : s < 18446744073709551616 := by omega
      have hh0l : h0 < 2000 := by omega
      have hcar : (s < lo ∧ y ^ 2 = (h0 + 1) * 18446744073709551616 + s) ∨ (¬ s < lo ∧ y ^ 2 = h0 * 18446744073709551616 + s) := by omega
      have hll := Hl.out
      generalize y ^ 2 = Y at *
      clear ha hb hsq haae habe hbbe hc hh0 hlo hs hal haa
      rcases hcar with ⟨hcar, hY⟩ | ⟨hcar, hY⟩
      · obtain ⟨hi, hhi⟩ : ∃ hi, hi = h0 + 1 := ⟨_, rfl⟩
        have e8 : (h0 : Int) + 1 = (hi : Int) := by omega
        rw [← hhi] at hY
        have hhl : hi < 2001 := by omega
        clear hhi
        by_cases hle : Y ≤ lim
        · have hd1 := hyes hle
          have hcond : hi < p ∨ (¬ hi < p ∧ hi = p ∧ s = 0) := by omega
          clear hll hY hle hyes hno
          rcases hcond with h1 | ⟨h1, h2, h3⟩
          · skip
            go_wp2_with fail
            all_goals
              go_roundw
              case rel => exact ⟨j, y, rfl, by simp, hd1, k1, trivial⟩
              case measure => simp [intOf]
          · subst h2 h3
            go_wp2_with fail
            all_goals
              go_roundw
              case rel => exact ⟨j, y, rfl, by simp, hd1, k1, trivial⟩
              case measure => simp [intOf]
        · have hd1 := hno hle
          have hcond : ¬ hi < p ∧ (¬ hi = p ∨ (hi = p ∧ ¬ s = 0)) := by omega
          clear hll hY hle hyes hno
          obtain ⟨h1, hcond⟩ := hcond
          rcases hcond with h2 | ⟨h2, h3⟩
          · have heq : ((hi : Int) == (p : Int)) = false := by simp; omega
            go_wp2_with fail
            all_goals
              go_roundw
              case rel => exact ⟨j, x, rfl, by simp, hd1, k2, trivial⟩
              case measure => simp [intOf]
          · subst h2
            have hz : ((s : Int) == 0) = false := by simp; omega
            go_wp2_with fail
            all_goals
              go_roundw
              case rel => exact ⟨j, x, rfl, by simp, hd1, k2, trivial⟩
              case measure => simp [intOf]
      · obtain ⟨hi, hhi⟩ : ∃ hi, hi = h0 := ⟨_, rfl⟩
        subst hhi
        by_cases hle : Y ≤ lim
        · have hd1 := hyes hle
          have hcond : hi < p ∨ (¬ hi < p ∧ hi = p ∧ s = 0) := by omega
          clear hll hY hle hyes hno
          rcases hcond with h1 | ⟨h1, h2, h3⟩
          · skip
            go_wp2_with fail
            all_goals
              go_roundw
              case rel => exact ⟨j, y, rfl, by simp, hd1, k1, trivial⟩
              case measure => simp [intOf]
          · subst h2 h3
            go_wp2_with fail
            all_goals
              go_roundw
              case rel => exact ⟨j, y, rfl, by simp, hd1, k1, trivial⟩
              case measure => simp [intOf]
        · have hd1 := hno hle
          have hcond : ¬ hi < p ∧ (¬ hi = p ∨ (hi = p ∧ ¬ s = 0)) := by omega
          clear hll hY hle hyes hno
          obtain ⟨h1, hcond⟩ := hcond
          rcases hcond with h2 | ⟨h2, h3⟩
          · have heq : ((hi : Int) == (p : Int)) = false := by simp; omega
            go_wp2_with fail
            all_goals
              go_roundw
              case rel => exact ⟨j, x, rfl, by simp, hd1, k2, trivial⟩
              case measure => simp [intOf]
          · subst h2
            have hz : ((s : Int) == 0) = false := by simp; omega
            go_wp2_with fail
            all_goals
              go_roundw
              case rel => exact ⟨j, x, rfl, by simp, hd1, k2, trivial⟩
              case measure => simp [intOf]
end Go.Proofs.Ytaepfkpfageiaaa
