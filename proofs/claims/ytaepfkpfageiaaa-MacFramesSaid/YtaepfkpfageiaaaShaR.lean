/- sha.root. -/
import Derived.Test.YtaepfkpfageiaaaShaN
namespace Go.Proofs.Ytaepfkpfageiaaa
open Go Go.RowKit

/-- Digit by digit: the greatest x with x to the n at most lim. -/
def rootF (lim n : Nat) : Nat → Nat → Nat
  | 0, x => x
  | j + 1, x => if (x + 2 ^ j) ^ n ≤ lim then rootF lim n j (x + 2 ^ j) else rootF lim n j x

set_option maxRecDepth 100000 in
theorem root2 (p : Nat) (hp : p < 512) (w : World) (R : Ending → World → Prop) (hR : R (.returned (.int .u32 ((rootF (p * 18446744073709551616) 2 37 0 % 4294967296 : Nat) : Int))) w) :
    Calls Try.prog 85 #[.int .u64 (p : Int), .int .i64 2] w R := by
  obtain ⟨ab, hab⟩ : ∃ ab, ab = p * 1 := ⟨_, rfl⟩
  have hlim : p * 18446744073709551616 = ab * 18446744073709551616 := by omega
  rw [hlim] at hR
  have habl : ab < 512 * 1 := by omega
  have hap : (ab : Int) = (p : Int) * 1 := by omega
  obtain ⟨lim, hl⟩ : ∃ l, l = ab * 18446744073709551616 := ⟨_, rfl⟩
  rw [← hl] at hR
  have Hl := Lib.hid hl
  obtain ⟨r, hr⟩ : ∃ r, r = rootF lim 2 37 0 := ⟨_, rfl⟩
  rw [← hr] at hR
  have Hr := Lib.hid hr
  have Hap := Lib.hid hap
  clear hl hlim hab hr hap
  go_enter Try.func85, Try.ntmps85
  go_wp2_with fail
  rw [show ((p : Nat) : Int) = (ab : Int) by have := Hap.out; omega]
  go_loopw [6, 7] (fun vx vb wr => ∃ j x b : Nat, vx = .int .u64 (x : Int) ∧ vb = .int .u64 (b : Int) ∧ Hid (r = rootF lim 2 j x) ∧ Hid (b = 2 ^ j / 2) ∧ Hid (j ≤ 37 ∧ x + 2 ^ j ≤ 137438953472) ∧ wr = w) (fun _ vb _ => (intOf vb).toNat)
  case atStart => exact ⟨37, 0, 68719476736, by simp, by simp, Hr, Lib.hid (by decide), Lib.hid ⟨by omega, by decide⟩, rfl⟩
  case round =>
    obtain ⟨j, x, b, rfl, rfl, hrj, hbj, hxj, rfl⟩ := hrel
    cases j with
    | zero =>
      have hb0 : b = 0 := hbj.out
      have hrx : r = x := hrj.out
      subst hb0 hrx
      go_wp2_with fail
      rw [Int.natCast_emod] at hR
      exact hR
    | succ j =>
      have hb : b = 2 ^ j := by have := hbj.out; rw [Nat.pow_succ] at this; omega
      obtain ⟨hj37, hxb⟩ := hxj.out
      rw [Nat.pow_succ] at hxb
      rw [← hb] at hxb
      have hbp : 0 < b := by rw [hb]; exact Nat.two_pow_pos _
      have hpw := power2 (x + b) (by omega) wr
      have hrr := hrj.out
      rw [rootF, ← hb] at hrr
      obtain ⟨y, hy⟩ : ∃ y, y = (x + b) ^ 2 := ⟨_, rfl⟩
      rw [← hy] at hrr
      simp only [← hy] at hpw
      obtain ⟨hi, ehi⟩ : ∃ h, h = y / 18446744073709551616 := ⟨_, rfl⟩
      obtain ⟨lo, elo⟩ : ∃ h, h = y % 18446744073709551616 := ⟨_, rfl⟩
      simp only [← ehi, ← elo] at hpw
      have hbh : b / 2 = 2 ^ j / 2 := by rw [hb]
      by_cases hle : y ≤ lim
      · rw [if_pos hle] at hrr
        have hcond : hi < ab ∨ (¬ hi < ab ∧ hi = ab ∧ lo = 0) := by have := Hl.out; omega
        have h1 := Lib.hid hrr
        have h2 := Lib.hid hbh
        have h3 : Hid (j ≤ 37 ∧ (x + b) + 2 ^ j ≤ 137438953472) := Lib.hid ⟨by omega, by rw [← hb]; omega⟩
        have hbl : b ≤ 68719476736 := by omega
        clear ehi elo hy hrr hbh hb hle hrj hbj hxj
        rcases hcond with hc | ⟨hn, hc, hz⟩
        · go_wp2_with fail
          refine hpw _ ?_
          go_wp2_with fail
          go_roundw
          case rel => exact ⟨j, x + b, b / 2, by simp, by simp, h1, h2, h3, trivial⟩
          case measure => simp [intOf]; omega
        · subst hc hz
          go_wp2_with fail
          refine hpw _ ?_
          go_wp2_with fail
          go_roundw
          case rel => exact ⟨j, x + b, b / 2, by simp, by simp, h1, h2, h3, trivial⟩
          case measure => simp [intOf]; omega
      · rw [if_neg hle] at hrr
        have hcond : ¬ hi < ab ∧ (¬ hi = ab ∨ (hi = ab ∧ ¬ lo = 0)) := by have := Hl.out; omega
        have h1 := Lib.hid hrr
        have h2 := Lib.hid hbh
        have h3 : Hid (j ≤ 37 ∧ x + 2 ^ j ≤ 137438953472) := Lib.hid ⟨by omega, by rw [← hb]; omega⟩
        have hbl : b ≤ 68719476736 := by omega
        clear ehi elo hy hrr hbh hb hle hrj hbj hxj
        obtain ⟨hc1, hc2⟩ := hcond
        rcases hc2 with hc2 | ⟨hc3, hc2⟩
        · have hd : ((hi : Int) == (ab : Int)) = false := by simp; omega
          go_wp2_with fail
          refine hpw _ ?_
          go_wp2_with fail
          go_roundw
          case rel => exact ⟨j, x, b / 2, by simp, by simp, h1, h2, h3, trivial⟩
          case measure => simp [intOf]; omega
        · subst hc3
          have hd : ((lo : Int) == 0) = false := by simp; omega
          go_wp2_with fail
          refine hpw _ ?_
          go_wp2_with fail
          go_roundw
          case rel => exact ⟨j, x, b / 2, by simp, by simp, h1, h2, h3, trivial⟩
          case measure => simp [intOf]; omega

set_option maxRecDepth 100000 in
theorem root3 (p : Nat) (hp : p < 512) (w : World) (R : Ending → World → Prop) (hR : R (.returned (.int .u32 ((rootF (p * 79228162514264337593543950336) 3 37 0 % 4294967296 : Nat) : Int))) w) :
    Calls Try.prog 85 #[.int .u64 (p : Int), .int .i64 3] w R := by
  obtain ⟨ab, hab⟩ : ∃ ab, ab = p * 4294967296 := ⟨_, rfl⟩
  have hlim : p * 79228162514264337593543950336 = ab * 18446744073709551616 := by omega
  rw [hlim] at hR
  have habl : ab < 512 * 4294967296 := by omega
  have hap : (ab : Int) = (p : Int) * 4294967296 := by omega
  obtain ⟨lim, hl⟩ : ∃ l, l = ab * 18446744073709551616 := ⟨_, rfl⟩
  rw [← hl] at hR
  have Hl := Lib.hid hl
  obtain ⟨r, hr⟩ : ∃ r, r = rootF lim 3 37 0 := ⟨_, rfl⟩
  rw [← hr] at hR
  have Hr := Lib.hid hr
  have Hap := Lib.hid hap
  clear hl hlim hab hr hap
  go_enter Try.func85, Try.ntmps85
  go_wp2_with fail
  rw [← Hap.out]
  go_loopw [6, 7] (fun vx vb wr => ∃ j x b : Nat, vx = .int .u64 (x : Int) ∧ vb = .int .u64 (b : Int) ∧ Hid (r = rootF lim 3 j x) ∧ Hid (b = 2 ^ j / 2) ∧ Hid (j ≤ 37 ∧ x + 2 ^ j ≤ 137438953472) ∧ wr = w) (fun _ vb _ => (intOf vb).toNat)
  case atStart => exact ⟨37, 0, 68719476736, by simp, by simp, Hr, Lib.hid (by decide), Lib.hid ⟨by omega, by decide⟩, rfl⟩
  case round =>
    obtain ⟨j, x, b, rfl, rfl, hrj, hbj, hxj, rfl⟩ := hrel
    cases j with
    | zero =>
      have hb0 : b = 0 := hbj.out
      have hrx : r = x := hrj.out
      subst hb0 hrx
      go_wp2_with fail
      rw [Int.natCast_emod] at hR
      exact hR
    | succ j =>
      have hb : b = 2 ^ j := by have := hbj.out; rw [Nat.pow_succ] at this; omega
      obtain ⟨hj37, hxb⟩ := hxj.out
      rw [Nat.pow_succ] at hxb
      rw [← hb] at hxb
      have hbp : 0 < b := by rw [hb]; exact Nat.two_pow_pos _
      have hpw := power3 (x + b) (by omega) wr
      have hrr := hrj.out
      rw [rootF, ← hb] at hrr
      obtain ⟨y, hy⟩ : ∃ y, y = (x + b) ^ 3 := ⟨_, rfl⟩
      rw [← hy] at hrr
      simp only [← hy] at hpw
      obtain ⟨hi, ehi⟩ : ∃ h, h = y / 18446744073709551616 := ⟨_, rfl⟩
      obtain ⟨lo, elo⟩ : ∃ h, h = y % 18446744073709551616 := ⟨_, rfl⟩
      simp only [← ehi, ← elo] at hpw
      have hbh : b / 2 = 2 ^ j / 2 := by rw [hb]
      by_cases hle : y ≤ lim
      · rw [if_pos hle] at hrr
        have hcond : hi < ab ∨ (¬ hi < ab ∧ hi = ab ∧ lo = 0) := by have := Hl.out; omega
        have h1 := Lib.hid hrr
        have h2 := Lib.hid hbh
        have h3 : Hid (j ≤ 37 ∧ (x + b) + 2 ^ j ≤ 137438953472) := Lib.hid ⟨by omega, by rw [← hb]; omega⟩
        have hbl : b ≤ 68719476736 := by omega
        clear ehi elo hy hrr hbh hb hle hrj hbj hxj
        rcases hcond with hc | ⟨hn, hc, hz⟩
        · go_wp2_with fail
          refine hpw _ ?_
          go_wp2_with fail
          go_roundw
          case rel => exact ⟨j, x + b, b / 2, by simp, by simp, h1, h2, h3, trivial⟩
          case measure => simp [intOf]; omega
        · subst hc hz
          go_wp2_with fail
          refine hpw _ ?_
          go_wp2_with fail
          go_roundw
          case rel => exact ⟨j, x + b, b / 2, by simp, by simp, h1, h2, h3, trivial⟩
          case measure => simp [intOf]; omega
      · rw [if_neg hle] at hrr
        have hcond : ¬ hi < ab ∧ (¬ hi = ab ∨ (hi = ab ∧ ¬ lo = 0)) := by have := Hl.out; omega
        have h1 := Lib.hid hrr
        have h2 := Lib.hid hbh
        have h3 : Hid (j ≤ 37 ∧ x + 2 ^ j ≤ 137438953472) := Lib.hid ⟨by omega, by rw [← hb]; omega⟩
        have hbl : b ≤ 68719476736 := by omega
        clear ehi elo hy hrr hbh hb hle hrj hbj hxj
        obtain ⟨hc1, hc2⟩ := hcond
        rcases hc2 with hc2 | ⟨hc3, hc2⟩
        · have hd : ((hi : Int) == (ab : Int)) = false := by simp; omega
          go_wp2_with fail
          refine hpw _ ?_
          go_wp2_with fail
          go_roundw
          case rel => exact ⟨j, x, b / 2, by simp, by simp, h1, h2, h3, trivial⟩
          case measure => simp [intOf]; omega
        · subst hc3
          have hd : ((lo : Int) == 0) = false := by simp; omega
          go_wp2_with fail
          refine hpw _ ?_
          go_wp2_with fail
          go_roundw
          case rel => exact ⟨j, x, b / 2, by simp, by simp, h1, h2, h3, trivial⟩
          case measure => simp [intOf]; omega
end Go.Proofs.Ytaepfkpfageiaaa
