/- sha: numbers: turning, products in two halves, roots. · sha: products in two halves, powers, roots. · sha.root. · sha.primes. · The document's primes. · The document's turn. · The document's square roots. -/
import Derived.Test.YtfmnkcmicbnfdaaGMem
import Derived.Test.YtfmnkcmicbnfdaaRows
import Derived.Laws.ShiftsVar
import Derived.WalkMore
import Derived.Deep.DeepCutAuto

namespace Go.Proofs.Ytfmnkcmicbnfdaa
open Go Go.RowKit

/-- Turned right by k digits. -/
def rotr (x k : Nat) : Nat := (x / 2 ^ k) ||| (x * 2 ^ (32 - k) % 4294967296)
theorem rotr_lt (x k : Nat) (hx : x < 4294967296) : rotr x k < 4294967296 :=
  Nat.or_lt_two_pow (n := 32) (Nat.lt_of_le_of_lt (Nat.div_le_self _ _) hx) (Nat.mod_lt _ (by decide))
theorem u32w (n : Int) : IntKind.u32.wrap n = n % 4294967296 := by simp [IntKind.wrap, IntKind.bits, IntKind.signed]
theorem rot_val (x k a b : Nat) (hx : x < 4294967296) (ha : a = 2 ^ (32 - k)) (hb : b = 2 ^ k) : bits BinOp.or IntKind.u32 ((x : Int) * (a : Int) % 4294967296) ((x : Int) / (b : Int)) = ((rotr x k : Nat) : Int) := by
  have e1 : (x : Int) * (a : Int) % 4294967296 = ((x * a % 4294967296 : Nat) : Int) := by simp
  have e2 : (x : Int) / (b : Int) = ((x / b : Nat) : Int) := by simp
  rw [e1, e2, u32_or_nat _ _ (Nat.mod_lt _ (by decide)) (Nat.lt_of_le_of_lt (Nat.div_le_self _ _) hx), Nat.or_comm, ha, hb]
  rfl
set_option maxRecDepth 100000 in
theorem rotC (x k : Nat) (hx : x < 4294967296) (hk : k ∈ [2, 6, 7, 11, 13, 17, 18, 19, 22, 25]) (w : World) (R : Ending → World → Prop) (hR : R (.returned (.int .u32 (rotr x k : Int))) w) :
    Calls Try.prog 120 #[.int .u32 (x : Int), .int .i64 (-(k : Int))] w R := by
  simp only [List.mem_cons, List.not_mem_nil, or_false] at hk
  rcases hk with rfl | rfl | rfl | rfl | rfl | rfl | rfl | rfl | rfl | rfl
  · have hs : bits BinOp.and IntKind.u64 (IntKind.u64.wrap (-2)) 31 = 30 := by decide
    have e : bits BinOp.or IntKind.u32 ((x : Int) * 1073741824 % 4294967296) ((x : Int) / 4) = ((rotr x 2 : Nat) : Int) := rot_val x 2 1073741824 4 hx rfl rfl
    rw [← e] at hR
    clear e
    go_enter Try.func120, Try.ntmps120
    go_wp2_with fail
    exact hR
  · have hs : bits BinOp.and IntKind.u64 (IntKind.u64.wrap (-6)) 31 = 26 := by decide
    have e : bits BinOp.or IntKind.u32 ((x : Int) * 67108864 % 4294967296) ((x : Int) / 64) = ((rotr x 6 : Nat) : Int) := rot_val x 6 67108864 64 hx rfl rfl
    rw [← e] at hR
    clear e
    go_enter Try.func120, Try.ntmps120
    go_wp2_with fail
    exact hR
  · have hs : bits BinOp.and IntKind.u64 (IntKind.u64.wrap (-7)) 31 = 25 := by decide
    have e : bits BinOp.or IntKind.u32 ((x : Int) * 33554432 % 4294967296) ((x : Int) / 128) = ((rotr x 7 : Nat) : Int) := rot_val x 7 33554432 128 hx rfl rfl
    rw [← e] at hR
    clear e
    go_enter Try.func120, Try.ntmps120
    go_wp2_with fail
    exact hR
  · have hs : bits BinOp.and IntKind.u64 (IntKind.u64.wrap (-11)) 31 = 21 := by decide
    have e : bits BinOp.or IntKind.u32 ((x : Int) * 2097152 % 4294967296) ((x : Int) / 2048) = ((rotr x 11 : Nat) : Int) := rot_val x 11 2097152 2048 hx rfl rfl
    rw [← e] at hR
    clear e
    go_enter Try.func120, Try.ntmps120
    go_wp2_with fail
    exact hR
  · have hs : bits BinOp.and IntKind.u64 (IntKind.u64.wrap (-13)) 31 = 19 := by decide
    have e : bits BinOp.or IntKind.u32 ((x : Int) * 524288 % 4294967296) ((x : Int) / 8192) = ((rotr x 13 : Nat) : Int) := rot_val x 13 524288 8192 hx rfl rfl
    rw [← e] at hR
    clear e
    go_enter Try.func120, Try.ntmps120
    go_wp2_with fail
    exact hR
  · have hs : bits BinOp.and IntKind.u64 (IntKind.u64.wrap (-17)) 31 = 15 := by decide
    have e : bits BinOp.or IntKind.u32 ((x : Int) * 32768 % 4294967296) ((x : Int) / 131072) = ((rotr x 17 : Nat) : Int) := rot_val x 17 32768 131072 hx rfl rfl
    rw [← e] at hR
    clear e
    go_enter Try.func120, Try.ntmps120
    go_wp2_with fail
    exact hR
  · have hs : bits BinOp.and IntKind.u64 (IntKind.u64.wrap (-18)) 31 = 14 := by decide
    have e : bits BinOp.or IntKind.u32 ((x : Int) * 16384 % 4294967296) ((x : Int) / 262144) = ((rotr x 18 : Nat) : Int) := rot_val x 18 16384 262144 hx rfl rfl
    rw [← e] at hR
    clear e
    go_enter Try.func120, Try.ntmps120
    go_wp2_with fail
    exact hR
  · have hs : bits BinOp.and IntKind.u64 (IntKind.u64.wrap (-19)) 31 = 13 := by decide
    have e : bits BinOp.or IntKind.u32 ((x : Int) * 8192 % 4294967296) ((x : Int) / 524288) = ((rotr x 19 : Nat) : Int) := rot_val x 19 8192 524288 hx rfl rfl
    rw [← e] at hR
    clear e
    go_enter Try.func120, Try.ntmps120
    go_wp2_with fail
    exact hR
  · have hs : bits BinOp.and IntKind.u64 (IntKind.u64.wrap (-22)) 31 = 10 := by decide
    have e : bits BinOp.or IntKind.u32 ((x : Int) * 1024 % 4294967296) ((x : Int) / 4194304) = ((rotr x 22 : Nat) : Int) := rot_val x 22 1024 4194304 hx rfl rfl
    rw [← e] at hR
    clear e
    go_enter Try.func120, Try.ntmps120
    go_wp2_with fail
    exact hR
  · have hs : bits BinOp.and IntKind.u64 (IntKind.u64.wrap (-25)) 31 = 7 := by decide
    have e : bits BinOp.or IntKind.u32 ((x : Int) * 128 % 4294967296) ((x : Int) / 33554432) = ((rotr x 25 : Nat) : Int) := rot_val x 25 128 33554432 hx rfl rfl
    rw [← e] at hR
    clear e
    go_enter Try.func120, Try.ntmps120
    go_wp2_with fail
    exact hR
-- END rotC
end Go.Proofs.Ytfmnkcmicbnfdaa

namespace Go.Proofs.Ytfmnkcmicbnfdaa
open Go Go.RowKit

theorem mask64 (x : Nat) (h : x < 18446744073709551616) : bits BinOp.and IntKind.u64 (x : Int) 4294967295 = ((x % 4294967296 : Nat) : Int) := by
  rw [show (4294967295 : Int) = ((4294967295 : Nat) : Int) from rfl, u64_and_nat _ _ h (by decide), show 4294967295 = 2 ^ 32 - 1 by decide, Nat.and_two_pow_sub_one_eq_mod]
theorem u64w (n : Int) : IntKind.u64.wrap n = n % 18446744073709551616 := by simp [IntKind.wrap, IntKind.bits, IntKind.signed]
theorem u64id (n : Nat) (h : n < 18446744073709551616) : IntKind.u64.wrap (n : Int) = (n : Int) := by rw [u64w]; omega
theorem prod_lt {a b : Nat} (ha : a < 4294967296) (hb : b < 4294967296) : a * b ≤ 18446744065119617025 := Nat.mul_le_mul (by omega : a ≤ 4294967295) (by omega : b ≤ 4294967295)
set_option maxRecDepth 100000 in
theorem mul64C (x y : Nat) (hx : x < 18446744073709551616) (hy : y < 18446744073709551616) (w : World) (R : Ending → World → Prop)
    (hR : R (.returned (.tuple #[.int .u64 ((x * y / 18446744073709551616 : Nat) : Int), .int .u64 ((x * y % 18446744073709551616 : Nat) : Int)])) w) :
    Calls Try.prog 125 #[.int .u64 (x : Int), .int .u64 (y : Int)] w R := by
  have mx := mask64 x hx
  have my := mask64 y hy
  have hxy : x * y = (x / 4294967296 * (y / 4294967296)) * 18446744073709551616 + (x / 4294967296 * (y % 4294967296) + x % 4294967296 * (y / 4294967296)) * 4294967296 + x % 4294967296 * (y % 4294967296) := by
    have ex : x = x / 4294967296 * 4294967296 + x % 4294967296 := by omega
    have ey : y = y / 4294967296 * 4294967296 + y % 4294967296 := by omega
    obtain ⟨a, ha⟩ : ∃ a, a = x / 4294967296 := ⟨_, rfl⟩
    obtain ⟨b, hb⟩ : ∃ b, b = x % 4294967296 := ⟨_, rfl⟩
    obtain ⟨c, hc⟩ : ∃ c, c = y / 4294967296 := ⟨_, rfl⟩
    obtain ⟨d, hd⟩ : ∃ d, d = y % 4294967296 := ⟨_, rfl⟩
    rw [← ha, ← hb, ← hc, ← hd]
    rw [← ha, ← hb] at ex
    rw [← hc, ← hd] at ey
    clear ha hb hc hd
    rw [ex, ey, Nat.add_mul, Nat.mul_add, Nat.mul_add, Nat.add_mul]
    rw [show a * 4294967296 * (c * 4294967296) = a * c * 18446744073709551616 by rw [Nat.mul_mul_mul_comm], show a * 4294967296 * d = a * d * 4294967296 by rw [Nat.mul_right_comm], ← Nat.mul_assoc b c]
    omega
  have l00 := prod_lt (Nat.mod_lt x (by decide : 0 < 4294967296)) (Nat.mod_lt y (by decide : 0 < 4294967296))
  have l10 := prod_lt (show x / 4294967296 < 4294967296 by omega) (Nat.mod_lt y (by decide : 0 < 4294967296))
  have l01 := prod_lt (Nat.mod_lt x (by decide : 0 < 4294967296)) (show y / 4294967296 < 4294967296 by omega)
  have l11 := prod_lt (show x / 4294967296 < 4294967296 by omega) (show y / 4294967296 < 4294967296 by omega)
  have f00 : IntKind.u64.wrap ((x : Int) % 4294967296 * ((y : Int) % 4294967296)) = ((x % 4294967296 * (y % 4294967296) : Nat) : Int) := by rw [← u64id _ (by omega : x % 4294967296 * (y % 4294967296) < 18446744073709551616)]; simp
  have f10 : IntKind.u64.wrap ((x : Int) / 4294967296 * ((y : Int) % 4294967296)) = ((x / 4294967296 * (y % 4294967296) : Nat) : Int) := by rw [← u64id _ (by omega : x / 4294967296 * (y % 4294967296) < 18446744073709551616)]; simp
  have f01 : IntKind.u64.wrap ((x : Int) % 4294967296 * ((y : Int) / 4294967296)) = ((x % 4294967296 * (y / 4294967296) : Nat) : Int) := by rw [← u64id _ (by omega : x % 4294967296 * (y / 4294967296) < 18446744073709551616)]; simp
  have f11 : IntKind.u64.wrap ((x : Int) / 4294967296 * ((y : Int) / 4294967296)) = ((x / 4294967296 * (y / 4294967296) : Nat) : Int) := by rw [← u64id _ (by omega : x / 4294967296 * (y / 4294967296) < 18446744073709551616)]; simp
  have flo : IntKind.u64.wrap ((x : Int) * (y : Int)) = ((x * y % 18446744073709551616 : Nat) : Int) := by rw [u64w]; simp
  obtain ⟨P00, e00⟩ : ∃ P, P = x % 4294967296 * (y % 4294967296) := ⟨_, rfl⟩
  obtain ⟨P10, e10⟩ : ∃ P, P = x / 4294967296 * (y % 4294967296) := ⟨_, rfl⟩
  obtain ⟨P01, e01⟩ : ∃ P, P = x % 4294967296 * (y / 4294967296) := ⟨_, rfl⟩
  obtain ⟨P11, e11⟩ : ∃ P, P = x / 4294967296 * (y / 4294967296) := ⟨_, rfl⟩
  rw [← e00] at l00 f00 hxy
  rw [← e10] at l10 f10 hxy
  rw [← e01] at l01 f01 hxy
  rw [← e11] at l11 f11 hxy
  clear e00 e10 e01 e11
  obtain ⟨LO, eLO⟩ : ∃ L, L = x * y % 18446744073709551616 := ⟨_, rfl⟩
  obtain ⟨HI, eHI⟩ : ∃ L, L = x * y / 18446744073709551616 := ⟨_, rfl⟩
  rw [← eLO] at flo hR
  rw [← eHI] at hR
  have hH : HI = P11 + (P10 + P00 / 4294967296) / 4294967296 + ((P10 + P00 / 4294967296) % 4294967296 + P01) / 4294967296 := by omega
  clear eLO eHI hxy
  have hT : P10 + P00 / 4294967296 < 18446744073709551616 := by omega
  have ft : bits BinOp.and IntKind.u64 ((P10 : Int) + (P00 : Int) / 4294967296) 4294967295 = ((P10 : Int) + (P00 : Int) / 4294967296) % 4294967296 := by
    have := mask64 _ hT
    simpa using this
  have eh : ((HI : Nat) : Int) = (P11 : Int) + ((P10 : Int) + (P00 : Int) / 4294967296) / 4294967296 + (((P10 : Int) + (P00 : Int) / 4294967296) % 4294967296 + (P01 : Int)) / 4294967296 := by omega
  rw [eh] at hR
  clear hH eh
  go_enter Try.func125, Try.ntmps125
  go_wp2_with fail
  exact hR

set_option maxRecDepth 100000 in
theorem power2 (x : Nat) (hx : x < 1099511627776) (w : World) (R : Ending → World → Prop)
    (hR : R (.returned (.tuple #[.int .u64 ((x ^ 2 / 18446744073709551616 : Nat) : Int), .int .u64 ((x ^ 2 % 18446744073709551616 : Nat) : Int)])) w) :
    Calls Try.prog 123 #[.int .u64 (x : Int), .int .i64 2] w R := by
  have hm := mul64C x x (by omega) (by omega) w
  rw [← Nat.pow_two] at hm
  obtain ⟨H, eH⟩ : ∃ L, L = x ^ 2 / 18446744073709551616 := ⟨_, rfl⟩
  obtain ⟨L, eL⟩ : ∃ L, L = x ^ 2 % 18446744073709551616 := ⟨_, rfl⟩
  rw [← eH, ← eL] at hR
  simp only [← eH, ← eL] at hm
  clear eH eL
  go_enter Try.func123, Try.ntmps123
  go_wp2_with fail
  refine hm _ ?_
  go_wp2_with fail
  exact hR
set_option maxRecDepth 100000 in
theorem power3 (x : Nat) (hx : x < 1099511627776) (w : World) (R : Ending → World → Prop)
    (hR : R (.returned (.tuple #[.int .u64 ((x ^ 3 / 18446744073709551616 : Nat) : Int), .int .u64 ((x ^ 3 % 18446744073709551616 : Nat) : Int)])) w) :
    Calls Try.prog 123 #[.int .u64 (x : Int), .int .i64 3] w R := by
  have hm := mul64C x x (by omega) (by omega) w
  have hxx : x * x ≤ 1099511627775 * 1099511627775 := Nat.mul_le_mul (by omega) (by omega)
  obtain ⟨H, eH⟩ : ∃ L, L = x * x / 18446744073709551616 := ⟨_, rfl⟩
  obtain ⟨L, eL⟩ : ∃ L, L = x * x % 18446744073709551616 := ⟨_, rfl⟩
  have hH : H ≤ 65535 := by omega
  have hL : L < 18446744073709551616 := by omega
  have h2 := mul64C L x hL (by omega) w
  have hx3 : x ^ 3 = H * x * 18446744073709551616 + L * x := by
    have : x * x = H * 18446744073709551616 + L := by omega
    rw [Nat.pow_succ, Nat.pow_two, this, Nat.add_mul, Nat.mul_right_comm]
  have hHx : H * x ≤ 65535 * 1099511627775 := Nat.mul_le_mul hH (by omega)
  have hLx : L * x ≤ 18446744073709551615 * 1099511627775 := Nat.mul_le_mul (by omega) (by omega)
  simp only [← eH, ← eL] at hm
  obtain ⟨M, eM⟩ : ∃ M, M = L * x / 18446744073709551616 := ⟨_, rfl⟩
  obtain ⟨N, eN⟩ : ∃ M, M = L * x % 18446744073709551616 := ⟨_, rfl⟩
  obtain ⟨Q, eQ⟩ : ∃ Q, Q = H * x := ⟨_, rfl⟩
  have e1 : ((x ^ 3 / 18446744073709551616 : Nat) : Int) = (Q : Int) + (M : Int) := by rw [← eQ] at hx3; omega
  have e2 : ((x ^ 3 % 18446744073709551616 : Nat) : Int) = (N : Int) := by rw [← eQ] at hx3; omega
  have hM : M ≤ 1099511627775 := by omega
  rw [e1, e2] at hR
  simp only [← eM, ← eN] at h2
  have fQ : IntKind.u64.wrap ((H : Int) * (x : Int)) = (Q : Int) := by
    rw [eQ, ← u64id _ (by omega : H * x < 18446744073709551616)]; simp
  have hQ : Q ≤ 65535 * 1099511627775 := by omega
  clear eH eL eM eN eQ e1 e2 hx3 hHx hLx hxx
  go_enter Try.func123, Try.ntmps123
  go_wp2_with fail
  refine hm _ ?_
  go_wp2_with fail
  refine h2 _ ?_
  go_wp2_with fail
  exact hR
end Go.Proofs.Ytfmnkcmicbnfdaa

namespace Go.Proofs.Ytfmnkcmicbnfdaa
open Go Go.RowKit

/-- Digit by digit: the greatest x with x to the n at most lim. -/
def rootF (lim n : Nat) : Nat → Nat → Nat
  | 0, x => x
  | j + 1, x => if (x + 2 ^ j) ^ n ≤ lim then rootF lim n j (x + 2 ^ j) else rootF lim n j x

set_option maxRecDepth 100000 in
theorem root2 (p : Nat) (hp : p < 512) (w : World) (R : Ending → World → Prop) (hR : R (.returned (.int .u32 ((rootF (p * 18446744073709551616) 2 37 0 % 4294967296 : Nat) : Int))) w) :
    Calls Try.prog 118 #[.int .u64 (p : Int), .int .i64 2] w R := by
  obtain ⟨ab, hab⟩ : ∃ ab, ab = p * 1 := ⟨_, rfl⟩
  have hlim : p * 18446744073709551616 = ab * 18446744073709551616 := by omega
  rw [hlim] at hR
  have habl : ab < 512 * 1 := by omega
  have hap : (ab : Int) = (p : Int) * 1 := by omega
  obtain ⟨lim, hl⟩ : ∃ l, l = ab * 18446744073709551616 := ⟨_, rfl⟩
  rw [← hl] at hR
  have Hl := Lib.hid hl
  obtain ⟨r, hr⟩ : ∃ r, r = rootF lim 2 37 0 := ⟨_, rfl⟩
  rw [← hr] at hR
  have Hr := Lib.hid hr
  have Hap := Lib.hid hap
  clear hl hlim hab hr hap
  go_enter Try.func118, Try.ntmps118
  go_wp2_with fail
  rw [show ((p : Nat) : Int) = (ab : Int) by have := Hap.out; omega]
  go_loopw [6, 7] (fun vx vb wr => ∃ j x b : Nat, vx = .int .u64 (x : Int) ∧ vb = .int .u64 (b : Int) ∧ Hid (r = rootF lim 2 j x) ∧ Hid (b = 2 ^ j / 2) ∧ Hid (j ≤ 37 ∧ x + 2 ^ j ≤ 137438953472) ∧ wr = w) (fun _ vb _ => (intOf vb).toNat)
  case atStart => exact ⟨37, 0, 68719476736, by simp, by simp, Hr, Lib.hid (by decide), Lib.hid ⟨by omega, by decide⟩, rfl⟩
  case round =>
    obtain ⟨j, x, b, rfl, rfl, hrj, hbj, hxj, rfl⟩ := hrel
    cases j with
    | zero =>
      have hb0 : b = 0 := hbj.out
      have hrx : r = x := hrj.out
      subst hb0 hrx
      go_wp2_with fail
      rw [Int.natCast_emod] at hR
      exact hR
    | succ j =>
      have hb : b = 2 ^ j := by have := hbj.out; rw [Nat.pow_succ] at this; omega
      obtain ⟨hj37, hxb⟩ := hxj.out
      rw [Nat.pow_succ] at hxb
      rw [← hb] at hxb
      have hbp : 0 < b := by rw [hb]; exact Nat.two_pow_pos _
      have hpw := power2 (x + b) (by omega) wr
      have hrr := hrj.out
      rw [rootF, ← hb] at hrr
      obtain ⟨y, hy⟩ : ∃ y, y = (x + b) ^ 2 := ⟨_, rfl⟩
      rw [← hy] at hrr
      simp only [← hy] at hpw
      obtain ⟨hi, ehi⟩ : ∃ h, h = y / 18446744073709551616 := ⟨_, rfl⟩
      obtain ⟨lo, elo⟩ : ∃ h, h = y % 18446744073709551616 := ⟨_, rfl⟩
      simp only [← ehi, ← elo] at hpw
      have hbh : b / 2 = 2 ^ j / 2 := by rw [hb]
      by_cases hle : y ≤ lim
      · rw [if_pos hle] at hrr
        have hcond : hi < ab ∨ (¬ hi < ab ∧ hi = ab ∧ lo = 0) := by have := Hl.out; omega
        have h1 := Lib.hid hrr
        have h2 := Lib.hid hbh
        have h3 : Hid (j ≤ 37 ∧ (x + b) + 2 ^ j ≤ 137438953472) := Lib.hid ⟨by omega, by rw [← hb]; omega⟩
        have hbl : b ≤ 68719476736 := by omega
        clear ehi elo hy hrr hbh hb hle hrj hbj hxj
        rcases hcond with hc | ⟨hn, hc, hz⟩
        · go_wp2_with fail
          refine hpw _ ?_
          go_wp2_with fail
          go_roundw
          case rel => exact ⟨j, x + b, b / 2, by simp, by simp, h1, h2, h3, trivial⟩
          case measure => simp [intOf]; omega
        · subst hc hz
          go_wp2_with fail
          refine hpw _ ?_
          go_wp2_with fail
          go_roundw
          case rel => exact ⟨j, x + b, b / 2, by simp, by simp, h1, h2, h3, trivial⟩
          case measure => simp [intOf]; omega
      · rw [if_neg hle] at hrr
        have hcond : ¬ hi < ab ∧ (¬ hi = ab ∨ (hi = ab ∧ ¬ lo = 0)) := by have := Hl.out; omega
        have h1 := Lib.hid hrr
        have h2 := Lib.hid hbh
        have h3 : Hid (j ≤ 37 ∧ x + 2 ^ j ≤ 137438953472) := Lib.hid ⟨by omega, by rw [← hb]; omega⟩
        have hbl : b ≤ 68719476736 := by omega
        clear ehi elo hy hrr hbh hb hle hrj hbj hxj
        obtain ⟨hc1, hc2⟩ := hcond
        rcases hc2 with hc2 | ⟨hc3, hc2⟩
        · have hd : ((hi : Int) == (ab : Int)) = false := by simp; omega
          go_wp2_with fail
          refine hpw _ ?_
          go_wp2_with fail
          go_roundw
          case rel => exact ⟨j, x, b / 2, by simp, by simp, h1, h2, h3, trivial⟩
          case measure => simp [intOf]; omega
        · subst hc3
          have hd : ((lo : Int) == 0) = false := by simp; omega
          go_wp2_with fail
          refine hpw _ ?_
          go_wp2_with fail
          go_roundw
          case rel => exact ⟨j, x, b / 2, by simp, by simp, h1, h2, h3, trivial⟩
          case measure => simp [intOf]; omega

set_option maxRecDepth 100000 in
theorem root3 (p : Nat) (hp : p < 512) (w : World) (R : Ending → World → Prop) (hR : R (.returned (.int .u32 ((rootF (p * 79228162514264337593543950336) 3 37 0 % 4294967296 : Nat) : Int))) w) :
    Calls Try.prog 118 #[.int .u64 (p : Int), .int .i64 3] w R := by
  obtain ⟨ab, hab⟩ : ∃ ab, ab = p * 4294967296 := ⟨_, rfl⟩
  have hlim : p * 79228162514264337593543950336 = ab * 18446744073709551616 := by omega
  rw [hlim] at hR
  have habl : ab < 512 * 4294967296 := by omega
  have hap : (ab : Int) = (p : Int) * 4294967296 := by omega
  obtain ⟨lim, hl⟩ : ∃ l, l = ab * 18446744073709551616 := ⟨_, rfl⟩
  rw [← hl] at hR
  have Hl := Lib.hid hl
  obtain ⟨r, hr⟩ : ∃ r, r = rootF lim 3 37 0 := ⟨_, rfl⟩
  rw [← hr] at hR
  have Hr := Lib.hid hr
  have Hap := Lib.hid hap
  clear hl hlim hab hr hap
  go_enter Try.func118, Try.ntmps118
  go_wp2_with fail
  rw [← Hap.out]
  go_loopw [6, 7] (fun vx vb wr => ∃ j x b : Nat, vx = .int .u64 (x : Int) ∧ vb = .int .u64 (b : Int) ∧ Hid (r = rootF lim 3 j x) ∧ Hid (b = 2 ^ j / 2) ∧ Hid (j ≤ 37 ∧ x + 2 ^ j ≤ 137438953472) ∧ wr = w) (fun _ vb _ => (intOf vb).toNat)
  case atStart => exact ⟨37, 0, 68719476736, by simp, by simp, Hr, Lib.hid (by decide), Lib.hid ⟨by omega, by decide⟩, rfl⟩
  case round =>
    obtain ⟨j, x, b, rfl, rfl, hrj, hbj, hxj, rfl⟩ := hrel
    cases j with
    | zero =>
      have hb0 : b = 0 := hbj.out
      have hrx : r = x := hrj.out
      subst hb0 hrx
      go_wp2_with fail
      rw [Int.natCast_emod] at hR
      exact hR
    | succ j =>
      have hb : b = 2 ^ j := by have := hbj.out; rw [Nat.pow_succ] at this; omega
      obtain ⟨hj37, hxb⟩ := hxj.out
      rw [Nat.pow_succ] at hxb
      rw [← hb] at hxb
      have hbp : 0 < b := by rw [hb]; exact Nat.two_pow_pos _
      have hpw := power3 (x + b) (by omega) wr
      have hrr := hrj.out
      rw [rootF, ← hb] at hrr
      obtain ⟨y, hy⟩ : ∃ y, y = (x + b) ^ 3 := ⟨_, rfl⟩
      rw [← hy] at hrr
      simp only [← hy] at hpw
      obtain ⟨hi, ehi⟩ : ∃ h, h = y / 18446744073709551616 := ⟨_, rfl⟩
      obtain ⟨lo, elo⟩ : ∃ h, h = y % 18446744073709551616 := ⟨_, rfl⟩
      simp only [← ehi, ← elo] at hpw
      have hbh : b / 2 = 2 ^ j / 2 := by rw [hb]
      by_cases hle : y ≤ lim
      · rw [if_pos hle] at hrr
        have hcond : hi < ab ∨ (¬ hi < ab ∧ hi = ab ∧ lo = 0) := by have := Hl.out; omega
        have h1 := Lib.hid hrr
        have h2 := Lib.hid hbh
        have h3 : Hid (j ≤ 37 ∧ (x + b) + 2 ^ j ≤ 137438953472) := Lib.hid ⟨by omega, by rw [← hb]; omega⟩
        have hbl : b ≤ 68719476736 := by omega
        clear ehi elo hy hrr hbh hb hle hrj hbj hxj
        rcases hcond with hc | ⟨hn, hc, hz⟩
        · go_wp2_with fail
          refine hpw _ ?_
          go_wp2_with fail
          go_roundw
          case rel => exact ⟨j, x + b, b / 2, by simp, by simp, h1, h2, h3, trivial⟩
          case measure => simp [intOf]; omega
        · subst hc hz
          go_wp2_with fail
          refine hpw _ ?_
          go_wp2_with fail
          go_roundw
          case rel => exact ⟨j, x + b, b / 2, by simp, by simp, h1, h2, h3, trivial⟩
          case measure => simp [intOf]; omega
      · rw [if_neg hle] at hrr
        have hcond : ¬ hi < ab ∧ (¬ hi = ab ∨ (hi = ab ∧ ¬ lo = 0)) := by have := Hl.out; omega
        have h1 := Lib.hid hrr
        have h2 := Lib.hid hbh
        have h3 : Hid (j ≤ 37 ∧ x + 2 ^ j ≤ 137438953472) := Lib.hid ⟨by omega, by rw [← hb]; omega⟩
        have hbl : b ≤ 68719476736 := by omega
        clear ehi elo hy hrr hbh hb hle hrj hbj hxj
        obtain ⟨hc1, hc2⟩ := hcond
        rcases hc2 with hc2 | ⟨hc3, hc2⟩
        · have hd : ((hi : Int) == (ab : Int)) = false := by simp; omega
          go_wp2_with fail
          refine hpw _ ?_
          go_wp2_with fail
          go_roundw
          case rel => exact ⟨j, x, b / 2, by simp, by simp, h1, h2, h3, trivial⟩
          case measure => simp [intOf]; omega
        · subst hc3
          have hd : ((lo : Int) == 0) = false := by simp; omega
          go_wp2_with fail
          refine hpw _ ?_
          go_wp2_with fail
          go_roundw
          case rel => exact ⟨j, x, b / 2, by simp, by simp, h1, h2, h3, trivial⟩
          case measure => simp [intOf]; omega
end Go.Proofs.Ytfmnkcmicbnfdaa

namespace Go.Proofs.Ytfmnkcmicbnfdaa
open Go Go.RowKit

theorem TU64 : ST Try.prog 170 97 1 8 := ST.mk' (z := .int .u64 0) Try.underlying170 (by kernel_rfl) rfl (by decide)
/-- The primes below k. -/
def pl : Nat → List Nat
  | 0 => []
  | k + 1 => if 2 ≤ k ∧ (pl k).all (fun q => k % q != 0) = true then pl k ++ [k] else pl k
theorem pl_ge : ∀ k, ∀ x ∈ pl k, 2 ≤ x ∧ x < k
  | 0, x, h => by simp [pl] at h
  | k + 1, x, h => by
    rw [pl] at h
    split at h
    · rename_i hc
      rcases List.mem_append.1 h with h | h
      · have := pl_ge k x h; omega
      · simp at h; omega
    · have := pl_ge k x h; omega
theorem pl_mono : ∀ k, ∃ l, pl (k + 1) = pl k ++ l := fun k => by
  rw [pl]; split
  · exact ⟨[k], rfl⟩
  · exact ⟨[], by simp⟩
theorem pl_pre (k : Nat) : ∀ d, ∃ l, pl (k + d) = pl k ++ l
  | 0 => ⟨[], by simp⟩
  | d + 1 => by
    obtain ⟨l, h⟩ := pl_pre k d
    obtain ⟨l', h'⟩ := pl_mono (k + d)
    exact ⟨l ++ l', by rw [← Nat.add_assoc, h', h, List.append_assoc]⟩
def V64 (k : Nat) : Value := .int .u64 (k : Int)

set_option maxRecDepth 100000 in
set_option maxHeartbeats 1000000 in
theorem primesC (n : Nat) (hn : n ≤ 64) (h64 : (pl 312).length = 64) (w : World) (R : Ending → World → Prop)
    (hR : ∀ ao cap w', Own w' 97 1 ao n cap (((pl 312).take n).map V64) → Grow w w' → (∀ g ∈ blk ao, w.heap.size ≤ g) → R (.returned (.slice ao n cap)) w') :
    Calls Try.prog 117 #[.int .i64 (n : Int)] w R := by
  have hml : maxLen = 9223372036854775807 := rfl
  have hpre := fun p (hp : p ≤ 312) => pl_pre p (312 - p)
  obtain ⟨Z, hZ⟩ : ∃ Z, Z = pl 312 := ⟨_, rfl⟩
  have hpz : ∀ p, p ≤ 312 → ∃ l, Z = pl p ++ l := fun p hp => by
    obtain ⟨l, h⟩ := hpre p hp
    rw [show p + (312 - p) = 312 by omega] at h
    exact ⟨l, by rw [hZ, h]⟩
  rw [← hZ] at h64 hR
  have hZ312 : pl 312 = Z := hZ.symm
  have HZ := Lib.hid hZ312
  clear hZ hpre hZ312
  go_enter Try.func117, Try.ntmps117
  go_wp2_with fail
  go_step3
  go_wp2_with fail
  go_step3
  go_wp2_with fail
  go_loopw [2, 3] (fun o vp wr => ∃ (p : Nat) (L : List Nat) (ao : Option Addr) (cap : Nat), vp = .int .u64 (p : Int) ∧ o = .slice ao L.length cap ∧ Hid (L = pl p) ∧ 2 ≤ p ∧ p ≤ 312 ∧ L.length ≤ n ∧ Own wr 97 1 ao L.length cap (L.map V64) ∧ Grow w wr ∧ (∀ g ∈ blk ao, w.heap.size ≤ g)) (fun _ vp _ => 312 - (intOf vp).toNat)
  case atStart => exact ⟨2, [], none, 0, rfl, rfl, Lib.hid (by decide), by omega, by omega, by simp, Own.none _ _ _, Grow.refl _, by simp [blk]⟩
  case round =>
    obtain ⟨p, L, ao, cap, rfl, rfl, hL, hp2, hp, hLn, ho, hg, hb⟩ := hrel
    by_cases hlt : L.length < n
    · have hp312 : p < 312 := by
        apply Nat.lt_of_le_of_ne hp
        intro e
        subst e
        have := hL.out
        rw [HZ.out] at this
        subst this
        omega
      have hge : ∀ i (h : i < L.length), 2 ≤ L[i] ∧ L[i] < p := fun i h => by
        have hm : L[i] ∈ L := List.getElem_mem h
        have he : ∀ x ∈ L, 2 ≤ x ∧ x < p := by rw [hL.out]; exact pl_ge p
        exact he _ hm
      go_wp2_with fail
      go_loopw [14] (fun vj wr2 => ∃ j : Nat, vj = .int .i64 (j : Int) ∧ j ≤ L.length ∧ Hid (∀ i (h : i < L.length), i < j → p % L[i] ≠ 0) ∧ wr2 = wr) (fun vj _ => L.length - (intOf vj).toNat)
      case atStart => exact ⟨0, by simp, by omega, Lib.hid (fun i h hi => by omega), rfl⟩
      case round =>
        obtain ⟨j, rfl, hj, hno, rfl⟩ := hrel
        by_cases hjl : j < L.length
        · obtain ⟨g, off, eg, hcs⟩ := ho.sl.hat (by omega)
          subst eg
          have c1 := hcs.at (i := j) (v := V64 L[j]) (by simp [hjl])
          simp only [V64] at c1
          obtain ⟨hq2, hqp⟩ := hge j hjl
          by_cases hdiv : p % L[j] = 0
          · have hskip : Hid (L = pl (p + 1)) := Lib.hid (by
              rw [pl, if_neg]
              · exact hL.out
              · rintro ⟨-, hall⟩
                rw [← hL.out, List.all_eq_true] at hall
                have := hall _ (List.getElem_mem hjl)
                simp [hdiv] at this)
            have hd : ((p : Int) % (L[j] : Nat) == 0) = true := by simp; omega
            obtain ⟨y, hy⟩ : ∃ y, y = L[j] := ⟨_, rfl⟩
            rw [← hy] at c1 hq2 hqp hdiv hd
            clear hy hno hcs hge
            go_wp2_with fail
            exact ⟨⟨p + 1, L, _, cap, by simp, rfl, hskip, by omega, by omega, hLn, ho, hg, hb⟩, by simp [intOf]; omega⟩
          · have hno2 : Hid (∀ i (h : i < L.length), i < j + 1 → p % L[i] ≠ 0) := Lib.hid (fun i h hi => by
              by_cases e : i = j
              · subst e; exact hdiv
              · exact hno.out i h (by omega))
            have hd : ((p : Int) % (L[j] : Nat) == 0) = false := by simp; omega
            obtain ⟨y, hy⟩ : ∃ y, y = L[j] := ⟨_, rfl⟩
            rw [← hy] at c1 hq2 hqp hdiv hd
            clear hy hno hcs hge
            go_wp2_with fail
            go_roundw
            case rel => exact ⟨j + 1, by go_num, by omega, hno2, trivial⟩
            case measure => simp [intOf]; omega
        · have htake : Hid (L ++ [p] = pl (p + 1)) := Lib.hid (by
            rw [pl, if_pos]
            · rw [← hL.out]
            · refine ⟨hp2, ?_⟩
              rw [← hL.out, List.all_eq_true]
              intro q hq
              obtain ⟨i, hi, rfl⟩ := List.getElem_of_mem hq
              have := hno.out i hi (by omega)
              simpa using this)
          clear hno hge
          go_wp2_with (at_builtin; refine wpList_app TU64 rfl rfl (ho.grow (Grow.alloc _ _)) (Own.made (n := 1) (heap_alloc_new _ _) rfl (by decide) (by simp [Value.oneCell'])).sl (by omega) (by omega) ?_; intro ao' cap' w9 hown _ hkeep hblk)
          have hka := (Keep.alloc (blk ao) wr (.cells #[.int .u64 (p : Int)] 97)).trans hkeep
          have hgr := hg.then hka hb
          refine ⟨⟨p + 1, L ++ [p], ao', cap', by simp, by simp, htake, by omega, by omega, by simp; omega, by simpa [V64] using hown, hgr, fun g h => ?_⟩, by simp [intOf]; omega⟩
          rcases hblk g h with h | h
          · exact hb g h
          · have := hg.size
            have h2 : (wr.alloc (.cells #[.int .u64 (p : Int)] 97)).heap.size = wr.heap.size + 1 := Array.size_push _
            omega
    · have hLn' : L.length = n := by omega
      obtain ⟨l, hl⟩ := hpz p hp
      have htk : Z.take n = L := by rw [hl, ← hL.out, ← hLn']; simp
      rw [htk] at hR
      subst hLn'
      clear hl
      go_wp2_with fail
      exact hR _ _ _ ho hg hb
theorem pl312 : (pl 312).length = 64 := by decide +kernel
end Go.Proofs.Ytfmnkcmicbnfdaa

namespace Go.Proofs.Ytfmnkcmicbnfdaa
open Go Go.RowKit

set_option maxRecDepth 100000 in
set_option maxHeartbeats 1000000 in
theorem rPrimesC (n : Nat) (hn : n ≤ 64) (h64 : (pl 312).length = 64) (w : World) (R : Ending → World → Prop)
    (hR : ∀ ao cap w', Own w' 97 1 ao n cap (((pl 312).take n).map V64) → Grow w w' → (∀ g ∈ blk ao, w.heap.size ≤ g) → R (.returned (.slice ao n cap)) w') :
    Calls Try.prog 99 #[.int .i64 (n : Int)] w R := by
  have hml : maxLen = 9223372036854775807 := rfl
  have hpre := fun p (hp : p ≤ 312) => pl_pre p (312 - p)
  obtain ⟨Z, hZ⟩ : ∃ Z, Z = pl 312 := ⟨_, rfl⟩
  have hpz : ∀ p, p ≤ 312 → ∃ l, Z = pl p ++ l := fun p hp => by
    obtain ⟨l, h⟩ := hpre p hp
    rw [show p + (312 - p) = 312 by omega] at h
    exact ⟨l, by rw [hZ, h]⟩
  rw [← hZ] at h64 hR
  have hZ312 : pl 312 = Z := hZ.symm
  have HZ := Lib.hid hZ312
  clear hZ hpre hZ312
  go_enter Try.func99, Try.ntmps99
  go_wp2_with fail
  go_loopw [3, 4] (fun o vp wr => ∃ (p : Nat) (L : List Nat) (ao : Option Addr) (cap : Nat), vp = .int .u64 (p : Int) ∧ o = .slice ao L.length cap ∧ Hid (L = pl p) ∧ 2 ≤ p ∧ p ≤ 312 ∧ L.length ≤ n ∧ Own wr 97 1 ao L.length cap (L.map V64) ∧ Grow w wr ∧ (∀ g ∈ blk ao, w.heap.size ≤ g)) (fun _ vp _ => 312 - (intOf vp).toNat)
  case atStart => exact ⟨2, [], none, 0, rfl, rfl, Lib.hid (by decide), by omega, by omega, by simp, Own.none _ _ _, Grow.refl _, by simp [blk]⟩
  case round =>
    obtain ⟨p, L, ao, cap, rfl, rfl, hL, hp2, hp, hLn, ho, hg, hb⟩ := hrel
    by_cases hlt : L.length < n
    · have hp312 : p < 312 := by
        apply Nat.lt_of_le_of_ne hp
        intro e
        subst e
        have := hL.out
        rw [HZ.out] at this
        subst this
        omega
      have hge : ∀ i (h : i < L.length), 2 ≤ L[i] ∧ L[i] < p := fun i h => by
        have hm : L[i] ∈ L := List.getElem_mem h
        have he : ∀ x ∈ L, 2 ≤ x ∧ x < p := by rw [hL.out]; exact pl_ge p
        exact he _ hm
      go_wp2_with fail
      go_loopw [5, 6] (fun vb vj wr2 => ∃ (j : Nat) (b : Bool), vj = .int .i64 (j : Int) ∧ vb = .bool b ∧ j ≤ L.length ∧ Hid (b = (L.take j).all (fun q => p % q != 0)) ∧ wr2 = wr) (fun _ vj _ => L.length - (intOf vj).toNat)
      case atStart => exact ⟨0, true, by simp, rfl, by omega, Lib.hid (by simp), rfl⟩
      case round =>
        obtain ⟨j, b, rfl, rfl, hj, hno, rfl⟩ := hrel
        by_cases hjl : j < L.length
        · obtain ⟨g, off, eg, hcs⟩ := ho.sl.hat (by omega)
          subst eg
          have c1 := hcs.at (i := j) (v := V64 L[j]) (by simp [hjl])
          simp only [V64] at c1
          obtain ⟨hq2, hqp⟩ := hge j hjl
          have hnx : (L.take (j + 1)).all (fun q => p % q != 0) = ((L.take j).all (fun q => p % q != 0) && p % L[j] != 0) := by
            rw [List.take_add_one, List.getElem?_eq_getElem hjl, List.all_append]; simp
          rw [← hno.out] at hnx
          cases b with
          | false =>
            have hn2 : Hid (false = (L.take (j + 1)).all (fun q => p % q != 0)) := Lib.hid (by rw [hnx]; rfl)
            clear hnx hno hcs hge c1
            go_wp2_with fail
            go_roundw
            case rel => exact ⟨j + 1, false, by go_num, rfl, by omega, hn2, trivial⟩
            case measure => simp [intOf]; omega
          | true =>
            by_cases hdiv : p % L[j] = 0
            · have hn2 : Hid (false = (L.take (j + 1)).all (fun q => p % q != 0)) := Lib.hid (by rw [hnx, hdiv]; rfl)
              have hd : ((p : Int) % (L[j] : Nat) == 0) = true := by simp; omega
              have hd2 : ((p : Int) % (L[j] : Nat) != 0) = false := by simp; omega
              obtain ⟨y, hy⟩ : ∃ y, y = L[j] := ⟨_, rfl⟩
              rw [← hy] at c1 hq2 hqp hdiv hd hd2
              clear hy hno hcs hge hnx
              go_wp2_with fail
              go_roundw
              case rel => exact ⟨j + 1, false, by go_num, rfl, by omega, hn2, trivial⟩
              case measure => simp [intOf]; omega
            · have hn2 : Hid (true = (L.take (j + 1)).all (fun q => p % q != 0)) := Lib.hid (by rw [hnx]; simp [hdiv])
              have hd : ((p : Int) % (L[j] : Nat) == 0) = false := by simp; omega
              have hd2 : ((p : Int) % (L[j] : Nat) != 0) = true := by simp; omega
              obtain ⟨y, hy⟩ : ∃ y, y = L[j] := ⟨_, rfl⟩
              rw [← hy] at c1 hq2 hqp hdiv hd hd2
              clear hy hno hcs hge hnx
              go_wp2_with fail
              go_roundw
              case rel => exact ⟨j + 1, true, by go_num, rfl, by omega, hn2, trivial⟩
              case measure => simp [intOf]; omega
        · obtain rfl : j = L.length := by omega
          have hall := hno.out
          rw [List.take_of_length_le (Nat.le_refl _)] at hall
          clear hno hge
          cases b with
          | true =>
            have htake : Hid (L ++ [p] = pl (p + 1)) := Lib.hid (by
              rw [pl, if_pos]
              · rw [← hL.out]
              · exact ⟨hp2, by rw [← hL.out]; exact hall.symm⟩)
            clear hall
            go_wp2_with (at_builtin; refine wpList_app TU64 rfl rfl (ho.grow (Grow.alloc _ _)) (Own.made (n := 1) (heap_alloc_new _ _) rfl (by decide) (by simp [Value.oneCell'])).sl (by omega) (by omega) ?_; intro ao' cap' w9 hown _ hkeep hblk)
            have hka := (Keep.alloc (blk ao) wr (.cells #[.int .u64 (p : Int)] 97)).trans hkeep
            have hgr := hg.then hka hb
            go_roundw
            case rel =>
              refine ⟨p + 1, L ++ [p], ao', cap', by go_num, by simp, htake, by omega, by omega, by simp; omega, by simpa [V64] using hown, hgr, fun g h => ?_⟩
              rcases hblk g h with h | h
              · exact hb g h
              · have := hg.size
                have h2 : (wr.alloc (.cells #[.int .u64 (p : Int)] 97)).heap.size = wr.heap.size + 1 := Array.size_push _
                omega
            case measure => simp [intOf]; omega
          | false =>
            have hskip : Hid (L = pl (p + 1)) := Lib.hid (by
              rw [pl, if_neg]
              · exact hL.out
              · rintro ⟨-, hall2⟩
                rw [← hL.out, ← hall] at hall2
                cases hall2)
            clear hall
            go_wp2_with fail
            go_roundw
            case rel => exact ⟨p + 1, L, _, cap, by go_num, rfl, hskip, by omega, by omega, hLn, ho, hg, hb⟩
            case measure => simp [intOf]; omega
    · have hLn' : L.length = n := by omega
      obtain ⟨l, hl⟩ := hpz p hp
      have htk : Z.take n = L := by rw [hl, ← hL.out, ← hLn']; simp
      rw [htk] at hR
      subst hLn'
      clear hl
      go_wp2_with fail
      exact hR _ _ _ ho hg hb
end Go.Proofs.Ytfmnkcmicbnfdaa

namespace Go.Proofs.Ytfmnkcmicbnfdaa
open Go Go.RowKit

theorem rot_val2 (x k a b : Nat) (hx : x < 4294967296) (ha : a = 2 ^ (32 - k)) (hb : b = 2 ^ k) : bits BinOp.or IntKind.u32 ((x : Int) / (b : Int)) ((x : Int) * (a : Int) % 4294967296) = ((rotr x k : Nat) : Int) := by
  have e1 : (x : Int) * (a : Int) % 4294967296 = ((x * a % 4294967296 : Nat) : Int) := by simp
  have e2 : (x : Int) / (b : Int) = ((x / b : Nat) : Int) := by simp
  rw [e1, e2, u32_or_nat _ _ (Nat.lt_of_le_of_lt (Nat.div_le_self _ _) hx) (Nat.mod_lt _ (by decide)), ha, hb]
  rfl
set_option maxRecDepth 100000 in
theorem turnC (x k : Nat) (hx : x < 4294967296) (hk : k ∈ [2, 6, 7, 11, 13, 17, 18, 19, 22, 25]) (w : World) (R : Ending → World → Prop) (hR : ∀ w', Grow w w' → R (.returned (.int .u32 (rotr x k : Int))) w') :
    Calls Try.prog 115 #[.int .u32 (x : Int), .int .i64 (k : Int)] w R := by
  simp only [List.mem_cons, List.not_mem_nil, or_false] at hk
  rcases hk with rfl | rfl | rfl | rfl | rfl | rfl | rfl | rfl | rfl | rfl
  · have e : bits BinOp.or IntKind.u32 ((x : Int) / 4) ((x : Int) * 1073741824 % 4294967296) = ((rotr x 2 : Nat) : Int) := rot_val2 x 2 1073741824 4 hx rfl rfl
    rw [← e] at hR
    clear e
    go_enter Try.func115, Try.ntmps115
    go_wp2_with fail
    refine wp_region_R (segL w) (by kernel_rfl) segL_drew ?_
    unfold segL segK segR
    repeat (first | (refine wpV_skp rfl rfl ?_; simp only [List.set_cons_succ, List.set_cons_zero]) | (refine wpV_look rfl rfl rfl rfl rfl (fun K hK => ?_); go_big_quiet_op; refine hK _ ?_; clear hK K))
    refine wpV_nil ?_
    intro w4 hC _
    obtain ⟨⟨w4, hk4, -⟩, rfl⟩ := hC
    have hf := hR _ hk4.grow
    clear hR
    go_wp2_with fail
    exact hf
  · have e : bits BinOp.or IntKind.u32 ((x : Int) / 64) ((x : Int) * 67108864 % 4294967296) = ((rotr x 6 : Nat) : Int) := rot_val2 x 6 67108864 64 hx rfl rfl
    rw [← e] at hR
    clear e
    go_enter Try.func115, Try.ntmps115
    go_wp2_with fail
    refine wp_region_R (segL w) (by kernel_rfl) segL_drew ?_
    unfold segL segK segR
    repeat (first | (refine wpV_skp rfl rfl ?_; simp only [List.set_cons_succ, List.set_cons_zero]) | (refine wpV_look rfl rfl rfl rfl rfl (fun K hK => ?_); go_big_quiet_op; refine hK _ ?_; clear hK K))
    refine wpV_nil ?_
    intro w4 hC _
    obtain ⟨⟨w4, hk4, -⟩, rfl⟩ := hC
    have hf := hR _ hk4.grow
    clear hR
    go_wp2_with fail
    exact hf
  · have e : bits BinOp.or IntKind.u32 ((x : Int) / 128) ((x : Int) * 33554432 % 4294967296) = ((rotr x 7 : Nat) : Int) := rot_val2 x 7 33554432 128 hx rfl rfl
    rw [← e] at hR
    clear e
    go_enter Try.func115, Try.ntmps115
    go_wp2_with fail
    refine wp_region_R (segL w) (by kernel_rfl) segL_drew ?_
    unfold segL segK segR
    repeat (first | (refine wpV_skp rfl rfl ?_; simp only [List.set_cons_succ, List.set_cons_zero]) | (refine wpV_look rfl rfl rfl rfl rfl (fun K hK => ?_); go_big_quiet_op; refine hK _ ?_; clear hK K))
    refine wpV_nil ?_
    intro w4 hC _
    obtain ⟨⟨w4, hk4, -⟩, rfl⟩ := hC
    have hf := hR _ hk4.grow
    clear hR
    go_wp2_with fail
    exact hf
  · have e : bits BinOp.or IntKind.u32 ((x : Int) / 2048) ((x : Int) * 2097152 % 4294967296) = ((rotr x 11 : Nat) : Int) := rot_val2 x 11 2097152 2048 hx rfl rfl
    rw [← e] at hR
    clear e
    go_enter Try.func115, Try.ntmps115
    go_wp2_with fail
    refine wp_region_R (segL w) (by kernel_rfl) segL_drew ?_
    unfold segL segK segR
    repeat (first | (refine wpV_skp rfl rfl ?_; simp only [List.set_cons_succ, List.set_cons_zero]) | (refine wpV_look rfl rfl rfl rfl rfl (fun K hK => ?_); go_big_quiet_op; refine hK _ ?_; clear hK K))
    refine wpV_nil ?_
    intro w4 hC _
    obtain ⟨⟨w4, hk4, -⟩, rfl⟩ := hC
    have hf := hR _ hk4.grow
    clear hR
    go_wp2_with fail
    exact hf
  · have e : bits BinOp.or IntKind.u32 ((x : Int) / 8192) ((x : Int) * 524288 % 4294967296) = ((rotr x 13 : Nat) : Int) := rot_val2 x 13 524288 8192 hx rfl rfl
    rw [← e] at hR
    clear e
    go_enter Try.func115, Try.ntmps115
    go_wp2_with fail
    refine wp_region_R (segL w) (by kernel_rfl) segL_drew ?_
    unfold segL segK segR
    repeat (first | (refine wpV_skp rfl rfl ?_; simp only [List.set_cons_succ, List.set_cons_zero]) | (refine wpV_look rfl rfl rfl rfl rfl (fun K hK => ?_); go_big_quiet_op; refine hK _ ?_; clear hK K))
    refine wpV_nil ?_
    intro w4 hC _
    obtain ⟨⟨w4, hk4, -⟩, rfl⟩ := hC
    have hf := hR _ hk4.grow
    clear hR
    go_wp2_with fail
    exact hf
  · have e : bits BinOp.or IntKind.u32 ((x : Int) / 131072) ((x : Int) * 32768 % 4294967296) = ((rotr x 17 : Nat) : Int) := rot_val2 x 17 32768 131072 hx rfl rfl
    rw [← e] at hR
    clear e
    go_enter Try.func115, Try.ntmps115
    go_wp2_with fail
    refine wp_region_R (segL w) (by kernel_rfl) segL_drew ?_
    unfold segL segK segR
    repeat (first | (refine wpV_skp rfl rfl ?_; simp only [List.set_cons_succ, List.set_cons_zero]) | (refine wpV_look rfl rfl rfl rfl rfl (fun K hK => ?_); go_big_quiet_op; refine hK _ ?_; clear hK K))
    refine wpV_nil ?_
    intro w4 hC _
    obtain ⟨⟨w4, hk4, -⟩, rfl⟩ := hC
    have hf := hR _ hk4.grow
    clear hR
    go_wp2_with fail
    exact hf
  · have e : bits BinOp.or IntKind.u32 ((x : Int) / 262144) ((x : Int) * 16384 % 4294967296) = ((rotr x 18 : Nat) : Int) := rot_val2 x 18 16384 262144 hx rfl rfl
    rw [← e] at hR
    clear e
    go_enter Try.func115, Try.ntmps115
    go_wp2_with fail
    refine wp_region_R (segL w) (by kernel_rfl) segL_drew ?_
    unfold segL segK segR
    repeat (first | (refine wpV_skp rfl rfl ?_; simp only [List.set_cons_succ, List.set_cons_zero]) | (refine wpV_look rfl rfl rfl rfl rfl (fun K hK => ?_); go_big_quiet_op; refine hK _ ?_; clear hK K))
    refine wpV_nil ?_
    intro w4 hC _
    obtain ⟨⟨w4, hk4, -⟩, rfl⟩ := hC
    have hf := hR _ hk4.grow
    clear hR
    go_wp2_with fail
    exact hf
  · have e : bits BinOp.or IntKind.u32 ((x : Int) / 524288) ((x : Int) * 8192 % 4294967296) = ((rotr x 19 : Nat) : Int) := rot_val2 x 19 8192 524288 hx rfl rfl
    rw [← e] at hR
    clear e
    go_enter Try.func115, Try.ntmps115
    go_wp2_with fail
    refine wp_region_R (segL w) (by kernel_rfl) segL_drew ?_
    unfold segL segK segR
    repeat (first | (refine wpV_skp rfl rfl ?_; simp only [List.set_cons_succ, List.set_cons_zero]) | (refine wpV_look rfl rfl rfl rfl rfl (fun K hK => ?_); go_big_quiet_op; refine hK _ ?_; clear hK K))
    refine wpV_nil ?_
    intro w4 hC _
    obtain ⟨⟨w4, hk4, -⟩, rfl⟩ := hC
    have hf := hR _ hk4.grow
    clear hR
    go_wp2_with fail
    exact hf
  · have e : bits BinOp.or IntKind.u32 ((x : Int) / 4194304) ((x : Int) * 1024 % 4294967296) = ((rotr x 22 : Nat) : Int) := rot_val2 x 22 1024 4194304 hx rfl rfl
    rw [← e] at hR
    clear e
    go_enter Try.func115, Try.ntmps115
    go_wp2_with fail
    refine wp_region_R (segL w) (by kernel_rfl) segL_drew ?_
    unfold segL segK segR
    repeat (first | (refine wpV_skp rfl rfl ?_; simp only [List.set_cons_succ, List.set_cons_zero]) | (refine wpV_look rfl rfl rfl rfl rfl (fun K hK => ?_); go_big_quiet_op; refine hK _ ?_; clear hK K))
    refine wpV_nil ?_
    intro w4 hC _
    obtain ⟨⟨w4, hk4, -⟩, rfl⟩ := hC
    have hf := hR _ hk4.grow
    clear hR
    go_wp2_with fail
    exact hf
  · have e : bits BinOp.or IntKind.u32 ((x : Int) / 33554432) ((x : Int) * 128 % 4294967296) = ((rotr x 25 : Nat) : Int) := rot_val2 x 25 128 33554432 hx rfl rfl
    rw [← e] at hR
    clear e
    go_enter Try.func115, Try.ntmps115
    go_wp2_with fail
    refine wp_region_R (segL w) (by kernel_rfl) segL_drew ?_
    unfold segL segK segR
    repeat (first | (refine wpV_skp rfl rfl ?_; simp only [List.set_cons_succ, List.set_cons_zero]) | (refine wpV_look rfl rfl rfl rfl rfl (fun K hK => ?_); go_big_quiet_op; refine hK _ ?_; clear hK K))
    refine wpV_nil ?_
    intro w4 hC _
    obtain ⟨⟨w4, hk4, -⟩, rfl⟩ := hC
    have hf := hR _ hk4.grow
    clear hR
    go_wp2_with fail
    exact hf
end Go.Proofs.Ytfmnkcmicbnfdaa

namespace Go.Proofs.Ytfmnkcmicbnfdaa
open Go Go.RowKit

theorem or_add (x j : Nat) (h : x % 2 ^ (j + 1) = 0) : x ||| 2 ^ j = x + 2 ^ j := by
  have hx : x = 2 ^ (j + 1) * (x / 2 ^ (j + 1)) := by have := Nat.div_add_mod x (2 ^ (j + 1)); omega
  have := Nat.two_pow_add_eq_or_of_lt (i := j + 1) (b := 2 ^ j) (Nat.pow_lt_pow_right (by decide) (by omega)) (x / 2 ^ (j + 1))
  rw [← hx] at this
  exact this.symm
theorem or_bit (x j : Nat) (hj : j ≤ 36) (hx : x < 137438953472) (h : x % 2 ^ (j + 1) = 0) : bits BinOp.or IntKind.u64 (x : Int) (IntKind.u64.wrap (2 ^ j)) = ((x + 2 ^ j : Nat) : Int) := by
  have hp : 2 ^ j ≤ 2 ^ 36 := Nat.pow_le_pow_right (by decide) hj
  have e : IntKind.u64.wrap (2 ^ j) = ((2 ^ j : Nat) : Int) := by
    rw [show (2 : Int) ^ j = ((2 ^ j : Nat) : Int) by simp]
    have : IntKind.u64.wrap ((2 ^ j : Nat) : Int) = ((2 ^ j : Nat) : Int) % 18446744073709551616 := by simp [IntKind.wrap, IntKind.bits, IntKind.signed]
    rw [this]; omega
  rw [e, u64_or_nat _ _ (by omega) (by omega), or_add x j h]
theorem mod_down (x j : Nat) (h : x % 2 ^ (j + 1) = 0) : x % 2 ^ j = 0 ∧ (x + 2 ^ j) % 2 ^ j = 0 := by
  have h1 : x % 2 ^ j = 0 := by
    rw [Nat.pow_succ] at h
    have : 2 ^ j ∣ x := Nat.dvd_trans (Nat.dvd_mul_right _ 2) (Nat.dvd_of_mod_eq_zero h)
    exact Nat.mod_eq_zero_of_dvd this
  exact ⟨h1, by rw [Nat.add_mod_right]; exact h1⟩
theorem and32 (y : Nat) (h : y < 18446744073709551616) : bits BinOp.and IntKind.u64 (y : Int) 4294967295 = ((y % 4294967296 : Nat) : Int) := by
  rw [show (4294967295 : Int) = ((4294967295 : Nat) : Int) from rfl, u64_and_nat _ _ h (by decide), show 4294967295 = 2 ^ 32 - 1 by decide, Nat.and_two_pow_sub_one_eq_mod]
/-- A square in two halves. -/
theorem sq_halves (y a b : Nat) (h : y = a * 4294967296 + b) : y ^ 2 = a * a * 18446744073709551616 + a * b * 8589934592 + b * b := by
  subst h
  rw [Nat.pow_two]
  simp only [Nat.add_mul, Nat.mul_add]
  have e1 : a * 4294967296 * (a * 4294967296) = a * a * 18446744073709551616 := by rw [Nat.mul_mul_mul_comm]
  have e2 : a * 4294967296 * b = a * b * 4294967296 := by rw [Nat.mul_right_comm]
  have e3 : b * (a * 4294967296) = a * b * 4294967296 := by rw [Nat.mul_comm b, Nat.mul_right_comm]
  rw [e1, e2, e3]; omega

set_option maxRecDepth 100000 in
set_option maxHeartbeats 4000000 in
theorem squareC (p : Nat) (hp : p < 512) (w : World) (R : Ending → World → Prop) (hR : R (.returned (.int .u32 ((rootF (p * 18446744073709551616) 2 37 0 % 4294967296 : Nat) : Int))) w) :
    Calls Try.prog 100 #[.int .u64 (p : Int)] w R := by
  obtain ⟨lim, hl⟩ : ∃ l, l = p * 18446744073709551616 := ⟨_, rfl⟩
  rw [← hl] at hR
  have Hl := Lib.hid hl
  obtain ⟨r, hr⟩ : ∃ r, r = rootF lim 2 37 0 := ⟨_, rfl⟩
  rw [← hr] at hR
  have Hr := Lib.hid hr
  clear hl hr
  go_enter Try.func100, Try.ntmps100
  go_wp2_with fail
  go_loopw [3, 4] (fun vx vb wr => ∃ j x : Nat, vx = .int .u64 (x : Int) ∧ vb = .int .i64 ((j : Int) - 1) ∧ Hid (r = rootF lim 2 j x) ∧ Hid (j ≤ 37 ∧ x + 2 ^ j ≤ 137438953472 ∧ x % 2 ^ j = 0) ∧ wr = w) (fun _ vb _ => (intOf vb + 1).toNat)
  case atStart => exact ⟨37, 0, by simp, by simp, Hr, Lib.hid (by decide), rfl⟩
  case round =>
    obtain ⟨j, x, rfl, rfl, hrj, hxj, rfl⟩ := hrel
    cases j with
    | zero =>
      have hrx : r = x := hrj.out
      have hx := hxj.out.2.1
      rw [show (((0 : Nat) : Int) - 1) = -1 by rfl]
      subst hrx
      clear hrj hxj
      go_wp2_with fail
      rw [Int.natCast_emod] at hR
      exact hR
    | succ j =>
      obtain ⟨hj37, hxb, hm⟩ := hxj.out
      have hj36 : j ≤ 36 := by omega
      rw [show (((j + 1 : Nat) : Int) - 1) = (j : Int) by omega]
      have hp2 : 0 < 2 ^ j := Nat.two_pow_pos j
      rw [Nat.pow_succ] at hxb
      have hor := Lib.hid (or_bit x j hj36 (by omega) hm)
      obtain ⟨hm1, hm2⟩ := mod_down x j hm
      have hrr := hrj.out
      rw [rootF] at hrr
      have hyes : (x + 2 ^ j) ^ 2 ≤ lim → Hid (r = rootF lim 2 j (x + 2 ^ j)) := fun h => Lib.hid (by rw [hrr, if_pos h])
      have hno : ¬ (x + 2 ^ j) ^ 2 ≤ lim → Hid (r = rootF lim 2 j x) := fun h => Lib.hid (by rw [hrr, if_neg h])
      have k1 : Hid (j ≤ 37 ∧ (x + 2 ^ j) + 2 ^ j ≤ 137438953472 ∧ (x + 2 ^ j) % 2 ^ j = 0) := Lib.hid ⟨by omega, by omega, hm2⟩
      have k2 : Hid (j ≤ 37 ∧ x + 2 ^ j ≤ 137438953472 ∧ x % 2 ^ j = 0) := Lib.hid ⟨by omega, by omega, hm1⟩
      go_upto_region 6 with (fail)
      simp only [hor.out]
      have hyl : x + 2 ^ j < 137438953472 := by omega
      clear hor hrr hm1 hm2 hrj hxj hxb hm hp2
      obtain ⟨y, hy⟩ : ∃ y, y = x + 2 ^ j := ⟨_, rfl⟩
      rw [← hy] at hyes hno k1 hyl ⊢
      have Hy := Lib.hid hy
      clear hy
      have e0 := and32 y (by omega)
      obtain ⟨a, ha⟩ : ∃ a, a = y / 4294967296 := ⟨_, rfl⟩
      obtain ⟨b, hb⟩ : ∃ b, b = y % 4294967296 := ⟨_, rfl⟩
      have hsq := sq_halves y a b (by omega)
      rw [← hb] at e0
      have ea : (y : Int) / 4294967296 = (a : Int) := by omega
      have hal : a < 32 := by omega
      have hbl : b < 4294967296 := by omega
      have haa : a * a ≤ 31 * 31 := Nat.mul_le_mul (by omega) (by omega)
      have hab : a * b ≤ 31 * 4294967295 := Nat.mul_le_mul (by omega) (by omega)
      have hbb : b * b ≤ 4294967295 * 4294967295 := Nat.mul_le_mul (by omega) (by omega)
      obtain ⟨aa, haae⟩ : ∃ aa, aa = a * a := ⟨_, rfl⟩
      obtain ⟨ab, habe⟩ : ∃ ab, ab = a * b := ⟨_, rfl⟩
      obtain ⟨bb, hbbe⟩ : ∃ bb, bb = b * b := ⟨_, rfl⟩
      have e1 : (a : Int) * (a : Int) = (aa : Int) := by rw [haae]; simp
      have e2 : (a : Int) * (b : Int) = (ab : Int) := by rw [habe]; simp
      have e3 : (b : Int) * (b : Int) = (bb : Int) := by rw [hbbe]; simp
      rw [← haae, ← habe, ← hbbe] at hsq
      rw [← haae] at haa
      rw [← habe] at hab
      rw [← hbbe] at hbb
      obtain ⟨c, hc⟩ : ∃ c, c = ab / 2147483648 := ⟨_, rfl⟩
      have e4 : (ab : Int) / 2147483648 = (c : Int) := by omega
      obtain ⟨h0, hh0⟩ : ∃ h0, h0 = aa + c := ⟨_, rfl⟩
      have e5 : (aa : Int) + (c : Int) = (h0 : Int) := by omega
      obtain ⟨lo, hlo⟩ : ∃ lo, lo = ab * 8589934592 % 18446744073709551616 := ⟨_, rfl⟩
      have e6 : IntKind.u64.wrap ((ab : Int) * 8589934592) = (lo : Int) := by
        have : IntKind.u64.wrap ((ab : Int) * 8589934592) = (ab : Int) * 8589934592 % 18446744073709551616 := by simp [IntKind.wrap, IntKind.bits, IntKind.signed]
        rw [this]; omega
      obtain ⟨s, hs⟩ : ∃ s, s = (lo + bb) % 18446744073709551616 := ⟨_, rfl⟩
      have e7 : IntKind.u64.wrap ((lo : Int) + (bb : Int)) = (s : Int) := by
        have : IntKind.u64.wrap ((lo : Int) + (bb : Int)) = ((lo : Int) + (bb : Int)) % 18446744073709551616 := by simp [IntKind.wrap, IntKind.bits, IntKind.signed]
        rw [this]; omega
      have hlol : lo < 18446744073709551616 := by omega
      have hsl : s < 18446744073709551616 := by omega
      have hh0l : h0 < 2000 := by omega
      have hcar : (s < lo ∧ y ^ 2 = (h0 + 1) * 18446744073709551616 + s) ∨ (¬ s < lo ∧ y ^ 2 = h0 * 18446744073709551616 + s) := by omega
      have hll := Hl.out
      generalize y ^ 2 = Y at *
      clear ha hb hsq haae habe hbbe hc hh0 hlo hs hal haa
      rcases hcar with ⟨hcar, hY⟩ | ⟨hcar, hY⟩
      · obtain ⟨hi, hhi⟩ : ∃ hi, hi = h0 + 1 := ⟨_, rfl⟩
        have e8 : (h0 : Int) + 1 = (hi : Int) := by omega
        rw [← hhi] at hY
        have hhl : hi < 2001 := by omega
        clear hhi
        by_cases hle : Y ≤ lim
        · have hd1 := hyes hle
          have hcond : hi < p ∨ (¬ hi < p ∧ hi = p ∧ s = 0) := by omega
          clear hll hY hle hyes hno
          rcases hcond with h1 | ⟨h1, h2, h3⟩
          · skip
            go_wp2_with fail
            all_goals
              go_roundw
              case rel => exact ⟨j, y, rfl, by simp, hd1, k1, trivial⟩
              case measure => simp [intOf]
          · subst h2 h3
            go_wp2_with fail
            all_goals
              go_roundw
              case rel => exact ⟨j, y, rfl, by simp, hd1, k1, trivial⟩
              case measure => simp [intOf]
        · have hd1 := hno hle
          have hcond : ¬ hi < p ∧ (¬ hi = p ∨ (hi = p ∧ ¬ s = 0)) := by omega
          clear hll hY hle hyes hno
          obtain ⟨h1, hcond⟩ := hcond
          rcases hcond with h2 | ⟨h2, h3⟩
          · have heq : ((hi : Int) == (p : Int)) = false := by simp; omega
            go_wp2_with fail
            all_goals
              go_roundw
              case rel => exact ⟨j, x, rfl, by simp, hd1, k2, trivial⟩
              case measure => simp [intOf]
          · subst h2
            have hz : ((s : Int) == 0) = false := by simp; omega
            go_wp2_with fail
            all_goals
              go_roundw
              case rel => exact ⟨j, x, rfl, by simp, hd1, k2, trivial⟩
              case measure => simp [intOf]
      · obtain ⟨hi, hhi⟩ : ∃ hi, hi = h0 := ⟨_, rfl⟩
        subst hhi
        by_cases hle : Y ≤ lim
        · have hd1 := hyes hle
          have hcond : hi < p ∨ (¬ hi < p ∧ hi = p ∧ s = 0) := by omega
          clear hll hY hle hyes hno
          rcases hcond with h1 | ⟨h1, h2, h3⟩
          · skip
            go_wp2_with fail
            all_goals
              go_roundw
              case rel => exact ⟨j, y, rfl, by simp, hd1, k1, trivial⟩
              case measure => simp [intOf]
          · subst h2 h3
            go_wp2_with fail
            all_goals
              go_roundw
              case rel => exact ⟨j, y, rfl, by simp, hd1, k1, trivial⟩
              case measure => simp [intOf]
        · have hd1 := hno hle
          have hcond : ¬ hi < p ∧ (¬ hi = p ∨ (hi = p ∧ ¬ s = 0)) := by omega
          clear hll hY hle hyes hno
          obtain ⟨h1, hcond⟩ := hcond
          rcases hcond with h2 | ⟨h2, h3⟩
          · have heq : ((hi : Int) == (p : Int)) = false := by simp; omega
            go_wp2_with fail
            all_goals
              go_roundw
              case rel => exact ⟨j, x, rfl, by simp, hd1, k2, trivial⟩
              case measure => simp [intOf]
          · subst h2
            have hz : ((s : Int) == 0) = false := by simp; omega
            go_wp2_with fail
            all_goals
              go_roundw
              case rel => exact ⟨j, x, rfl, by simp, hd1, k2, trivial⟩
              case measure => simp [intOf]
end Go.Proofs.Ytfmnkcmicbnfdaa
