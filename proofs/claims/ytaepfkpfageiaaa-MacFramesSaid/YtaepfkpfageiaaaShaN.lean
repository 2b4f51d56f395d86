/- sha: products in two halves, powers, roots. -/
import Derived.Test.YtaepfkpfageiaaaSha
namespace Go.Proofs.Ytaepfkpfageiaaa
open Go Go.RowKit

theorem mask64 (x : Nat) (h : x < 18446744073709551616) : bits BinOp.and IntKind.u64 (x : Int) 4294967295 = ((x % 4294967296 : Nat) : Int) := by
  rw [show (4294967295 : Int) = ((4294967295 : Nat) : Int) from rfl, u64_and_nat _ _ h (by decide), show 4294967295 = 2 ^ 32 - 1 by decide, Nat.and_two_pow_sub_one_eq_mod]
theorem u64w (n : Int) : IntKind.u64.wrap n = n % 18446744073709551616 := by simp [IntKind.wrap, IntKind.bits, IntKind.signed]
theorem u64id (n : Nat) (h : n < 18446744073709551616) : IntKind.u64.wrap (n : Int) = (n : Int) := by rw [u64w]; omega
theorem prod_lt {a b : Nat} (ha : a < 4294967296) (hb : b < 4294967296) : a * b ≤ 18446744065119617025 := Nat.mul_le_mul (by omega : a ≤ 4294967295) (by omega : b ≤ 4294967295)
set_option maxRecDepth 100000 in
theorem mul64C (x y : Nat) (hx : x < 18446744073709551616) (hy : y < 18446744073709551616) (w : World) (R : Ending → World → Prop)
    (hR : R (.returned (.tuple #[.int .u64 ((x * y / 18446744073709551616 : Nat) : Int), .int .u64 ((x * y % 18446744073709551616 : Nat) : Int)])) w) :
    Calls Try.prog 91 #[.int .u64 (x : Int), .int .u64 (y : Int)] w R := by
  have mx := mask64 x hx
  have my := mask64 y hy
  have hxy : x * y = (x / 4294967296 * (y / 4294967296)) * 18446744073709551616 + (x / 4294967296 * (y % 4294967296) + x % 4294967296 * (y / 4294967296)) * 4294967296 + x % 4294967296 * (y % 4294967296) := by
    have ex : x = x / 4294967296 * 4294967296 + x % 4294967296 := by omega
    have ey : y = y / 4294967296 * 4294967296 + y % 4294967296 := by omega
    obtain ⟨a, ha⟩ : ∃ a, a = x / 4294967296 := ⟨_, rfl⟩
    obtain ⟨b, hb⟩ : ∃ b, b = x % 4294967296 := ⟨_, rfl⟩
    obtain ⟨c, hc⟩ : ∃ c, c = y / 4294967296 := ⟨_, rfl⟩
    obtain ⟨d, hd⟩ : ∃ d, d = y % 4294967296 := ⟨_, rfl⟩
    rw [← ha, ← hb, ← hc, ← hd]
    rw [← ha, ← hb] at ex
    rw [← hc, ← hd] at ey
    clear ha hb hc hd
    rw [ex, ey, Nat.add_mul, Nat.mul_add, Nat.mul_add, Nat.add_mul]
    rw [show a * 4294967296 * (c * 4294967296) = a * c * 18446744073709551616 by rw [Nat.mul_mul_mul_comm], show a * 4294967296 * d = a * d * 4294967296 by rw [Nat.mul_right_comm], ← Nat.mul_assoc b c]
    omega
  have l00 := prod_lt (Nat.mod_lt x (by decide : 0 < 4294967296)) (Nat.mod_lt y (by decide : 0 < 4294967296))
  have l10 := prod_lt (show x / 4294967296 < 4294967296 by omega) (Nat.mod_lt y (by decide : 0 < 4294967296))
  have l01 := prod_lt (Nat.mod_lt x (by decide : 0 < 4294967296)) (show y / 4294967296 < 4294967296 by omega)
  have l11 := prod_lt (show x / 4294967296 < 4294967296 by omega) (show y / 4294967296 < 4294967296 by omega)
  have f00 : IntKind.u64.wrap ((x : Int) % 4294967296 * ((y : Int) % 4294967296)) = ((x % 4294967296 * (y % 4294967296) : Nat) : Int) := by rw [← u64id _ (by omega : x % 4294967296 * (y % 4294967296) < 18446744073709551616)]; simp
  have f10 : IntKind.u64.wrap ((x : Int) / 4294967296 * ((y : Int) % 4294967296)) = ((x / 4294967296 * (y % 4294967296) : Nat) : Int) := by rw [← u64id _ (by omega : x / 4294967296 * (y % 4294967296) < 18446744073709551616)]; simp
  have f01 : IntKind.u64.wrap ((x : Int) % 4294967296 * ((y : Int) / 4294967296)) = ((x % 4294967296 * (y / 4294967296) : Nat) : Int) := by rw [← u64id _ (by omega : x % 4294967296 * (y / 4294967296) < 18446744073709551616)]; simp
  have f11 : IntKind.u64.wrap ((x : Int) / 4294967296 * ((y : Int) / 4294967296)) = ((x / 4294967296 * (y / 4294967296) : Nat) : Int) := by rw [← u64id _ (by omega : x / 4294967296 * (y / 4294967296) < 18446744073709551616)]; simp
  have flo : IntKind.u64.wrap ((x : Int) * (y : Int)) = ((x * y % 18446744073709551616 : Nat) : Int) := by rw [u64w]; simp
  obtain ⟨P00, e00⟩ : ∃ P, P = x % 4294967296 * (y % 4294967296) := ⟨_, rfl⟩
  obtain ⟨P10, e10⟩ : ∃ P, P = x / 4294967296 * (y % 4294967296) := ⟨_, rfl⟩
  obtain ⟨P01, e01⟩ : ∃ P, P = x % 4294967296 * (y / 4294967296) := ⟨_, rfl⟩
  obtain ⟨P11, e11⟩ : ∃ P, P = x / 4294967296 * (y / 4294967296) := ⟨_, rfl⟩
  rw [← e00] at l00 f00 hxy
  rw [← e10] at l10 f10 hxy
  rw [← e01] at l01 f01 hxy
  rw [← e11] at l11 f11 hxy
  clear e00 e10 e01 e11
  obtain ⟨LO, eLO⟩ : ∃ L, L = x * y % 18446744073709551616 := ⟨_, rfl⟩
  obtain ⟨HI, eHI⟩ : ∃ L, L = x * y / 18446744073709551616 := ⟨_, rfl⟩
  rw [← eLO] at flo hR
  rw [← eHI] at hR
  have hH : HI = P11 + (P10 + P00 / 4294967296) / 4294967296 + ((P10 + P00 / 4294967296) % 4294967296 + P01) / 4294967296 := by omega
  clear eLO eHI hxy
  have hT : P10 + P00 / 4294967296 < 18446744073709551616 := by omega
  have ft : bits BinOp.and IntKind.u64 ((P10 : Int) + (P00 : Int) / 4294967296) 4294967295 = ((P10 : Int) + (P00 : Int) / 4294967296) % 4294967296 := by
    have := mask64 _ hT
    simpa using this
  have eh : ((HI : Nat) : Int) = (P11 : Int) + ((P10 : Int) + (P00 : Int) / 4294967296) / 4294967296 + (((P10 : Int) + (P00 : Int) / 4294967296) % 4294967296 + (P01 : Int)) / 4294967296 := by omega
  rw [eh] at hR
  clear hH eh
  go_enter Try.func91, Try.ntmps91
  go_wp2_with fail
  exact hR

set_option maxRecDepth 100000 in
theorem power2 (x : Nat) (hx : x < 1099511627776) (w : World) (R : Ending → World → Prop)
    (hR : R (.returned (.tuple #[.int .u64 ((x ^ 2 / 18446744073709551616 : Nat) : Int), .int .u64 ((x ^ 2 % 18446744073709551616 : Nat) : Int)])) w) :
    Calls Try.prog 89 #[.int .u64 (x : Int), .int .i64 2] w R := by
  have hm := mul64C x x (by omega) (by omega) w
  rw [← Nat.pow_two] at hm
  obtain ⟨H, eH⟩ : ∃ L, L = x ^ 2 / 18446744073709551616 := ⟨_, rfl⟩
  obtain ⟨L, eL⟩ : ∃ L, L = x ^ 2 % 18446744073709551616 := ⟨_, rfl⟩
  rw [← eH, ← eL] at hR
  simp only [← eH, ← eL] at hm
  clear eH eL
  go_enter Try.func89, Try.ntmps89
  go_wp2_with fail
  refine hm _ ?_
  go_wp2_with fail
  exact hR
set_option maxRecDepth 100000 in
theorem power3 (x : Nat) (hx : x < 1099511627776) (w : World) (R : Ending → World → Prop)
    (hR : R (.returned (.tuple #[.int .u64 ((x ^ 3 / 18446744073709551616 : Nat) : Int), .int .u64 ((x ^ 3 % 18446744073709551616 : Nat) : Int)])) w) :
    Calls Try.prog 89 #[.int .u64 (x : Int), .int .i64 3] w R := by
  have hm := mul64C x x (by omega) (by omega) w
  have hxx : x * x ≤ 1099511627775 * 1099511627775 := Nat.mul_le_mul (by omega) (by omega)
  obtain ⟨H, eH⟩ : ∃ L, L = x * x / 18446744073709551616 := ⟨_, rfl⟩
  obtain ⟨L, eL⟩ : ∃ L, L = x * x % 18446744073709551616 := ⟨_, rfl⟩
  have hH : H ≤ 65535 := by omega
  have hL : L < 18446744073709551616 := by omega
  have h2 := mul64C L x hL (by omega) w
  have hx3 : x ^ 3 = H * x * 18446744073709551616 + L * x := by
    have : x * x = H * 18446744073709551616 + L := by omega
    rw [Nat.pow_succ, Nat.pow_two, this, Nat.add_mul, Nat.mul_right_comm]
  have hHx : H * x ≤ 65535 * 1099511627775 := Nat.mul_le_mul hH (by omega)
  have hLx : L * x ≤ 18446744073709551615 * 1099511627775 := Nat.mul_le_mul (by omega) (by omega)
  simp only [← eH, ← eL] at hm
  obtain ⟨M, eM⟩ : ∃ M, M = L * x / 18446744073709551616 := ⟨_, rfl⟩
  obtain ⟨N, eN⟩ : ∃ M, M = L * x % 18446744073709551616 := ⟨_, rfl⟩
  obtain ⟨Q, eQ⟩ : ∃ Q, Q = H * x := ⟨_, rfl⟩
  have e1 : ((x ^ 3 / 18446744073709551616 : Nat) : Int) = (Q : Int) + (M : Int) := by rw [← eQ] at hx3; omega
  have e2 : ((x ^ 3 % 18446744073709551616 : Nat) : Int) = (N : Int) := by rw [← eQ] at hx3; omega
  have hM : M ≤ 1099511627775 := by omega
  rw [e1, e2] at hR
  simp only [← eM, ← eN] at h2
  have fQ : IntKind.u64.wrap ((H : Int) * (x : Int)) = (Q : Int) := by
    rw [eQ, ← u64id _ (by omega : H * x < 18446744073709551616)]; simp
  have hQ : Q ≤ 65535 * 1099511627775 := by omega
  clear eH eL eM eN eQ e1 e2 hx3 hHx hLx hxx
  go_enter Try.func89, Try.ntmps89
  go_wp2_with fail
  refine hm _ ?_
  go_wp2_with fail
  refine h2 _ ?_
  go_wp2_with fail
  exact hR
end Go.Proofs.Ytaepfkpfageiaaa
