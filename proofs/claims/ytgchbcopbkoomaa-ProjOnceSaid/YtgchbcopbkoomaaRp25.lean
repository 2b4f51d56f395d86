/- slices.Repeat of one number, so many times. -/
import Derived.Test.YtgchbcopbkoomaaSp25
import Derived.Laws.Bits64b
namespace Go.Proofs.Ytgchbcopbkoomaa
open Go Go.RowKit

theorem maskN (a : Nat) (ha : a ≤ 100000) : bits .and .u64 (a : Int) 4294967295 = (a : Int) := by
  have h := bits_and_u64_nat a 4294967295 (by omega) (by omega)
  have e : a &&& 4294967295 = a % 4294967296 := Nat.and_two_pow_sub_one_eq_mod a 32
  rw [e, Nat.mod_eq_of_lt (by omega)] at h
  exact h
set_option maxRecDepth 100000 in
set_option maxHeartbeats 4000000 in
theorem mul64C (n : Nat) (hn : n ≤ 100000) (w : World) (R : Ending → World → Prop) (hR : R (.returned (.tuple #[.int .u64 0, .int .u64 (n : Int)])) w) :
    Calls Try.prog 34 #[.int .u64 1, .int .u64 (n : Int)] w R := by
  have e1 : bits .and .u64 1 4294967295 = 1 := maskN 1 (by omega)
  have e0 : bits .and .u64 0 4294967295 = 0 := maskN 0 (by omega)
  have e2 := maskN n hn
  have h2 : (n : Int) / 4294967296 = 0 := by omega
  go_enter Try.func34, Try.ntmps34
  go_wp2_with fail
  exact hR
set_option maxRecDepth 100000 in
theorem mulC (n : Nat) (hn : n ≤ 100000) (w : World) (R : Ending → World → Prop) (hR : R (.returned (.tuple #[.int .u64 0, .int .u64 (n : Int)])) w) :
    Calls Try.prog 25 #[.int .u64 1, .int .u64 (n : Int)] w R := by
  have h := mul64C n hn
  go_enter Try.func25, Try.ntmps25
  go_wp2_with fail
  refine h _ _ ?_
  go_wp2_with fail
  exact hR
end Go.Proofs.Ytgchbcopbkoomaa
