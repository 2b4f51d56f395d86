/- prioryalike.Round. -/
import Derived.Test.YtgchbcopbkoomaaGMem
import Derived.Test.YtgchbcopbkoomaaRows
namespace Go.Proofs.Ytgchbcopbkoomaa
open Go Go.RowKit

/-- A number from 0 to ahead of n. -/
def rnd (k : Int) (n : Nat) : Nat := (k % (n : Int)).toNat
theorem rnd_lt (k : Int) (n : Nat) (h : 0 < n) : rnd k n < n := by
  have := Int.emod_lt_of_pos k (b := (n : Int)) (by omega)
  have := Int.emod_nonneg k (b := (n : Int)) (by omega)
  unfold rnd; omega
theorem rnd_eq (k : Int) (n : Nat) (h : 0 < n) : (k.tmod n + n) % n = (rnd k n : Int) := by
  have h1 := Int.emod_lt_of_pos k (b := (n : Int)) (by omega)
  have h2 := Int.emod_nonneg k (b := (n : Int)) (by omega)
  have h3 := Int.tmod_lt_of_pos k (b := (n : Int)) (by omega)
  have h4 := Int.lt_tmod_of_pos k (b := (n : Int)) (by omega)
  have e : ((rnd k n : Nat) : Int) = k % n := by unfold rnd; omega
  rw [e, Int.add_emod_right]
  rw [Int.tmod_eq_emod]
  split
  · simp
  · simp
set_option maxHeartbeats 400000 in
theorem roundC (k : Int) (n : Nat) (h : 0 < n) (hn : n ≤ 1000000) (w : World) (R : Ending → World → Prop) (hR : R (.returned (.int .i64 (rnd k n : Int))) w) :
    Calls Try.prog 12 #[.int .i64 k, .int .i64 n] w R := by
  have h3 := Int.tmod_lt_of_pos k (b := (n : Int)) (by omega)
  have h4 := Int.lt_tmod_of_pos k (b := (n : Int)) (by omega)
  have e := rnd_eq k n h
  rw [← e] at hR
  clear e
  go_enter Try.func12, Try.ntmps12
  go_wp2
  exact hR
end Go.Proofs.Ytgchbcopbkoomaa
