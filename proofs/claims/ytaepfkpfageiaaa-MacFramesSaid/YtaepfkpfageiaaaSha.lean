/- sha: numbers: turning, products in two halves, roots. -/
import Derived.Test.YtaepfkpfageiaaaMem
import Derived.Test.YtaepfkpfageiaaaSkip
import Derived.Test.YtaepfkpfageiaaaRows
import Derived.Laws.ShiftsVar
namespace Go.Proofs.Ytaepfkpfageiaaa
open Go Go.RowKit

/-- Turned right by k digits. -/
def rotr (x k : Nat) : Nat := (x / 2 ^ k) ||| (x * 2 ^ (32 - k) % 4294967296)
theorem rotr_lt (x k : Nat) (hx : x < 4294967296) : rotr x k < 4294967296 :=
  Nat.or_lt_two_pow (n := 32) (Nat.lt_of_le_of_lt (Nat.div_le_self _ _) hx) (Nat.mod_lt _ (by decide))
theorem u32w (n : Int) : IntKind.u32.wrap n = n % 4294967296 := by simp [IntKind.wrap, IntKind.bits, IntKind.signed]
theorem rot_val (x k a b : Nat) (hx : x < 4294967296) (ha : a = 2 ^ (32 - k)) (hb : b = 2 ^ k) : bits BinOp.or IntKind.u32 ((x : Int) * (a : Int) % 4294967296) ((x : Int) / (b : Int)) = ((rotr x k : Nat) : Int) := by
  have e1 : (x : Int) * (a : Int) % 4294967296 = ((x * a % 4294967296 : Nat) : Int) := by simp
  have e2 : (x : Int) / (b : Int) = ((x / b : Nat) : Int) := by simp
  rw [e1, e2, u32_or_nat _ _ (Nat.mod_lt _ (by decide)) (Nat.lt_of_le_of_lt (Nat.div_le_self _ _) hx), Nat.or_comm, ha, hb]
  rfl
set_option maxRecDepth 100000 in
theorem rotC (x k : Nat) (hx : x < 4294967296) (hk : k ∈ [2, 6, 7, 11, 13, 17, 18, 19, 22, 25]) (w : World) (R : Ending → World → Prop) (hR : R (.returned (.int .u32 (rotr x k : Int))) w) :
    Calls Try.prog 87 #[.int .u32 (x : Int), .int .i64 (-(k : Int))] w R := by
  simp only [List.mem_cons, List.not_mem_nil, or_false] at hk
  rcases hk with rfl | rfl | rfl | rfl | rfl | rfl | rfl | rfl | rfl | rfl
  · have hs : bits BinOp.and IntKind.u64 (IntKind.u64.wrap (-2)) 31 = 30 := by decide
    have e : bits BinOp.or IntKind.u32 ((x : Int) * 1073741824 % 4294967296) ((x : Int) / 4) = ((rotr x 2 : Nat) : Int) := rot_val x 2 1073741824 4 hx rfl rfl
    rw [← e] at hR
    clear e
    go_enter Try.func87, Try.ntmps87
    go_wp2_with fail
    exact hR
  · have hs : bits BinOp.and IntKind.u64 (IntKind.u64.wrap (-6)) 31 = 26 := by decide
    have e : bits BinOp.or IntKind.u32 ((x : Int) * 67108864 % 4294967296) ((x : Int) / 64) = ((rotr x 6 : Nat) : Int) := rot_val x 6 67108864 64 hx rfl rfl
    rw [← e] at hR
    clear e
    go_enter Try.func87, Try.ntmps87
    go_wp2_with fail
    exact hR
  · have hs : bits BinOp.and IntKind.u64 (IntKind.u64.wrap (-7)) 31 = 25 := by decide
    have e : bits BinOp.or IntKind.u32 ((x : Int) * 33554432 % 4294967296) ((x : Int) / 128) = ((rotr x 7 : Nat) : Int) := rot_val x 7 33554432 128 hx rfl rfl
    rw [← e] at hR
    clear e
    go_enter Try.func87, Try.ntmps87
    go_wp2_with fail
    exact hR
  · have hs : bits BinOp.and IntKind.u64 (IntKind.u64.wrap (-11)) 31 = 21 := by decide
    have e : bits BinOp.or IntKind.u32 ((x : Int) * 2097152 % 4294967296) ((x : Int) / 2048) = ((rotr x 11 : Nat) : Int) := rot_val x 11 2097152 2048 hx rfl rfl
    rw [← e] at hR
    clear e
    go_enter Try.func87, Try.ntmps87
    go_wp2_with fail
    exact hR
  · have hs : bits BinOp.and IntKind.u64 (IntKind.u64.wrap (-13)) 31 = 19 := by decide
    have e : bits BinOp.or IntKind.u32 ((x : Int) * 524288 % 4294967296) ((x : Int) / 8192) = ((rotr x 13 : Nat) : Int) := rot_val x 13 524288 8192 hx rfl rfl
    rw [← e] at hR
    clear e
    go_enter Try.func87, Try.ntmps87
    go_wp2_with fail
    exact hR
  · have hs : bits BinOp.and IntKind.u64 (IntKind.u64.wrap (-17)) 31 = 15 := by decide
    have e : bits BinOp.or IntKind.u32 ((x : Int) * 32768 % 4294967296) ((x : Int) / 131072) = ((rotr x 17 : Nat) : Int) := rot_val x 17 32768 131072 hx rfl rfl
    rw [← e] at hR
    clear e
    go_enter Try.func87, Try.ntmps87
    go_wp2_with fail
    exact hR
  · have hs : bits BinOp.and IntKind.u64 (IntKind.u64.wrap (-18)) 31 = 14 := by decide
    have e : bits BinOp.or IntKind.u32 ((x : Int) * 16384 % 4294967296) ((x : Int) / 262144) = ((rotr x 18 : Nat) : Int) := rot_val x 18 16384 262144 hx rfl rfl
    rw [← e] at hR
    clear e
    go_enter Try.func87, Try.ntmps87
    go_wp2_with fail
    exact hR
  · have hs : bits BinOp.and IntKind.u64 (IntKind.u64.wrap (-19)) 31 = 13 := by decide
    have e : bits BinOp.or IntKind.u32 ((x : Int) * 8192 % 4294967296) ((x : Int) / 524288) = ((rotr x 19 : Nat) : Int) := rot_val x 19 8192 524288 hx rfl rfl
    rw [← e] at hR
    clear e
    go_enter Try.func87, Try.ntmps87
    go_wp2_with fail
    exact hR
  · have hs : bits BinOp.and IntKind.u64 (IntKind.u64.wrap (-22)) 31 = 10 := by decide
    have e : bits BinOp.or IntKind.u32 ((x : Int) * 1024 % 4294967296) ((x : Int) / 4194304) = ((rotr x 22 : Nat) : Int) := rot_val x 22 1024 4194304 hx rfl rfl
    rw [← e] at hR
    clear e
    go_enter Try.func87, Try.ntmps87
    go_wp2_with fail
    exact hR
  · have hs : bits BinOp.and IntKind.u64 (IntKind.u64.wrap (-25)) 31 = 7 := by decide
    have e : bits BinOp.or IntKind.u32 ((x : Int) * 128 % 4294967296) ((x : Int) / 33554432) = ((rotr x 25 : Nat) : Int) := rot_val x 25 128 33554432 hx rfl rfl
    rw [← e] at hR
    clear e
    go_enter Try.func87, Try.ntmps87
    go_wp2_with fail
    exact hR
-- END rotC
end Go.Proofs.Ytaepfkpfageiaaa
