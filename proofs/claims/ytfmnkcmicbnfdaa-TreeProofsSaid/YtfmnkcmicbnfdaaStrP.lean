/- Keys of passwords: what they are, in lists of bytes; slices.Clone of bytes. -/
import Derived.Test.YtfmnkcmicbnfdaaGSha3
import Derived.Test.YtfmnkcmicbnfdaaWant
namespace Go.Proofs.Ytfmnkcmicbnfdaa
open Go Go.RowKit

/-- A number in four bytes, the greatest first. -/
def num4 (i : Nat) : List UInt8 := [UInt8.ofNat (i / 16777216), UInt8.ofNat (i / 65536), UInt8.ofNat (i / 256), UInt8.ofNat i]
theorem num4_len (i : Nat) : (num4 i).length = 4 := rfl
def xorL (a b : List UInt8) : List UInt8 := List.zipWith (· ^^^ ·) a b
/-- What is tagged last in round r + 1. -/
def uS (pass salt : List UInt8) (i : Nat) : Nat → List UInt8
  | 0 => macS pass (salt ++ num4 i)
  | r + 1 => macS pass (uS pass salt i r)
/-- A block behind r + 1 rounds. -/
def tS (pass salt : List UInt8) (i : Nat) : Nat → List UInt8
  | 0 => uS pass salt i 0
  | r + 1 => xorL (tS pass salt i r) (uS pass salt i (r + 1))
theorem uS_len (pass salt : List UInt8) (i r : Nat) : (uS pass salt i r).length = 32 := by cases r <;> exact macS_len _ _
theorem xorL_len (a b : List UInt8) (ha : a.length = 32) (hb : b.length = 32) : (xorL a b).length = 32 := by simp [xorL, ha, hb]
theorem tS_len (pass salt : List UInt8) (i r : Nat) : (tS pass salt i r).length = 32 := by
  induction r with
  | zero => exact uS_len _ _ _ _
  | succ r ih => exact xorL_len _ _ ih (uS_len _ _ _ _)
/-- So many blocks, one behind the other. -/
def keyB (pass salt : List UInt8) (r : Nat) : Nat → List UInt8
  | 0 => []
  | n + 1 => keyB pass salt r n ++ tS pass salt (n + 1) r
theorem keyB_len (pass salt : List UInt8) (r n : Nat) : (keyB pass salt r n).length = 32 * n := by
  induction n with
  | zero => rfl
  | succ n ih => rw [keyB, List.length_append, ih, tS_len]; omega
/-- A key of n bytes. -/
def keyS (pass salt : List UInt8) (r n : Nat) : List UInt8 := (keyB pass salt r ((n + 31) / 32)).take n
theorem keyS_len (pass salt : List UInt8) (r n : Nat) : (keyS pass salt r n).length = n := by
  rw [keyS, List.length_take, keyB_len]; omega
theorem keyB_take (pass salt : List UInt8) (r n m : Nat) (h : n ≤ m) : (keyB pass salt r m).take (32 * n) = keyB pass salt r n := by
  induction m with
  | zero => obtain rfl : n = 0 := by omega
            rfl
  | succ m ih =>
    by_cases e : n = m + 1
    · subst e; exact List.take_of_length_le (by rw [keyB_len]; omega)
    · rw [keyB, List.take_append_of_le_length (by rw [keyB_len]; omega), ih (by omega)]
/-- With the first i bytes turned. -/
def mixL (t u : List UInt8) (i : Nat) : List UInt8 := (xorL t u).take i ++ t.drop i
theorem mixL_zero (t u : List UInt8) : mixL t u 0 = t := by simp [mixL]
theorem mixL_all (t u : List UInt8) (ht : t.length = 32) (hu : u.length = 32) : mixL t u 32 = xorL t u := by
  rw [mixL, List.take_of_length_le (by rw [xorL_len t u ht hu]; omega), List.drop_eq_nil_of_le (by omega), List.append_nil]
theorem mixL_at (t u : List UInt8) (i : Nat) (ht : t.length = 32) (hu : u.length = 32) (hi : i < 32) : (mixL t u i)[i]? = t[i]? := by
  rw [mixL, List.getElem?_append_right (by rw [List.length_take, xorL_len t u ht hu]; omega), List.length_take, xorL_len t u ht hu, show i - min i 32 = 0 by omega, List.getElem?_drop, Nat.add_zero]
theorem mixL_set (t u : List UInt8) (i : Nat) (x y : UInt8) (ht : t.length = 32) (hu : u.length = 32) (hi : i < 32) (hx : t[i]? = some x) (hy : u[i]? = some y) : (mixL t u i).set i (x ^^^ y) = mixL t u (i + 1) := by
  have hz : (xorL t u)[i]? = some (x ^^^ y) := by simp [xorL, List.getElem?_zipWith, hx, hy]
  have hl : (List.take i (xorL t u)).length = i := by rw [List.length_take, xorL_len t u ht hu]; omega
  unfold mixL
  rw [List.set_append_right _ _ (by omega), hl, Nat.sub_self, List.take_add_one, hz, List.drop_eq_getElem_cons (by omega), List.set_cons_zero]
  simp
theorem xor_val2 (a b : UInt8) : bits BinOp.xor IntKind.u8 (a.toNat : Int) (b.toNat : Int) = (((a ^^^ b).toNat : Nat) : Int) := by
  have := UInt8.toNat_lt a
  have := UInt8.toNat_lt b
  rw [UInt8.toNat_xor]
  exact u8_xor_nat _ _ (by omega) (by omega)

theorem nilBy (w : World) (ao : Option Addr) (n cap : Nat) : (binOp .eql 27 (.slice ao n cap) (.slice none 0 0)).run Try.prog w = .ok (.bool ao.isNone) w := Lib.run_eql_slice_nil w _ _ ao n cap 0 0 Try.underlying27
set_option maxHeartbeats 400000 in
theorem cloneB (ao : Option Addr) (n cap : Nat) (xs : List Value) (w : World) (h : Sl w 1 ao n cap xs) (hn : n ≤ 1000000) (R : Ending → World → Prop)
    (hR : ∀ ao' cap' w', Own w' 5 1 ao' n cap' xs → Grow w w' → Fr (blk ao') w → R (.returned (.slice ao' n cap')) w') :
    Calls Try.prog 55 #[.slice ao n cap] w R := by
  have hml : maxLen = 9223372036854775807 := rfl
  have heq := nilBy
  cases ao with
  | none =>
    obtain rfl := h.hnil rfl
    obtain rfl : n = 0 := by have := h.hle; omega
    obtain rfl : xs = [] := List.eq_nil_of_length_eq_zero (by simpa using h.hlen)
    go_enter Try.func55, Try.ntmps55
    go_wp2
    exact hR _ _ _ (Own.none w _ _) (Grow.refl w) (fun g hg => by simp [blk] at hg)
  | some a =>
    have ho : Own (w.alloc (.cells #[] 5)) 5 1 (some ⟨w.heap.size, 0, none⟩) 0 0 [] := Own.made (n := 0) (cur := #[]) (heap_alloc_new w _) rfl (by decide) (by simp)
    have hx := h.grow (Grow.alloc w (.cells #[] 5))
    go_enter Try.func55, Try.ntmps55
    go_wp2_with (at_builtin; refine wpList_app TBy rfl rfl ho hx (by omega) (by omega) ?_; intro ao' cap' w1 hown _ hkeep hblk)
    simp only [Nat.zero_add, List.nil_append] at *
    go_wp2
    exact hR _ _ _ hown ((Keep.alloc [] w _).trans' hkeep (by simp [blk])).grow (fun g hg => by rcases hblk g hg with h | h; simp [blk] at h; omega; simp at h; omega)
end Go.Proofs.Ytfmnkcmicbnfdaa
