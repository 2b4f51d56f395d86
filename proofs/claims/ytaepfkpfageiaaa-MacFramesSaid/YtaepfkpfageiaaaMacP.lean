/- Tags: what they are, in lists of bytes. -/
import Derived.Test.YtaepfkpfageiaaaShaU
namespace Go.Proofs.Ytaepfkpfageiaaa
open Go Go.RowKit

/-- A key's 64 bytes. -/
def keyN (key : List UInt8) : List UInt8 := (if 64 < key.length then sumS key else key) ++ List.replicate (64 - (if 64 < key.length then sumS key else key).length) 0
def inK (key : List UInt8) : List UInt8 := (keyN key).map (· ^^^ 54)
def outK (key : List UInt8) : List UInt8 := (keyN key).map (· ^^^ 92)
def macS (key text : List UInt8) : List UInt8 := sumS (outK key ++ sumS (inK key ++ text))
theorem keyN_len (key : List UInt8) : (keyN key).length = 64 := by
  unfold keyN
  rw [List.length_append, List.length_replicate]
  split
  · rw [sumS_len]
  · omega
theorem inK_len (key : List UInt8) : (inK key).length = 64 := by rw [inK, List.length_map, keyN_len]
theorem outK_len (key : List UInt8) : (outK key).length = 64 := by rw [outK, List.length_map, keyN_len]
theorem macS_len (key text : List UInt8) : (macS key text).length = 32 := sumS_len _
/-- A length in four bytes. -/
def len4 (n : Nat) : List UInt8 := [UInt8.ofNat n, UInt8.ofNat (n / 256), UInt8.ofNat (n / 65536), UInt8.ofNat (n / 16777216)]
def framS (ls : List (List UInt8)) : List UInt8 := (ls.map fun l => len4 l.length ++ l).flatten
theorem len4_len (n : Nat) : (len4 n).length = 4 := rfl
theorem len4_val (n : Nat) (h : n < 4294967296) : ((len4 n).getD 0 0).toNat + ((len4 n).getD 1 0).toNat * 256 + ((len4 n).getD 2 0).toNat * 65536 + ((len4 n).getD 3 0).toNat * 16777216 = n := by
  simp [len4, UInt8.toNat_ofNat']; omega
theorem len4_inj (a b : Nat) (ha : a < 4294967296) (hb : b < 4294967296) (h : len4 a = len4 b) : a = b := by
  rw [← len4_val a ha, ← len4_val b hb, h]
theorem framS_nil : framS [] = [] := rfl
theorem framS_cons (l : List UInt8) (ls : List (List UInt8)) : framS (l :: ls) = len4 l.length ++ (l ++ framS ls) := by simp [framS]
theorem framS_app (a b : List (List UInt8)) : framS (a ++ b) = framS a ++ framS b := by simp [framS]
theorem framS_inj : ∀ (a b : List (List UInt8)), (∀ l ∈ a, l.length < 4294967296) → (∀ l ∈ b, l.length < 4294967296) → framS a = framS b → a = b
  | [], [], _, _, _ => rfl
  | [], y :: b, _, _, h => by rw [framS_nil, framS_cons] at h; simp [len4] at h
  | x :: a, [], _, _, h => by rw [framS_nil, framS_cons] at h; simp [len4] at h
  | x :: a, y :: b, ha, hb, h => by
    rw [framS_cons, framS_cons] at h
    obtain ⟨h1, h2⟩ := List.append_inj h (by rw [len4_len, len4_len])
    have hl := len4_inj _ _ (ha x (by simp)) (hb y (by simp)) h1
    obtain ⟨h3, h4⟩ := List.append_inj h2 hl
    rw [h3, framS_inj a b (fun l hl => ha l (by simp [hl])) (fun l hl => hb l (by simp [hl])) h4]
theorem framS_len (ls : List (List UInt8)) : (framS ls).length = 4 * ls.length + ls.flatten.length := by
  induction ls with
  | nil => rfl
  | cons l ls ih => rw [framS_cons]; simp [ih, len4_len]; omega
/-- A tag's first bytes. -/
def shortS (h : List UInt8) : List UInt8 := h.take 16
theorem keyN_short (key : List UInt8) (h : key.length ≤ 64) : keyN (key ++ List.replicate (64 - key.length) 0) = keyN key := by
  have a : ¬ 64 < (key ++ List.replicate (64 - key.length) (0 : UInt8)).length := by simp; omega
  have b : ¬ 64 < key.length := by omega
  unfold keyN
  rw [if_neg a, if_neg b]
  simp; omega
theorem keyN_long (key : List UInt8) (h : 64 < key.length) : keyN (sumS key) = keyN key := by
  have := sumS_len key
  unfold keyN
  rw [if_pos h, if_neg (by omega)]
theorem macS_short (key text : List UInt8) (h : key.length ≤ 64) : macS (key ++ List.replicate (64 - key.length) 0) text = macS key text := by
  unfold macS inK outK; rw [keyN_short key h]
theorem macS_long (key text : List UInt8) (h : 64 < key.length) : macS (sumS key) text = macS key text := by
  unfold macS inK outK; rw [keyN_long key h]
theorem xor_val (c : UInt8) (k : Nat) (hk : k < 256) : bits BinOp.xor IntKind.u8 (c.toNat : Int) (k : Int) = (((c ^^^ UInt8.ofNat k).toNat : Nat) : Int) := by
  have := UInt8.toNat_lt c
  rw [UInt8.toNat_xor, UInt8.toNat_ofNat', Nat.mod_eq_of_lt hk]
  exact u8_xor_nat _ _ (by omega) hk
end Go.Proofs.Ytaepfkpfageiaaa
