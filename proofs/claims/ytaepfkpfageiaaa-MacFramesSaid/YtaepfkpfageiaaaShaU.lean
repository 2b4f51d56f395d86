/- SHA-256 of a text, in lists: blocks, what is put behind the text, the bytes of the sum. -/
import Derived.Test.YtaepfkpfageiaaaShaS
namespace Go.Proofs.Ytaepfkpfageiaaa
open Go Go.RowKit

/-- A list as the eight words. -/
def ofL (H : List Nat) : St := ⟨H.getD 0 0, H.getD 1 0, H.getD 2 0, H.getD 3 0, H.getD 4 0, H.getD 5 0, H.getD 6 0, H.getD 7 0⟩
theorem ofL_list (H : List Nat) (h : H.length = 8) : (ofL H).list = H := by
  match H, h with
  | [a, b, c, d, e, f, g, k], _ => rfl
theorem ofL_ok (H : List Nat) (h : ∀ x ∈ H, x < 4294967296) : (ofL H).ok := by
  have hg : ∀ i, H.getD i 0 < 4294967296 := fun i => by
    rw [List.getD_eq_getElem?_getD]
    by_cases hi : i < H.length
    · rw [List.getElem?_eq_getElem hi]; exact h _ (List.getElem_mem hi)
    · rw [List.getElem?_eq_none (by omega)]; exact (by decide : 0 < 4294967296)
  exact ⟨hg 0, hg 1, hg 2, hg 3, hg 4, hg 5, hg 6, hg 7⟩
theorem mixS_ok (K : List Nat) (s : St) (l : List UInt8) : (mixS K s l).ok :=
  ⟨Nat.mod_lt _ (by decide), Nat.mod_lt _ (by decide), Nat.mod_lt _ (by decide), Nat.mod_lt _ (by decide), Nat.mod_lt _ (by decide), Nat.mod_lt _ (by decide), Nat.mod_lt _ (by decide), Nat.mod_lt _ (by decide)⟩
/-- The first n blocks mixed in. -/
def mixN (K : List Nat) (s : St) (l : List UInt8) : Nat → St
  | 0 => s
  | n + 1 => mixS K (mixN K s l n) ((l.drop (64 * n)).take 64)
theorem mixN_ok (K : List Nat) (s : St) (h : s.ok) (l : List UInt8) : ∀ n, (mixN K s l n).ok
  | 0 => h
  | _ + 1 => mixS_ok _ _ _
theorem mixN_app (K : List Nat) (s : St) (l x : List UInt8) : ∀ n, 64 * n ≤ l.length → mixN K s (l ++ x) n = mixN K s l n
  | 0, _ => rfl
  | n + 1, h => by
    rw [mixN, mixN, mixN_app K s l x n (by omega), List.drop_append_of_le_length (by omega), List.take_append_of_le_length (by rw [List.length_drop]; omega)]
theorem St.list_len (s : St) : s.list.length = 8 := rfl
/-- What is put behind a text. -/
def zerosN (n : Nat) : Nat := (119 - n % 64) % 64
def lenB (n i : Nat) : UInt8 := UInt8.ofNat (n * 8 / 2 ^ (56 - 8 * i))
def midS (l : List UInt8) : List UInt8 := l ++ 128 :: List.replicate (zerosN l.length) 0
def padS (l : List UInt8) : List UInt8 := midS l ++ (List.range 8).map (lenB l.length)
theorem midS_len (l : List UInt8) : (midS l).length = l.length + 1 + zerosN l.length := by simp [midS]; omega
theorem padS_len (l : List UInt8) : (padS l).length = l.length + 9 + zerosN l.length := by simp [padS, midS_len]; omega
theorem padS_mod (l : List UInt8) : (padS l).length % 64 = 0 := by rw [padS_len]; unfold zerosN; omega
theorem midS_mod (l : List UInt8) : (midS l).length % 64 = 56 := by rw [midS_len]; unfold zerosN; omega
/-- The sum's bytes. -/
def outB (L : List Nat) (i : Nat) : UInt8 := UInt8.ofNat (L.getD (i / 4) 0 / 2 ^ (24 - 8 * (i % 4)))
def outS (s : St) : List UInt8 := (List.range 32).map (outB s.list)
def sumOf (H K : List Nat) (l : List UInt8) : List UInt8 := outS (mixN K (ofL H) (padS l) ((padS l).length / 64))
def sumS (l : List UInt8) : List UInt8 := sumOf Hs Ks l
theorem sumOf_len (H K : List Nat) (l : List UInt8) : (sumOf H K l).length = 32 := by simp [sumOf, outS]
theorem sumS_len (l : List UInt8) : (sumS l).length = 32 := sumOf_len _ _ _
/-- A byte of a number, as the program writes it. -/
theorem byteV (n k : Nat) : (IntKind.u8.wrap ((n : Int) / ((2 ^ k : Nat) : Int))) = (((UInt8.ofNat (n / 2 ^ k)).toNat : Nat) : Int) := by
  have : IntKind.u8.wrap ((n : Int) / ((2 ^ k : Nat) : Int)) = (n : Int) / ((2 ^ k : Nat) : Int) % 256 := by simp [IntKind.wrap, IntKind.bits, IntKind.signed]
  rw [this]
  simp
end Go.Proofs.Ytaepfkpfageiaaa
