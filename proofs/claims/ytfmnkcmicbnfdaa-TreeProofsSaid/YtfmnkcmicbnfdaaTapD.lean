/- Bytes of no order: which they are hangs on the seed alone. -/
import Derived.Test.YtfmnkcmicbnfdaaTapS
import Derived.Test.YtfmnkcmicbnfdaaGTabE
namespace Go.Proofs.Ytfmnkcmicbnfdaa
open Go Go.RowKit

def tpF (x : Int) : Int :=
  bits BinOp.xor IntKind.u64
    (bits BinOp.xor IntKind.u64 (bits BinOp.xor IntKind.u64 x (IntKind.u64.wrap (x * 8192)))
      (bits BinOp.xor IntKind.u64 x (IntKind.u64.wrap (x * 8192)) / 128))
    (IntKind.u64.wrap
      (bits BinOp.xor IntKind.u64 (bits BinOp.xor IntKind.u64 x (IntKind.u64.wrap (x * 8192)))
          (bits BinOp.xor IntKind.u64 x (IntKind.u64.wrap (x * 8192)) / 128) *
        131072))
def tpX (seed : Int) : Nat → Int
  | 0 => IntKind.u64.wrap (IntKind.u64.wrap (IntKind.u64.wrap seed * 2862933555777941757) + 3037000493)
  | i + 1 => tpF (tpX seed i)
def tpB (seed : Int) (i : Nat) : UInt8 := UInt8.ofNat (tpX seed (i + 1) / 16777216 % 256).toNat
def tpS (seed : Int) (n : Nat) : List UInt8 := (List.range n).map (tpB seed)
theorem tpS_len (seed : Int) (n : Nat) : (tpS seed n).length = n := by simp [tpS]
theorem tpS_succ (seed : Int) (n : Nat) : tpS seed (n + 1) = tpS seed n ++ [tpB seed n] := by simp [tpS, List.range_succ]
theorem B_tp (e : Int) : B (UInt8.ofNat (e % 256).toNat) = .int .u8 (e % 256) := by
  simp [B, UInt8.toNat_ofNat']
  omega

set_option maxRecDepth 100000 in
set_option maxHeartbeats 1000000 in
theorem tapeD (seed : Int) (n : Nat) (hn : n ≤ 100000) (w : World) (R : Ending → World → Prop)
    (hR : ∀ (ao : Option Addr) (c : Nat) (w' : World), Own w' 5 1 ao n c ((tpS seed n).map B) → Grow w w' → Fr (blk ao) w → R (.returned (.slice ao n c)) w') :
    Calls Try.prog 16 #[.int .i64 seed, .int .i64 (n : Int)] w R := by
  have hml : maxLen = 9223372036854775807 := rfl
  have mk : ∀ w : World, (Instr.makeSlice 27 (.int .i64 (n : Int)) (.int .i64 (n : Int))).run Try.prog w = .ok (.slice (some ⟨w.heap.size, 0, none⟩) n n) (w.alloc (.cells (List.replicate n (.int .u8 0)).toArray 5)) := make_bytes n (by omega)
  have o0 := own_new (t := 5) (n := n) w (.int .u8 0) rfl (by omega)
  have g0 := Grow.alloc w (.cells (List.replicate n (.int .u8 0)).toArray 5)
  obtain ⟨w0, hw0⟩ : ∃ w0, w0 = w.alloc (.cells (List.replicate n (.int .u8 0)).toArray 5) := ⟨_, rfl⟩
  have hmk := mk w
  rw [← hw0] at o0 g0 hmk
  have hrep : List.replicate n (Value.int .u8 0) = (tpS seed 0).map B ++ List.replicate (n - 0) (Value.int .u8 0) := by simp [tpS]
  rw [hrep] at o0
  obtain ⟨q, hq⟩ : ∃ q, q = w.heap.size := ⟨_, rfl⟩
  rw [← hq] at o0 hmk
  have hq' := Nat.le_of_eq hq.symm
  clear mk hw0 hrep hq
  go_enter Try.func16, Try.ntmps16
  go_wp2_with fail
  go_loopw [5, 7] (fun vx vi wr => ∃ (x : Int) (i : Nat), vx = .int .u64 x ∧ vi = .int .i64 (i : Int) ∧ i ≤ n ∧ Hid (x = tpX seed i) ∧ Own wr 5 1 (some ⟨q, 0, none⟩) n n ((tpS seed i).map B ++ List.replicate (n - i) (.int .u8 0)) ∧ Grow w wr) (fun _ vi _ => n - (intOf vi).toNat)
  case atStart => exact ⟨tpX seed 0, 0, rfl, by simp, by omega, Lib.hid rfl, o0, g0⟩
  case round =>
    clear o0 g0 hmk
    obtain ⟨x, i, rfl, rfl, hi, hx, o, g⟩ := hrel
    by_cases hlt : i < n
    · obtain ⟨g3, v, eg, hv, hfz, hset⟩ := own_put o (i := i) (by omega)
      cases eg
      go_wp2_with fail
      go_roundw
      case rel =>
        have hx2 : tpX seed (i + 1) = tpF x := by rw [hx.out]; rfl
        have hb : B (tpB seed i) = .int .u8 (tpF x / 16777216 % 256) := by rw [← hx2]; exact B_tp _
        refine ⟨tpF x, i + 1, rfl, by go_num, by omega, Lib.hid hx2.symm, ?_, g.then (Keep.setCell (fp := [q]) wr ⟨q, i, none⟩ (by simp) _) (fun y hy => by simp at hy; omega)⟩
        have := set_pad (tpS seed i) n i (tpS_len seed i) hlt (tpB seed i)
        rw [tpS_succ, ← this, hb]
        exact hset _ rfl
      case measure => simp [intOf]; omega
    · obtain rfl : i = n := by omega
      rw [Nat.sub_self, List.replicate_zero, List.append_nil] at o
      have hf := hR (some ⟨q, 0, none⟩) i wr o g (fun y hy => by simp [blk] at hy; omega)
      clear hR
      go_wp2_with fail
      exact hf
end Go.Proofs.Ytfmnkcmicbnfdaa
