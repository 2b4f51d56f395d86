/- Bytes of no order. -/
import Derived.Test.YtfmnkcmicbnfdaaGTab
import Derived.Test.YtfmnkcmicbnfdaaGSha2
namespace Go.Proofs.Ytfmnkcmicbnfdaa
open Go Go.RowKit

theorem u8_of (e : Int) : ∃ b : UInt8, Value.int .u8 (e % 256) = B b := by
  refine ⟨UInt8.ofNat (e % 256).toNat, ?_⟩
  simp [B, UInt8.toNat_ofNat']
  omega

set_option maxRecDepth 100000 in
set_option maxHeartbeats 1000000 in
theorem alikeTapeC (seed : Int) (n : Nat) (hn : n ≤ 100000) (w : World) (R : Ending → World → Prop)
    (hR : ∀ (ao : Option Addr) (c : Nat) (bs : List UInt8) (w' : World), bs.length = n → Sl w' 1 ao n c (bs.map B) → Grow w w' → R (.returned (.slice ao n c)) w') :
    Calls Try.prog 16 #[.int .i64 seed, .int .i64 (n : Int)] w R := by
  have hml : maxLen = 9223372036854775807 := rfl
  have mk : ∀ w : World, (Instr.makeSlice 27 (.int .i64 (n : Int)) (.int .i64 (n : Int))).run Try.prog w = .ok (.slice (some ⟨w.heap.size, 0, none⟩) n n) (w.alloc (.cells (List.replicate n (.int .u8 0)).toArray 5)) := make_bytes n (by omega)
  have o0 := own_new (t := 5) (n := n) w (.int .u8 0) rfl (by omega)
  have g0 := Grow.alloc w (.cells (List.replicate n (.int .u8 0)).toArray 5)
  obtain ⟨w0, hw0⟩ : ∃ w0, w0 = w.alloc (.cells (List.replicate n (.int .u8 0)).toArray 5) := ⟨_, rfl⟩
  have hmk := mk w
  rw [← hw0] at o0 g0 hmk
  have hrep : List.replicate n (Value.int .u8 0) = (List.replicate n (0 : UInt8)).map B := by rw [List.map_replicate]; rfl
  rw [hrep] at o0
  obtain ⟨q, hq⟩ : ∃ q, q = w.heap.size := ⟨_, rfl⟩
  rw [← hq] at o0 hmk
  have hq' := Nat.le_of_eq hq.symm
  clear mk hw0 hrep hq
  go_enter Try.func16, Try.ntmps16
  go_wp2_with fail
  go_loopw [5, 7] (fun vx vi wr => ∃ (x : Int) (i : Nat) (bs : List UInt8), vx = .int .u64 x ∧ vi = .int .i64 (i : Int) ∧ i ≤ n ∧ Hid (bs.length = n) ∧ Own wr 5 1 (some ⟨q, 0, none⟩) n n (bs.map B) ∧ Grow w wr) (fun _ vi _ => n - (intOf vi).toNat)
  case atStart => exact ⟨_, 0, List.replicate n 0, rfl, by simp, by omega, Lib.hid (by simp), o0, g0⟩
  case round =>
    clear o0 g0 hmk
    obtain ⟨x, i, bs, rfl, rfl, hi, hl, o, g⟩ := hrel
    by_cases hlt : i < n
    · obtain ⟨g3, v, eg, hv, hfz, hset⟩ := own_put o (i := i) (by omega)
      cases eg
      go_wp2_with fail
      go_roundw
      case rel =>
        have key : ∀ e : Int, ∃ bs' : List UInt8, bs'.length = n ∧ Own (wr.setCell ⟨q, i, none⟩ (.int .u8 (e % 256))) 5 1 (some ⟨q, 0, none⟩) n n (bs'.map B) ∧ Grow w (wr.setCell ⟨q, i, none⟩ (.int .u8 (e % 256))) := fun e => by
          obtain ⟨b, hb⟩ := u8_of e
          refine ⟨bs.set i b, by rw [List.length_set]; exact hl.out, ?_, g.then (Keep.setCell (fp := [q]) wr ⟨q, i, none⟩ (by simp) _) (fun y hy => by simp at hy; omega)⟩
          rw [List.map_set, ← hb]
          exact hset _ rfl
        refine ⟨_, i + 1, Classical.choose (key _), rfl, by go_num, by omega, Lib.hid (Classical.choose_spec (key _)).1, (Classical.choose_spec (key _)).2.1, (Classical.choose_spec (key _)).2.2⟩
      case measure => simp [intOf]; omega
    · obtain rfl : i = n := by omega
      have hf := hR (some ⟨q, 0, none⟩) i bs wr hl.out o.sl g
      clear hR
      go_wp2_with fail
      exact hf
end Go.Proofs.Ytfmnkcmicbnfdaa
