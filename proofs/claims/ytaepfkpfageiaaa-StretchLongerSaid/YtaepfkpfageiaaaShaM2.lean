/- The document's text of a sum. -/
import Derived.Test.YtaepfkpfageiaaaGNew
import Derived.Test.YtaepfkpfageiaaaGSha3
import Derived.Deep.DeepCutAuto
namespace Go.Proofs.Ytaepfkpfageiaaa
open Go Go.RowKit

theorem hx_ext (k : Nat) (hk : k < 16) : (⟨#[48, 49, 50, 51, 52, 53, 54, 55, 56, 57, 97, 98, 99, 100, 101, 102]⟩ : ByteArray).extract k (k + 1) = str [hx k] := by
  have hc : k = 0 ∨ k = 1 ∨ k = 2 ∨ k = 3 ∨ k = 4 ∨ k = 5 ∨ k = 6 ∨ k = 7 ∨ k = 8 ∨ k = 9 ∨ k = 10 ∨ k = 11 ∨ k = 12 ∨ k = 13 ∨ k = 14 ∨ k = 15 := by omega
  rcases hc with rfl | rfl | rfl | rfl | rfl | rfl | rfl | rfl | rfl | rfl | rfl | rfl | rfl | rfl | rfl | rfl <;> rfl
theorem str_size (l : List UInt8) : (str l).size = l.length := rfl
theorem str_app (a b : List UInt8) : str a ++ str b = str (a ++ b) := by
  apply ByteArray.ext
  rw [ByteArray.data_append]
  simp [str]

set_option maxRecDepth 100000 in
set_option maxHeartbeats 2000000 in
theorem rTextC (l : List UInt8) (hl : l.length = 32) (w : World) (R : Ending → World → Prop) (hR : ∀ w', Grow w w' → R (.returned (.string (str (textS l)))) w') :
    Calls Try.prog 34 #[.agg (l.map B).toArray] w R := by
  have ob := Own.made (n := 32) (sz := 1) (heap_alloc_new w (.cells (l.map B).toArray 27)) (by simp [hl]) (by decide) (by simpa using B_one l)
  have g1 := Grow.alloc w (.cells (l.map B).toArray 27)
  simp only [] at ob
  go_enter Try.func34, Try.ntmps34
  go_wp2_with fail
  generalize w.alloc (.cells (l.map B).toArray 27) = w1 at *
  obtain ⟨q, hq⟩ : ∃ q, q = w.heap.size := ⟨_, rfl⟩
  rw [← hq] at ob ⊢
  clear hq
  go_loopw [3, 4] (fun vs vi wr => ∃ (i : Nat) (S : List UInt8), vi = .int .i64 (i : Int) ∧ i ≤ 32 ∧ vs = .string (str S) ∧ Hid (S = textS (l.take i)) ∧ Hid (S.length = 2 * i) ∧ Grow w1 wr) (fun _ vi _ => 32 - (intOf vi).toNat)
  case atStart => exact ⟨0, [], by simp, by omega, rfl, Lib.hid (by simp [textS]), Lib.hid (by simp), Grow.refl _⟩
  case round =>
    obtain ⟨i, S, rfl, hi, rfl, hS, hSl, hg⟩ := hrel
    by_cases h32 : i < 32
    · obtain ⟨g', off', eg, hcs⟩ := (ob.grow hg).sl.hat (by omega)
      cases eg
      have hx8 : (l[i]'(by omega)).toNat < 256 := UInt8.toNat_lt _
      obtain ⟨x, hx0⟩ : ∃ x, x = (l[i]'(by omega)).toNat := ⟨_, rfl⟩
      rw [← hx0] at hx8
      have c0 := hcs.at (i := i) (v := .int .u8 (x : Int)) (by rw [hx0]; simp [hl, h32, B])
      rw [Nat.zero_add] at c0
      have c1 := KW.cell (fp := []) (p0 := tt) c0 (by simp)
      have hnx : Hid (S ++ [hx (x / 16)] ++ [hx (x % 16)] = textS (l.take (i + 1))) := Lib.hid (by
        rw [List.take_add_one, List.getElem?_eq_getElem (by omega), textS, List.flatMap_append, hS.out, hx0]
        simp [textS])
      have hA := hx_ext (x / 16) (by omega)
      have hB := hx_ext (x % 16) (by omega)
      have z0 : (str S).size ≤ 64 := by rw [str_size]; have := hSl.out; omega
      have z1 : (str [hx (x / 16)]).size ≤ 1 := Nat.le_refl _
      have z2 : (str [hx (x % 16)]).size ≤ 1 := Nat.le_refl _
      generalize hx (x / 16) = dA at hA hnx z1
      generalize hx (x % 16) = dB at hB hnx z2
      clear hcs hx0 c0
      go_upto_region 5 with (fail)
      refine wp_region_R (segL wr) (by kernel_rfl) segL_drew ?_
      unfold segL segK segR
      repeat (first | (refine wpV_skp rfl rfl ?_; simp only [List.set_cons_succ, List.set_cons_zero]) | (refine wpV_look rfl rfl rfl rfl rfl (fun K hK => ?_); go_big_quiet_op; refine hK _ ?_; clear hK K))
      refine wpV_nil ?_
      intro w5 hC _
      obtain ⟨⟨w5, hk5, -⟩, rfl⟩ := hC
      have g5 := hg.trans hk5.grow
      clear hA hB c1
      go_wp2_with fail
      go_roundw
      case rel => exact ⟨i + 1, S ++ [dA] ++ [dB], by go_num, by omega, by rw [str_app, str_app], hnx, Lib.hid (by have := hSl.out; simp; omega), g5⟩
      case measure => simp [intOf]; omega
    · obtain rfl : i = 32 := by omega
      have hfin : str S = str (textS l) := by rw [hS.out, List.take_of_length_le (by omega)]
      have hf := hR wr (g1.trans hg)
      rw [← hfin] at hf
      clear hR hfin
      go_wp2_with fail
      exact hf
end Go.Proofs.Ytaepfkpfageiaaa
