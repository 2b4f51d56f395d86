/- Take, whatever is asked. -/
import Derived.Test.YtoelddjmjhnbaaaTapeR
namespace Go.Proofs.Ytoelddjmjhnbaaa
open Go Go.RowKit

abbrev Takes := List (ByteArray × Int × Int)
/-- What Take(what, n) brings: bytes, error, place, takes. -/
structure TS where
  out : List UInt8
  err : Int
  at_ : Nat
  T : Takes
def tstep (b : List UInt8) (at_ : Nat) (T : Takes) (what : ByteArray) (n : Int) : TS :=
  if n < 0 then ⟨[], 1, at_, T⟩ else if (b.length : Int) < n + at_ then ⟨[], 9, at_, T⟩ else ⟨(b.drop at_).take n.toNat, 0, at_ + n.toNat, T ++ [(what, (at_ : Int), n)]⟩
theorem tstep_le (b : List UInt8) (at_ : Nat) (T : Takes) (what : ByteArray) (n : Int) (h : at_ ≤ b.length) : (tstep b at_ T what n).at_ ≤ b.length := by
  unfold tstep; split
  · exact h
  · split
    · exact h
    · simp; omega
theorem tstep_T (b : List UInt8) (at_ : Nat) (T : Takes) (what : ByteArray) (n : Int) : (tstep b at_ T what n).T.length ≤ T.length + 1 := by
  unfold tstep; split
  · simp
  · split
    · simp
    · simp
theorem TapeAt.le {w : World} {p : Nat} {wf rb : List Nat} {bs : List Value} {at_ : Nat} {T : Takes} (h : TapeAt w p wf rb bs at_ T) : at_ ≤ bs.length := by obtain ⟨_, _, _, _, _, _, ha, _⟩ := h; exact ha

theorem tapeTakeA (p : Nat) (wf rb : List Nat) (b : List UInt8) (at_ : Nat) (T : Takes) (w : World) (h : TapeAt w p wf rb (b.map B) at_ T) (hn : b.length ≤ 60000) (hT : T.length ≤ 60000)
    (what : ByteArray) (n : Int) (R : Ending → World → Prop)
    (hR : ∀ ao' cap' wf' w', Sl w' 1 ao' (tstep b at_ T what n).out.length cap' ((tstep b at_ T what n).out.map B) → TapeAt w' p wf' rb (b.map B) (tstep b at_ T what n).at_ (tstep b at_ T what n).T → Keep wf w w' →
      Inn wf' wf w → Fr (blk ao') w → Dis (blk ao') wf' → R (.returned (.tuple #[.slice ao' (tstep b at_ T what n).out.length cap', .int .i64 (tstep b at_ T what n).err])) w') :
    Calls Try.prog 17 #[.pointer (some ⟨p, 0, none⟩), .string what, .int .i64 n] w R := by
  unfold tstep at hR
  by_cases h0 : n < 0
  · rw [if_pos h0] at hR
    exact tapeTakeNeg _ _ _ _ h0 _ (hR none 0 wf w (Sl.none w 1) h (Keep.refl _ _) (fun g hg => .inl hg) (by simp [Fr, blk]) (by simp [Dis, blk]))
  · rw [if_neg h0] at hR
    by_cases h1 : (b.length : Int) < n + at_
    · rw [if_pos h1] at hR
      refine tapeTakeOver p wf rb _ at_ T w h (by simpa using hn) _ _ (by omega) (by simpa using h1) _ fun w' g => ?_
      exact hR none 0 wf w' (Sl.none w' 1) (h.keep (Keep.of_grow [] g) (by simp) (by simp)) (Keep.of_grow _ g) (fun g hg => .inl hg) (by simp [Fr, blk]) (by simp [Dis, blk])
    · rw [if_neg h1] at hR
      have hl : ((b.drop at_).take n.toNat).length = n.toNat := by simp; omega
      simp only [hl] at hR
      obtain ⟨m, rfl⟩ : ∃ m : Nat, n = m := ⟨n.toNat, by omega⟩
      simp only [Int.toNat_natCast] at hR
      refine tapeTake p wf rb _ at_ T w h (by simpa using hn) hT _ m (by simp; omega) _ fun ao' cap' wf' w' o t k i f d => ?_
      exact hR ao' cap' wf' w' (by simpa [List.map_take, List.map_drop] using o.sl) t k i f d

set_option maxHeartbeats 400000 in
theorem refTakeNeg (a : Option Addr) (w : World) (what : ByteArray) (n : Int) (hn : n < 0) (R : Ending → World → Prop) (hR : R (.returned (.tuple #[.slice none 0 0, .int .i64 1])) w) :
    Calls Try.prog 18 #[.pointer a, .string what, .int .i64 n] w R := by
  go_enter Try.func18, Try.ntmps18
  go_wp2
  exact hR

set_option maxHeartbeats 400000 in
theorem refTakeOver (q : Nat) (rb : List Nat) (bs : List Value) (at_ : Nat) (T : Takes) (w : World) (h : RefAt w q rb bs at_ T) (hn : bs.length ≤ 60000)
    (what : ByteArray) (n : Int) (h0 : 0 ≤ n) (hle : (bs.length : Int) < n + at_) (R : Ending → World → Prop)
    (hR : ∀ w', Grow w w' → R (.returned (.tuple #[.slice none 0 0, .int .i64 9])) w') :
    Calls Try.prog 18 #[.pointer (some ⟨q, 0, none⟩), .string what, .int .i64 n] w R := by
  obtain ⟨bo, bc, lo, lc, ho, hs, ha, hl, hq, hq2, rfl⟩ := h
  have g0 := KW.cell (fp := []) (p0 := tt) (obj_cell ho 0 rfl) (by simp)
  have g1 := KW.cell (fp := []) (p0 := tt) (obj_cell ho 1 rfl) (by simp)
  have hx : (bs.length : Int) - at_ < n := by omega
  go_enter Try.func18, Try.ntmps18
  go_wp2
  refine wp_region_R (segL w) (by kernel_rfl) segL_drew ?_
  unfold segL segK segR
  repeat (first | (refine wpV_skip rfl rfl ?_) | (refine wpV_free rfl rfl rfl rfl (fun K hK => ?_); go_big_quiet_op; refine hK _ ?_; clear hK K) | (refine wpV_look rfl rfl rfl rfl rfl (fun K hK => ?_); go_big_quiet_op; refine hK _ ?_; clear hK K))
  refine wpV_nil ?_
  intro w1 hC _
  obtain ⟨⟨w1, hk1, -⟩, rfl⟩ := hC
  go_wp2
  exact hk1.grow

theorem refTakeA (q : Nat) (rb : List Nat) (b : List UInt8) (at_ : Nat) (T : Takes) (w : World) (h : RefAt w q rb (b.map B) at_ T) (hn : b.length ≤ 60000) (hT : T.length ≤ 60000)
    (what : ByteArray) (n : Int) (R : Ending → World → Prop)
    (hR : ∀ ao' cap' rb' w', Sl w' 1 ao' (tstep b at_ T what n).out.length cap' ((tstep b at_ T what n).out.map B) → RefAt w' q rb' (b.map B) (tstep b at_ T what n).at_ (tstep b at_ T what n).T → Keep [q] w w' →
      Inn rb' rb w → Fr (blk ao') w → R (.returned (.tuple #[.slice ao' (tstep b at_ T what n).out.length cap', .int .i64 (tstep b at_ T what n).err])) w') :
    Calls Try.prog 18 #[.pointer (some ⟨q, 0, none⟩), .string what, .int .i64 n] w R := by
  unfold tstep at hR
  by_cases h0 : n < 0
  · rw [if_pos h0] at hR
    exact refTakeNeg _ _ _ _ h0 _ (hR none 0 rb w (Sl.none w 1) h (Keep.refl _ _) (fun g hg => .inl hg) (by simp [Fr, blk]))
  · rw [if_neg h0] at hR
    by_cases h1 : (b.length : Int) < n + at_
    · rw [if_pos h1] at hR
      refine refTakeOver q rb _ at_ T w h (by simpa using hn) _ _ (by omega) (by simpa using h1) _ fun w' g => ?_
      exact hR none 0 rb w' (Sl.none w' 1) (h.keep (Keep.of_grow [] g) (by simp) (by simp)) (Keep.of_grow _ g) (fun g hg => .inl hg) (by simp [Fr, blk])
    · rw [if_neg h1] at hR
      have hl : ((b.drop at_).take n.toNat).length = n.toNat := by simp; omega
      simp only [hl] at hR
      obtain ⟨m, rfl⟩ : ∃ m : Nat, n = m := ⟨n.toNat, by omega⟩
      simp only [Int.toNat_natCast] at hR
      refine refTake q rb _ at_ T w h (by simpa using hn) hT _ m (by simp; omega) _ fun ao' cap' rb' w' o t k i f => ?_
      exact hR ao' cap' rb' w' (by simpa [List.map_take, List.map_drop] using o.sl) t k i f
end Go.Proofs.Ytoelddjmjhnbaaa
