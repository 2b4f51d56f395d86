/- comparing takes. -/
import Derived.Test.YtoelddjmjhnbaaaTapeR
namespace Go.Proofs.Ytoelddjmjhnbaaa
open Go Go.RowKit

theorem tk_length (T : List (ByteArray × Int × Int)) : (tk T).length = T.length * 3 := by
  induction T with
  | nil => rfl
  | cons t T ih => simp only [tk, List.flatMap_cons, List.length_append, List.length_cons, List.length_nil] at ih ⊢; omega
theorem tk_at (T : List (ByteArray × Int × Int)) : ∀ i (h : i < T.length), (tk T)[i * 3]? = some (.string T[i].1) ∧ (tk T)[i * 3 + 1]? = some (.int .i64 T[i].2.1) ∧ (tk T)[i * 3 + 2]? = some (.int .i64 T[i].2.2) := by
  induction T with
  | nil => intro i h; simp at h
  | cons t T ih =>
    intro i h
    cases i with
    | zero => simp [tk]
    | succ i =>
      have := ih i (by simpa using h)
      simp only [tk, List.flatMap_cons] at this ⊢
      have e0 : (i + 1) * 3 = i * 3 + 3 := by omega
      rw [e0]
      simpa [List.getElem?_append, show ¬ (i * 3 + 3 < 3) by omega, show ¬ (i * 3 + 3 + 1 < 3) by omega, show ¬ (i * 3 + 3 + 2 < 3) by omega, Nat.add_sub_cancel] using this

theorem neqTake (s : ByteArray) (x y : Int) (w : World) : (binOp .neq 46 (.agg #[.string s, .int .i64 x, .int .i64 y]) (.agg #[.string s, .int .i64 x, .int .i64 y])).run Try.prog w = .ok (.bool false) w := by
  go_simp

set_option maxHeartbeats 400000 in
theorem takesEq (ao bo : Option Addr) (ca cb : Nat) (T : List (ByteArray × Int × Int)) (w : World) (ha : Sl w 3 ao T.length ca (tk T)) (hb : Sl w 3 bo T.length cb (tk T)) (hT : T.length ≤ 60000) (R : Ending → World → Prop)
    (hR : ∀ w', Grow w w' → R (.returned (.bool true)) w') : Calls Try.prog 21 #[.slice ao T.length ca, .slice bo T.length cb] w R := by
  by_cases h0 : T.length = 0
  · obtain rfl := List.eq_nil_of_length_eq_zero h0
    clear h0
    go_enter Try.func21, Try.ntmps21
    go_wp2
    refine wp_loop_rounds 1 ?_; rw [rounds_succ]
    go_wp2
    exact Grow.refl w
  · obtain ⟨g, off, rfl, hc⟩ := ha.hat (by omega)
    obtain ⟨g', off', rfl, hc'⟩ := hb.hat (by omega)
    clear ha hb
    go_enter Try.func21, Try.ntmps21
    go_wp2
    go_loopw [5] (fun i wr => ∃ k : Nat, k ≤ T.length ∧ i = .int .i64 k ∧ Grow w wr) (fun i _ => T.length - (intOf i).toNat)
    case atStart => exact ⟨0, Nat.zero_le _, rfl, Grow.refl w⟩
    case round =>
      obtain ⟨k, hk, rfl, hg⟩ := hrel
      by_cases hlt : k < T.length
      · obtain ⟨e0, e1, e2⟩ := tk_at T k hlt
        have hc1 : Cells wr g (off + k * 3) [.string T[k].1, .int .i64 T[k].2.1, .int .i64 T[k].2.2] := (hc.keep (Keep.of_grow [] hg) (by simp)).sub fun i hi => by
          match i, hi with
          | 0, _ => exact e0
          | 1, _ => exact e1
          | 2, _ => exact e2
        have hc2 : Cells wr g' (off' + k * 3) [.string T[k].1, .int .i64 T[k].2.1, .int .i64 T[k].2.2] := (hc'.keep (Keep.of_grow [] hg) (by simp)).sub fun i hi => by
          match i, hi with
          | 0, _ => exact e0
          | 1, _ => exact e1
          | 2, _ => exact e2
        have l1 : ∀ n : KW [] tt wr, (Instr.loadAt 46 (.pointer (some ⟨g, off + k * 3, none⟩))).run Try.prog n.w = .ok (.agg #[.string T[k].1, .int .i64 T[k].2.1, .int .i64 T[k].2.2]) n.w := fun n => run_ld Try.underlying46 rfl (by kernel_rfl) (hc1.keep n.h (by simp))
        have l2 : ∀ n : KW [] tt wr, (Instr.loadAt 46 (.pointer (some ⟨g', off' + k * 3, none⟩))).run Try.prog n.w = .ok (.agg #[.string T[k].1, .int .i64 T[k].2.1, .int .i64 T[k].2.2]) n.w := fun n => run_ld Try.underlying46 rfl (by kernel_rfl) (hc2.keep n.h (by simp))
        have hne := neqTake T[k].1 T[k].2.1 T[k].2.2
        clear e0 e1 e2 hc hc' hc1 hc2
        go_wp2
        refine wp_region_R (segL wr) (by kernel_rfl) segL_drew ?_
        unfold segL segK segR
        repeat (first | (refine wpV_skip rfl rfl ?_) | (refine wpV_look rfl rfl rfl rfl rfl (fun K hK => ?_); go_big_quiet_op; refine hK _ ?_; clear hK K))
        refine wpV_val rfl rfl rfl rfl rfl _ (fun w hC => by obtain ⟨n, rfl⟩ := hC; exact exec_load (l1 n)) ?_
        simp only [List.set_cons_succ, List.set_cons_zero]
        repeat (first | (refine wpV_skip rfl rfl ?_) | (refine wpV_look rfl rfl rfl rfl rfl (fun K hK => ?_); go_big_quiet_op; refine hK _ ?_; clear hK K))
        refine wpV_val rfl rfl rfl rfl rfl _ (fun w hC => by obtain ⟨n, rfl⟩ := hC; exact exec_load (l2 n)) ?_
        simp only [List.set_cons_succ, List.set_cons_zero]
        repeat (first | (refine wpV_skip rfl rfl ?_) | (refine wpV_look rfl rfl rfl rfl rfl (fun K hK => ?_); go_big_quiet_op; refine hK _ ?_; clear hK K))
        refine wpV_nil ?_
        intro w4 hC _
        obtain ⟨⟨w4, hk4, -⟩, rfl⟩ := hC
        go_wp2
        go_roundw
        case rel => exact ⟨k + 1, by omega, by go_num, hg.trans hk4.grow⟩
        case measure => simp [intOf]; omega
      · go_wp2
        exact hg
end Go.Proofs.Ytoelddjmjhnbaaa
