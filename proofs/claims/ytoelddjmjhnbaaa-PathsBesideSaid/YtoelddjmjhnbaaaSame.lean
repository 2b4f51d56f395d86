/- priorylaw17.same. -/
import Derived.Test.YtoelddjmjhnbaaaFlat
namespace Go.Proofs.Ytoelddjmjhnbaaa
open Go Go.RowKit
theorem neqPl (a b c d : Int) (w : World) : (binOp .neq 59 (.agg #[.int .i64 a, .int .i64 b]) (.agg #[.int .i64 c, .int .i64 d])).run Try.prog w = .ok (.bool (decide (¬ (a = c ∧ b = d)))) w := by
  by_cases h1 : a = c
  · by_cases h2 : b = d
    · subst h1 h2; go_simp
    · subst h1; go_simp
  · go_simp

set_option maxRecDepth 100000 in
set_option maxHeartbeats 1000000 in
theorem sameC (ao bo : Option Addr) (ca cb : Nat) (A C : List Pl) (w : World) (ha : Sl w 2 ao A.length ca (pk A)) (hb : Sl w 2 bo C.length cb (pk C)) (hA : A.length ≤ 70000) (R : Ending → World → Prop)
    (hR : ∀ w', Grow w w' → R (.returned (.bool (decide (A = C)))) w') : Calls Try.prog 31 #[.slice ao A.length ca, .slice bo C.length cb] w R := by
  by_cases hlen : A.length = C.length
  · go_enter Try.func31, Try.ntmps31
    rw [← hlen] at hb ⊢
    go_wp2_with fail
    go_loopw [5] (fun i wr => ∃ k : Nat, k ≤ A.length ∧ i = .int .i64 k ∧ Grow w wr ∧ A.take k = C.take k) (fun i _ => A.length - (intOf i).toNat)
    case atStart => exact ⟨0, Nat.zero_le _, rfl, Grow.refl w, rfl⟩
    case round =>
      obtain ⟨k, hk, rfl, hg, heq⟩ := hrel
      by_cases hlt : k < A.length
      · have hlt' : k < C.length := by omega
        obtain ⟨g, off, ea, hc⟩ := (ha.grow hg).hat (by omega)
        obtain ⟨g', off', eb, hc'⟩ := (hb.grow hg).hat (by omega)
        subst ea eb
        have hc1 := Sl.place hc k hlt
        have hc2 := Sl.place hc' k hlt'
        have l1 : ∀ n : KW [] tt wr, (Instr.loadAt 59 (.pointer (some ⟨g, off + k * 2, none⟩))).run Try.prog n.w = .ok (.agg #[.int .i64 A[k].1, .int .i64 A[k].2]) n.w := fun n => run_ld Try.underlying59 rfl (by kernel_rfl) (hc1.keep n.h (by simp))
        have l2 : ∀ n : KW [] tt wr, (Instr.loadAt 59 (.pointer (some ⟨g', off' + k * 2, none⟩))).run Try.prog n.w = .ok (.agg #[.int .i64 C[k].1, .int .i64 C[k].2]) n.w := fun n => run_ld Try.underlying59 rfl (by kernel_rfl) (hc2.keep n.h (by simp))
        clear hc hc' hc1 hc2
        obtain ⟨⟨a, b⟩, eA⟩ : ∃ t, t = A[k] := ⟨_, rfl⟩
        obtain ⟨⟨c, d⟩, eC⟩ : ∃ t, t = C[k] := ⟨_, rfl⟩
        rw [← eA] at l1
        rw [← eC] at l2
        simp only at l1 l2
        by_cases hac : a = c
        · subst hac
          by_cases hbd : b = d
          · subst hbd
            go_wp2_with fail
            refine wp_region_R (segL wr) (by kernel_rfl) segL_drew ?_
            unfold segL segK segR
            repeat (first | (refine wpV_skip rfl rfl ?_) | (refine wpV_look rfl rfl rfl rfl rfl (fun K hK => ?_); go_big_quiet_op; refine hK _ ?_; clear hK K))
            refine wpV_val rfl rfl rfl rfl rfl _ (fun w hC => by obtain ⟨n, rfl⟩ := hC; exact exec_load (l1 n)) ?_
            simp only [List.set_cons_succ, List.set_cons_zero]
            repeat (first | (refine wpV_skip rfl rfl ?_) | (refine wpV_look rfl rfl rfl rfl rfl (fun K hK => ?_); go_big_quiet_op; refine hK _ ?_; clear hK K))
            refine wpV_val rfl rfl rfl rfl rfl _ (fun w hC => by obtain ⟨n, rfl⟩ := hC; exact exec_load (l2 n)) ?_
            simp only [List.set_cons_succ, List.set_cons_zero]
            repeat (first | (refine wpV_skip rfl rfl ?_) | (refine wpV_look rfl rfl rfl rfl rfl (fun K hK => ?_); go_big_quiet_op; refine hK _ ?_; clear hK K))
            refine wpV_nil ?_
            intro w4 hC _
            obtain ⟨⟨w4, hk4, -⟩, rfl⟩ := hC
            go_wp2_with fail
            go_roundw
            case rel => exact ⟨k + 1, by omega, by go_num, hg.trans hk4.grow, by rw [List.take_add_one, List.take_add_one, heq, List.getElem?_eq_getElem hlt, List.getElem?_eq_getElem hlt', ← eA, ← eC]⟩
            case measure => simp [intOf]; omega
          · have hd := decide_eq_false hbd
            have hAC : A ≠ C := fun e => by subst e; rw [← eA] at eC; simp at eC; exact hbd eC.symm
            have : decide (A = C) = false := by simp [hAC]
            rw [this] at hR
            go_wp2_with fail
            refine wp_region_R (segL wr) (by kernel_rfl) segL_drew ?_
            unfold segL segK segR
            repeat (first | (refine wpV_skip rfl rfl ?_) | (refine wpV_look rfl rfl rfl rfl rfl (fun K hK => ?_); go_big_quiet_op; refine hK _ ?_; clear hK K))
            refine wpV_val rfl rfl rfl rfl rfl _ (fun w hC => by obtain ⟨n, rfl⟩ := hC; exact exec_load (l1 n)) ?_
            simp only [List.set_cons_succ, List.set_cons_zero]
            repeat (first | (refine wpV_skip rfl rfl ?_) | (refine wpV_look rfl rfl rfl rfl rfl (fun K hK => ?_); go_big_quiet_op; refine hK _ ?_; clear hK K))
            refine wpV_val rfl rfl rfl rfl rfl _ (fun w hC => by obtain ⟨n, rfl⟩ := hC; exact exec_load (l2 n)) ?_
            simp only [List.set_cons_succ, List.set_cons_zero]
            repeat (first | (refine wpV_skip rfl rfl ?_) | (refine wpV_look rfl rfl rfl rfl rfl (fun K hK => ?_); go_big_quiet_op; refine hK _ ?_; clear hK K))
            refine wpV_nil ?_
            intro w4 hC _
            obtain ⟨⟨w4, hk4, -⟩, rfl⟩ := hC
            go_wp2
            exact hg.trans hk4.grow
        · have hd := decide_eq_false hac
          have hAC : A ≠ C := fun e => by subst e; rw [← eA] at eC; simp at eC; exact hac eC.1.symm
          have : decide (A = C) = false := by simp [hAC]
          rw [this] at hR
          go_wp2_with fail
          refine wp_region_R (segL wr) (by kernel_rfl) segL_drew ?_
          unfold segL segK segR
          repeat (first | (refine wpV_skip rfl rfl ?_) | (refine wpV_look rfl rfl rfl rfl rfl (fun K hK => ?_); go_big_quiet_op; refine hK _ ?_; clear hK K))
          refine wpV_val rfl rfl rfl rfl rfl _ (fun w hC => by obtain ⟨n, rfl⟩ := hC; exact exec_load (l1 n)) ?_
          simp only [List.set_cons_succ, List.set_cons_zero]
          repeat (first | (refine wpV_skip rfl rfl ?_) | (refine wpV_look rfl rfl rfl rfl rfl (fun K hK => ?_); go_big_quiet_op; refine hK _ ?_; clear hK K))
          refine wpV_val rfl rfl rfl rfl rfl _ (fun w hC => by obtain ⟨n, rfl⟩ := hC; exact exec_load (l2 n)) ?_
          simp only [List.set_cons_succ, List.set_cons_zero]
          repeat (first | (refine wpV_skip rfl rfl ?_) | (refine wpV_look rfl rfl rfl rfl rfl (fun K hK => ?_); go_big_quiet_op; refine hK _ ?_; clear hK K))
          refine wpV_nil ?_
          intro w4 hC _
          obtain ⟨⟨w4, hk4, -⟩, rfl⟩ := hC
          go_wp2
          exact hg.trans hk4.grow
      · have hAC : A = C := by
          rw [List.take_of_length_le (by omega), List.take_of_length_le (by omega)] at heq
          exact heq
        have : decide (A = C) = true := by simp [hAC]
        rw [this] at hR
        go_wp2
        exact hg
  · have hAC : A ≠ C := fun e => hlen (by rw [e])
    have : decide (A = C) = false := by simp [hAC]
    rw [this] at hR
    go_enter Try.func31, Try.ntmps31
    go_wp2
    exact Grow.refl w
end Go.Proofs.Ytoelddjmjhnbaaa
