/- PathsWhole: the walk. -/
import Derived.Test.YtoelddjmjhnbaaaTree
namespace Go.Proofs.Ytoelddjmjhnbaaa
open Go Go.RowKit

set_option maxRecDepth 100000 in
set_option maxHeartbeats 2000000 in
theorem wholeC (n leaf : Int) (w : World) (hn : (Lit.int .i64 n).wf = true) (_ : (Lit.int .i64 leaf).wf = true) (R : Ending → World → Prop) (hR : ∀ w', Grow w w' → R (.returned (.bool true)) w') :
    Calls Try.prog 7 #[.int .i64 n, .int .i64 leaf] w R := by
  by_cases hb1 : n < 1 ∨ 600 < n ∨ leaf < 0 ∨ n ≤ leaf
  · have hlaw : ∀ w1, Calls Try.prog 24 #[] w1 (fun e w' => Grow w1 w' ∧ e = .returned (.bool true)) := fun w1 => awakeP w1 _ (fun w' g => ⟨g, rfl⟩)
    by_cases h1 : n < 1
    · go_enter Try.func7, Try.ntmps7
      go_wp2_with fail
      refine awakeP w _ ?_
      intro w1 g1
      go_wp2
      exact g1
    by_cases h2 : 600 < n
    · go_enter Try.func7, Try.ntmps7
      go_wp2_with fail
      refine awakeP w _ ?_
      intro w1 g1
      go_wp2
      exact g1
    by_cases h3 : leaf < 0
    · go_enter Try.func7, Try.ntmps7
      go_wp2_with fail
      refine awakeP w _ ?_
      intro w1 g1
      go_wp2
      exact g1
    have h4 : n ≤ leaf := by omega
    clear hb1
    go_enter Try.func7, Try.ntmps7
    go_wp2_with fail
    refine awakeP w _ ?_
    intro w1 g1
    go_wp2
    exact g1
  obtain ⟨m, rfl⟩ : ∃ m : Nat, n = m := ⟨n.toNat, by omega⟩
  obtain ⟨f, rfl⟩ : ∃ f : Nat, leaf = f := ⟨leaf.toNat, by omega⟩
  have hm1 : 1 ≤ m := by omega
  have hm6 : m ≤ 600 := by omega
  have hm2 : m ≤ 65536 := by omega
  have hfm : f < m := by omega
  clear hb1
  have hw : wide m = wl m := by unfold wide; rw [if_neg (by omega)]; rfl
  obtain ⟨K, hK, hK5⟩ : ∃ K, (wl m).length = K + 1 ∧ K ≤ 5 := by
    obtain ⟨K, hK, hreach, hless⟩ := lw_reach m (by omega)
    refine ⟨K, hK, Nat.le_of_not_lt fun h => ?_⟩
    have := hless 5 h
    omega
  have hw0 : wid m 0 = m := by have := wid_lw m 0 hm1 hm2; rw [lw_zero] at this; exact this
  have hwK : wid m (K : Int) = 1 := by rw [wid_lw m K hm1 hm2]; have := lw_last m hm1; rw [hK] at this; exact this
  have hf1 : decide ((m : Int) < 1) = false := by simp; omega
  have hf2 : decide (600 < (m : Int)) = false := by simp; omega
  have hf3 : decide ((f : Int) < 0) = false := by simp
  have hf4 : decide ((K : Int) + 1 < 1) = false := by simp; omega
  have hf5 : decide (10 < (K : Int) + 1) = false := by simp; omega
  go_enter Try.func7, Try.ntmps7
  go_wp2_with fail
  refine levelsC m hn w _ ?_
  rw [hw, hK]
  intro w1 g1
  go_wp2_with fail
  refine widthC m 0 hn w1 _ ?_
  rw [hw0]
  intro w2 g2
  go_wp2_with fail
  refine widthC m (K : Int) hn w2 _ ?_
  rw [hwK]
  intro w3 g3
  go_wp2_with fail
  have g03 := (g1.trans g2).trans g3
  clear g1 g2 g3
  go_loopw [6] (fun a wr => ∃ (l : Nat), a = .int .i64 ((l : Int) + 1) ∧ l ≤ K ∧ Grow w wr) (fun a _ => K + 1 - (intOf a).toNat)
  case atStart => exact ⟨0, by simp, Nat.zero_le _, g03⟩
  case round =>
    obtain ⟨l, rfl, hl, hg⟩ := hrel
    by_cases hlK : l < K
    · have hlen1 : l + 1 < (wl m).length := by omega
      have hnx := lw_next m l hlen1
      have hps := lw_pos m hm1 (l + 1) hlen1
      have hW : wid m ((l : Int) + 1) = lw m (l + 1) := wid_lw m (l + 1) hm1 hm2
      have hW0 : wid m (l : Int) = lw m l := wid_lw m l hm1 hm2
      have hle := lw_le m l
      have hle1 := lw_le m (l + 1)
      have hks := fun (i : Nat) (h : i < lw m (l + 1)) => kids_eq m l i hm1 hm2 h
      obtain ⟨A, hA⟩ : ∃ A, A = lw m l := ⟨_, rfl⟩
      obtain ⟨B, hB⟩ : ∃ B, B = lw m (l + 1) := ⟨_, rfl⟩
      rw [← hA, ← hB] at hnx
      rw [← hB] at hps hW hle1 hks
      rw [← hA] at hW0 hle hks
      clear hA hB
      go_wp2_with fail
      go_loopw [7, 8] (fun a b wr => ∃ (i T : Nat), a = .int .i64 (T : Int) ∧ b = .int .i64 (i : Int) ∧ T = min (4 * i) A ∧ i ≤ B ∧ Grow w wr) (fun _ b _ => B - (intOf b).toNat)
      case atStart => exact ⟨0, 0, by simp, by simp, by simp, Nat.zero_le _, hg⟩
      case round =>
        obtain ⟨i, T, rfl, rfl, hT, hi, hg2⟩ := hrel
        by_cases hlt : i < B
        · obtain rfl : T = 4 * i := by omega
          clear hT
          go_wp2_with fail
          refine widthC m ((l : Int) + 1) hn wr _ ?_
          rw [hW]
          intro w4 g4
          go_wp2_with fail
          refine kidsC m ((l : Int) + 1) i hn _ _ ?_
          have hkeq := hks i hlt
          rw [show ((l + 1 : Nat) : Int) = (l : Int) + 1 by omega] at hkeq
          rw [hkeq]
          obtain ⟨kl, hkl⟩ : ∃ kl, kl = (List.range (min 4 (A - 4 * i))).map fun (j : Nat) => ((l : Int), ((4 * i + j : Nat) : Int)) := ⟨_, rfl⟩
          rw [← hkl]
          have hkn : kl.length = min 4 (A - 4 * i) := by rw [hkl]; simp
          have hk1 : 4 * i + kl.length ≤ A ∧ (kl.length = 4 ∨ A ≤ 4 * i + kl.length) := by omega
          have hkpos : 1 ≤ kl.length ∧ kl.length ≤ 4 := by omega
          clear hkn
          have hkat : ∀ j (h : j < kl.length), kl[j] = ((l : Int), ((4 * i + j : Nat) : Int)) := fun j h => by subst hkl; simp
          have ob := heap_alloc_new w4 (.cells #[.int .i64 ((l : Int) + 1), .int .i64 (i : Int)] 54 (0, 0))
          have cb4 : Cells (w4.alloc (.cells #[.int .i64 ((l : Int) + 1), .int .i64 (i : Int)] 54 (0, 0))) w4.heap.size 0 [.int .i64 ((l : Int) + 1), .int .i64 (i : Int)] := by
            intro j hj
            rw [Nat.zero_add]
            exact obj_cell ob j (by match j, hj with | 0, _ => rfl | 1, _ => rfl)
          intro ko kc w5 ho5 g5 _
          have cb := cb4.keep (Keep.of_grow [] g5) (by simp)
          have so := ho5.sl
          have g25 := ((hg2.trans g4).trans (Grow.alloc w4 _)).trans g5
          clear hkeq hkl ob cb4 ho5 g4 g5
          have hf6 : decide ((kl.length : Int) < 1) = false := by simp; omega
          go_wp2_with fail
          go_loopw [7, 11] (fun a b wr => ∃ (j : Nat), a = .int .i64 ((4 * i + j : Nat) : Int) ∧ b = .int .i64 (j : Int) ∧ j ≤ kl.length ∧ Grow w5 wr) (fun _ b _ => kl.length - (intOf b).toNat)
          case atStart => exact ⟨0, rfl, by simp, Nat.zero_le _, Grow.refl _⟩
          case round =>
            obtain ⟨j, rfl, rfl, hj, hg5⟩ := hrel
            by_cases hjl : j < kl.length
            · obtain ⟨g, off, ea, hc⟩ := (so.grow hg5).hat (by omega)
              subst ea
              have hc1 := Sl.place hc j hjl
              rw [hkat j hjl] at hc1
              have cb1 := cb.keep (Keep.of_grow [] hg5) (by simp)
              have l1 : ∀ n : KW [] tt wr, (Instr.loadAt 54 (.pointer (some ⟨g, off + j * 2, none⟩))).run Try.prog n.w = .ok (.agg #[.int .i64 (l : Int), .int .i64 ((4 * i + j : Nat) : Int)]) n.w := fun n => run_ld Try.underlying54 rfl (by kernel_rfl) (hc1.keep n.h (by simp))
              have l2 : ∀ n : KW [] tt wr, (Instr.loadAt 54 (.pointer (some ⟨w4.heap.size, 0, none⟩))).run Try.prog n.w = .ok (.agg #[.int .i64 ((l : Int) + 1), .int .i64 (i : Int)]) n.w := fun n => run_ld Try.underlying54 rfl (by kernel_rfl) (cb1.keep n.h (by simp))
              clear hc hc1 cb1
              have hd4 : (4 * i + j) / 4 = i := by omega
              go_wp2_with fail
              refine wp_region_R (segK [] wr [14] (fun _ _ v w => vIs (.agg #[.int .i64 ((l : Int) + 1), .int .i64 (i : Int)]) v w) (fun _ _ _ _ _ k h => vIs.st k h)) (by kernel_rfl) segK_drew ?_
              unfold segK segR
              repeat (first | (refine wpV_skp rfl rfl ?_; simp only [List.set_cons_succ, List.set_cons_zero]) | (refine wpV_look rfl rfl rfl rfl rfl (fun K hK => ?_); go_big_quiet_op; refine hK _ ?_; clear hK K))
              refine wpV_val rfl rfl rfl rfl rfl _ (fun w hC => by obtain ⟨n, rfl⟩ := hC; exact exec_load (l1 n)) ?_
              simp only [List.set_cons_succ, List.set_cons_zero]
              repeat (first | (refine wpV_skp rfl rfl ?_; simp only [List.set_cons_succ, List.set_cons_zero]) | (refine wpV_look rfl rfl rfl rfl rfl (fun K hK => ?_); go_big_quiet_op; refine hK _ ?_; clear hK K))
              refine wpV_val rfl rfl rfl rfl rfl _ (fun w hC => by obtain ⟨n, rfl⟩ := hC; exact exec_load (l1 n)) ?_
              simp only [List.set_cons_succ, List.set_cons_zero]
              refine wpV_mk rfl rfl rfl [] rfl (fun vs w7 hC _ => yields_call (by kernel_rfl) ?_) (fun vs v w7 hC hV _ => ?_)
              · obtain ⟨⟨w7, hk, -⟩, rfl⟩ := hC
                refine upC l (4 * i + j) (by omega) (by omega) w7 _ ?_
                rw [hd4]
                intro w8 g8
                exact ⟨_, rfl, ⟨Keep.of_grow [] g8, trivial⟩, rfl⟩
              obtain rfl : v = _ := hV
              clear hC
              simp only [List.set_cons_succ, List.set_cons_zero]
              refine wpV_val rfl rfl rfl rfl rfl _ (fun w hC => by obtain ⟨n, rfl⟩ := hC; exact exec_load (l2 n)) ?_
              simp only [List.set_cons_succ, List.set_cons_zero]
              repeat (first | (refine wpV_skp rfl rfl ?_; simp only [List.set_cons_succ, List.set_cons_zero]) | (refine wpV_look rfl rfl rfl rfl rfl (fun K hK => ?_); go_big_quiet_op; refine hK _ ?_; clear hK K))
              refine wpV_nil ?_
              intro w7 hC _
              obtain ⟨⟨w7, hk7, -⟩, rfl⟩ := hC
              clear l1 l2
              go_wp2_with fail
              go_roundw
              case rel => exact ⟨j + 1, by go_num, by go_num, by omega, hg5.trans hk7.grow⟩
              case measure => simp [intOf]; omega
            · obtain rfl : j = kl.length := by omega
              go_wp2_with fail
              go_roundw
              case rel => exact ⟨i + 1, _, rfl, by go_num, by omega, by omega, g25.trans hg5⟩
              case measure => simp [intOf]; omega
        · obtain rfl : i = B := by omega
          obtain rfl : T = A := by omega
          clear hT
          go_wp2_with fail
          refine widthC m ((l : Int) + 1) hn wr _ ?_
          rw [hW]
          intro w4 g4
          go_wp2_with fail
          refine widthC m (l : Int) hn w4 _ ?_
          rw [hW0]
          intro w5 g5
          go_wp2_with fail
          go_roundw
          case rel => exact ⟨l + 1, by go_num, by omega, (hg2.trans g4).trans g5⟩
          case measure => simp [intOf]; omega
    · obtain rfl : l = K := by omega
      have hwe : way m f = wayN f (l + 1) := by rw [way_at m f hm1 hm2 hfm, hK]
      have hbe : beside m f = besideN m f l := by rw [beside_at m f hm1 hm2 hfm, hK]; rfl
      have hwn : ∀ j (h : j < (wayN f (l + 1)).length), (wayN f (l + 1))[j] = ((j : Int), ((f / 4 ^ j : Nat) : Int)) := fun j h => by simp [wayN]
      have hbn : ∀ j (h : j < (besideN m f l).length), (besideN m f l)[j] = kids m ((j + 1 : Nat) : Int) ((f / 4 ^ j / 4 : Nat) : Int) := fun j h => by simp [besideN]
      go_wp2_with fail
      refine wayC m f hn wr _ ?_
      rw [hwe]
      intro po pc w1 ho1 g1 _
      go_wp2_with fail
      refine besideC m f hn w1 _ ?_
      rw [hbe]
      intro bo bc vs w2 ho2 hr2 g2
      have sw := ho1.sl.grow g2
      have sb := ho2.sl
      have g12 := (hg.trans g1).trans g2
      have hwl := wayN_len f (l + 1)
      have hbl := besideN_len m f l
      rw [hwl] at sw ⊢
      rw [hbl] at sb ⊢
      obtain ⟨g, off, ea, hc⟩ := sw.hat (by omega)
      subst ea
      have hc1 := Sl.place hc 0 (by omega)
      rw [hwn 0 (by omega)] at hc1
      have d0 : w2.cell? ⟨g, off, none⟩ = some (.int .i64 0) := by simpa using hc1 0 (by simp)
      have d1 : w2.cell? ⟨g, off + 1, none⟩ = some (.int .i64 (f : Int)) := by simpa using hc1 1 (by simp)
      clear hc1 ho1 ho2 g1 g2 hwe hbe hwl
      go_wp2_with fail
      clear d0 d1
      go_loopw [14] (fun a wr => ∃ (i : Nat), a = .int .i64 ((i : Int) + 1) ∧ i ≤ l ∧ Grow w2 wr) (fun a _ => l + 1 - (intOf a).toNat)
      case atStart => exact ⟨0, by simp, Nat.zero_le _, Grow.refl _⟩
      case round =>
        obtain ⟨i, rfl, hi, hg2⟩ := hrel
        by_cases hil : i < l
        · have hx1 := Sl.place hc (i + 1) (by rw [wayN_len]; omega)
          have hx2 := Sl.place hc i (by rw [wayN_len]; omega)
          rw [hwn (i + 1) (by rw [wayN_len]; omega), Nat.pow_succ, ← Nat.div_div_eq_div_mul] at hx1
          rw [hwn i (by rw [wayN_len]; omega)] at hx2
          have hgi : f / 4 ^ i ≤ f := Nat.div_le_self _ _
          obtain ⟨bg, boff, eb, hbc⟩ := (sb.grow hg2).hat (by omega)
          subst eb
          obtain ⟨xo, xc, hxv, sx⟩ := rows_at (hr2.grow hg2) i (by omega)
          have c0 := KW.cell (fp := []) (p0 := tt) (hbc.at hxv) (by simp)
          rw [hbn i (by omega)] at c0 sx
          obtain ⟨G, hG⟩ : ∃ G, G = f / 4 ^ i := ⟨_, rfl⟩
          rw [← hG] at hx1 hx2 c0 sx hgi
          have hrow4 := kids_len m ((i + 1 : Nat) : Int) ((G / 4 : Nat) : Int)
          have hkc := kidsC m ((i + 1 : Nat) : Int) ((G / 4 : Nat) : Int) hn
          rw [show ((i + 1 : Nat) : Int) = (i : Int) + 1 by omega] at hkc hrow4 c0 sx
          obtain ⟨row, hrow⟩ : ∃ row, row = kids m ((i : Int) + 1) ((G / 4 : Nat) : Int) := ⟨_, rfl⟩
          rw [← hrow] at c0 sx hrow4 hkc
          have l1 : ∀ n : KW [] tt wr, (Instr.loadAt 54 (.pointer (some ⟨g, off + (i + 1) * 2, none⟩))).run Try.prog n.w = .ok (.agg #[.int .i64 ((i : Int) + 1), .int .i64 ((G / 4 : Nat) : Int)]) n.w := fun n => run_ld Try.underlying54 rfl (by kernel_rfl) ((hx1.keep (Keep.of_grow [] hg2) (by simp)).keep n.h (by simp))
          have l2 : ∀ n : KW [] tt wr, (Instr.loadAt 54 (.pointer (some ⟨g, off + i * 2, none⟩))).run Try.prog n.w = .ok (.agg #[.int .i64 (i : Int), .int .i64 (G : Int)]) n.w := fun n => run_ld Try.underlying54 rfl (by kernel_rfl) ((hx2.keep (Keep.of_grow [] hg2) (by simp)).keep n.h (by simp))
          clear hG hrow hx1 hx2 hbc hxv
          go_wp2_with fail
          let V : Nat → Array Value → Value → World → Prop := fun i' _ v w =>
            match i' with
            | 9 => vIs (.agg #[.int .i64 ((i : Int) + 1), .int .i64 ((G / 4 : Nat) : Int)]) v w
            | 17 => vOwn 59 2 row.length (pk row) v w
            | 23 => vOwn 54 2 row.length (pk row) v w
            | 24 => vOwn 59 2 row.length (pk row) v w
            | _ => vIs (.bool true) v w
          refine wp_region_R (segK [] wr [9, 17, 23, 24, 25] V ?_) (by kernel_rfl) segK_drew ?_
          · intro i vs v wa wb kk
            show V i vs v wa → V i vs v wb
            simp only [V]
            split <;> first | exact vOwn.st kk | exact vIs.st kk
          unfold segK segR
          repeat (first | (refine wpV_skp rfl rfl ?_; simp only [List.set_cons_succ, List.set_cons_zero]) | (refine wpV_look rfl rfl rfl rfl rfl (fun K hK => ?_); go_big_quiet_op; refine hK _ ?_; clear hK K))
          refine wpV_val rfl rfl rfl rfl rfl _ (fun w hC => by obtain ⟨n, rfl⟩ := hC; exact exec_load (l1 n)) ?_
          simp only [List.set_cons_succ, List.set_cons_zero]
          repeat (first | (refine wpV_skp rfl rfl ?_; simp only [List.set_cons_succ, List.set_cons_zero]) | (refine wpV_look rfl rfl rfl rfl rfl (fun K hK => ?_); go_big_quiet_op; refine hK _ ?_; clear hK K))
          refine wpV_val rfl rfl rfl rfl rfl _ (fun w hC => by obtain ⟨n, rfl⟩ := hC; exact exec_load (l2 n)) ?_
          simp only [List.set_cons_succ, List.set_cons_zero]
          repeat (first | (refine wpV_skp rfl rfl ?_; simp only [List.set_cons_succ, List.set_cons_zero]) | (refine wpV_look rfl rfl rfl rfl rfl (fun K hK => ?_); go_big_quiet_op; refine hK _ ?_; clear hK K))
          refine wpV_mk rfl rfl rfl [] rfl (fun _ w7 hC _ => yields_call (by kernel_rfl) ?_) (fun _ v w7 hC hV _ => ?_)
          · obtain ⟨⟨w7, hk, -⟩, rfl⟩ := hC
            refine upC i G (by omega) (by omega) w7 _ ?_
            intro w8 g8
            exact ⟨_, rfl, ⟨Keep.of_grow [] g8, trivial⟩, rfl⟩
          obtain rfl : v = _ := hV
          clear hC
          simp only [List.set_cons_succ, List.set_cons_zero]
          repeat (first | (refine wpV_skp rfl rfl ?_; simp only [List.set_cons_succ, List.set_cons_zero]) | (refine wpV_look rfl rfl rfl rfl rfl (fun K hK => ?_); go_big_quiet_op; refine hK _ ?_; clear hK K))
          refine wpV_mk rfl rfl rfl [] rfl (fun _ w7 hC _ => yields_call (by kernel_rfl) ?_) (fun _ v w7 hC hV _ => ?_)
          · obtain ⟨⟨w7, hk, -⟩, rfl⟩ := hC
            refine flatC xo xc row w7 (sx.keep hk (by simp)) (by omega) _ ?_
            intro a8 d8 w8 o8 g8 _
            exact ⟨_, rfl, ⟨Keep.of_grow [] g8, trivial⟩, a8, d8, rfl, o8⟩
          obtain ⟨a8, d8, rfl, -⟩ : vOwn _ 2 row.length _ v w7 := hV
          clear hC
          simp only [List.set_cons_succ, List.set_cons_zero]
          repeat (first | (refine wpV_skp rfl rfl ?_; simp only [List.set_cons_succ, List.set_cons_zero]) | (refine wpV_look rfl rfl rfl rfl rfl (fun K hK => ?_); go_big_quiet_op; refine hK _ ?_; clear hK K))
          refine wpV_val rfl rfl rfl rfl rfl _ (fun w hC => by obtain ⟨n, rfl⟩ := hC; exact exec_load (l1 n)) ?_
          simp only [List.set_cons_succ, List.set_cons_zero]
          refine wpV_mk rfl rfl rfl [] rfl (fun _ w7 hC _ => yields_call (by kernel_rfl) ?_) (fun _ v w7 hC hV _ => ?_)
          · obtain ⟨⟨w7, hk, -⟩, rfl⟩ := hC
            refine hkc w7 _ ?_
            intro a8 d8 w8 o8 g8 _
            exact ⟨_, rfl, ⟨Keep.of_grow [] g8, trivial⟩, a8, d8, rfl, o8⟩
          obtain ⟨a9, d9, rfl, -⟩ : vOwn _ 2 row.length _ v w7 := hV
          clear hC
          simp only [List.set_cons_succ, List.set_cons_zero]
          refine wpV_mk rfl rfl rfl [23] (by kernel_rfl) (fun _ w7 hC hF => yields_call (by kernel_rfl) ?_) (fun _ v w7 hC hV _ => ?_)
          · obtain ⟨⟨w7, hk, -⟩, rfl⟩ := hC
            obtain ⟨b1, d1, e1, o1⟩ : vOwn 54 2 row.length (pk row) _ w7 := (hF 23 (by simp)).2 rfl
            cases e1
            refine flatC _ _ row w7 o1.sl (by omega) _ ?_
            intro a8 d8 w8 o8 g8 _
            exact ⟨_, rfl, ⟨Keep.of_grow [] g8, trivial⟩, a8, d8, rfl, o8⟩
          obtain ⟨a7, d7, rfl, -⟩ : vOwn _ 2 row.length _ v w7 := hV
          clear hC
          simp only [List.set_cons_succ, List.set_cons_zero]
          refine wpV_mk rfl rfl rfl [17, 24] (by kernel_rfl) (fun _ w7 hC hF => yields_call (by kernel_rfl) ?_) (fun _ v w7 hC hV _ => ?_)
          · obtain ⟨⟨w7, hk, -⟩, rfl⟩ := hC
            obtain ⟨b1, d1, e1, o1⟩ : vOwn 59 2 row.length (pk row) _ w7 := (hF 17 (by simp)).1.1.2 rfl
            obtain ⟨b2, d2, e2, o2⟩ : vOwn 59 2 row.length (pk row) _ w7 := (hF 24 (by simp)).2 rfl
            cases e1
            cases e2
            refine sameC _ _ _ _ row row w7 o1.sl o2.sl (by omega) _ ?_
            intro w8 g8
            rw [decide_eq_true rfl]
            exact ⟨_, rfl, ⟨Keep.of_grow [] g8, trivial⟩, rfl⟩
          obtain rfl : v = _ := hV
          clear hC
          simp only [List.set_cons_succ, List.set_cons_zero]
          repeat (first | (refine wpV_skp rfl rfl ?_; simp only [List.set_cons_succ, List.set_cons_zero]) | (refine wpV_look rfl rfl rfl rfl rfl (fun K hK => ?_); go_big_quiet_op; refine hK _ ?_; clear hK K))
          refine wpV_nil ?_
          intro w7 hC _
          obtain ⟨⟨w7, hk7, -⟩, rfl⟩ := hC
          clear l1 l2 c0 hkc
          go_wp2_with fail
          go_roundw
          case rel => exact ⟨i + 1, by go_num, by omega, hg2.trans hk7.grow⟩
          case measure => simp [intOf]; omega
        · obtain rfl : i = l := by omega
          go_wp2_with fail
          refine awakeP wr _ ?_
          intro w1 g1
          go_wp2
          exact (g12.trans hg2).trans g1
end Go.Proofs.Ytoelddjmjhnbaaa
