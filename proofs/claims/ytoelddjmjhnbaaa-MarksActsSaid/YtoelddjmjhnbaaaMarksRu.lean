/- MarksRuns: the plain law and the walk. -/
import Derived.Test.YtoelddjmjhnbaaaMarksFr
namespace Go.Proofs.Ytoelddjmjhnbaaa
open Go Go.RowKit

theorem TBo : ST Try.prog 75 4 1 1 := ST.mk' (z := .bool false) Try.underlying75 (by kernel_rfl) rfl (by decide)
theorem makeBo (w : World) (l : Int) (h0 : 0 ≤ l) (h1 : l ≤ 1000000) : (Instr.makeSlice 75 (.int .i64 l) (.int .i64 l)).run Try.prog w = .ok (.slice (some ⟨w.heap.size, 0, none⟩) l.toNat l.toNat) (w.alloc (.cells (madeCells #[.bool false] l.toNat) 4)) := by
  obtain ⟨i, z, hi, hz, hs, hb, hc, -⟩ := TBo.info
  obtain rfl : z = .bool false := by
    have : (Try.prog.info? 4).map (·.zero) = some (some (.bool false)) := by kernel_rfl
    rw [hi] at this
    simp [hz] at this
    exact this
  have := run_make (P := Try.prog) w 75 4 i _ TBo.und hi hz .i64 .i64 l l h0 (Int.le_refl _) (by rw [hb]; omega) (by omega)
  rw [hs, Nat.mul_one] at this
  exact this
theorem madeBo (n : Nat) : (madeCells #[.bool false] n).toList = List.replicate n (.bool false) := by
  refine List.ext_getElem (by simp [madeCells]) fun i h1 h2 => ?_
  simp [madeCells, Nat.mod_one]
theorem map_at (b : List Bool) (i : Nat) (h : i < b.length) : (b.map Value.bool)[i]? = some (.bool (bt b i)) := by
  simp [bt, h]
theorem mark_set (b : List Bool) (f i : Nat) (h : f + i < b.length) : (mark b f (i + 1)).map Value.bool = ((mark b f i).map Value.bool).set (f + i) (.bool true) := by
  refine List.ext_getElem? fun j => ?_
  by_cases hj : j < b.length
  · rw [map_at _ _ (by rw [mark_len]; exact hj), mark_succ b f i h, List.getElem?_set]
    by_cases e : f + i = j
    · subst e; rw [if_pos rfl, if_pos rfl, if_pos (by simp [mark_len]; omega)]
    · rw [if_neg e, if_neg (Ne.symm e), map_at _ _ (by rw [mark_len]; exact hj)]
  · rw [List.getElem?_eq_none (by simp [mark_len]; omega), List.getElem?_eq_none (by simp [mark_len]; omega)]
theorem cnt_zero {b : List Bool} : ∀ {k : Nat}, (∀ i, i < k → bt b i = false) → cnt b k = 0
  | 0, _ => rfl
  | k + 1, h => by rw [cnt, cnt_zero fun i hi => h i (by omega), h k (by omega)]; rfl
theorem cnt_some {b : List Bool} {i : Nat} (hb : bt b i = true) : ∀ {k : Nat}, i < k → 0 < cnt b k
  | 0, h => by omega
  | k + 1, h => by
    rw [cnt]
    by_cases e : i = k
    · subst e; rw [hb]; simp
    · have := cnt_some hb (k := k) (by omega); omega
theorem any_cnt (b : List Bool) : anyS b 0 b.length = decide (0 < cnt b b.length) := by
  have h := any_free b 0 b.length (by omega)
  rw [show ((0 : Nat) : Int) = 0 from rfl] at h
  rw [h]
  cases hf : freeAt b 0 b.length
  · unfold freeAt at hf
    rw [List.all_eq_false] at hf
    obtain ⟨j, hj, hb⟩ := hf
    simp only [Nat.zero_add, Bool.not_eq_true', Bool.not_eq_false] at hb
    have := cnt_some hb (List.mem_range.1 hj)
    simp [this]
  · rw [freeAt_iff] at hf
    rw [cnt_zero fun i hi => by simpa using hf i hi]
    simp
theorem any_one (b : List Bool) (i : Nat) (h : i < b.length) : anyS b i 1 = bt b i := by
  have := any_free b i 1 (by omega)
  rw [show ((1 : Nat) : Int) = 1 from rfl] at this
  rw [this]
  simp [freeAt]
theorem any_none (b : List Bool) (i : Nat) : anyS b i 0 = false := by
  unfold anyS
  rw [List.any_eq_false]
  intro k _ hh
  simp only [hit, Bool.and_eq_true, decide_eq_true_eq] at hh
  omega
theorem setC0 (p h c : Nat) (b : List Bool) (first count : Nat) (w : World) (m : Mk w p h c b) (h2 : first + count ≤ b.length) (R : Ending → World → Prop)
    (hR : ∀ w', Mk w' p h c (mark b first count) → Keep [h] w w' → R (.returned (.int .i64 0)) w') :
    Calls Try.prog 40 #[.pointer (some ⟨p, 0, none⟩), .int .i64 first, .int .i64 count] w R := by
  have hn := m.max
  cases count with
  | zero => exact setNone p h c b first w m (WalkArith.wf_i64 (by omega)) R fun w' g => hR w' (by rw [mark_zero]; exact m.grow g) (Keep.of_grow _ g)
  | succ k => exact setC p h c b first (k + 1) w m (by omega) h2 R hR

set_option maxRecDepth 100000 in
set_option maxHeartbeats 4000000 in
theorem runsW (n : Int) (ao : Option Addr) (ca : Nat) (la : List Int) (bo : Option Addr) (cb : Nat) (lb : List Int) (w : World) (hn : (Lit.int .i64 n).wf = true) (sa : Sl w 1 ao la.length ca (la.map (.int .i64))) (_ : ∀ a ∈ la, (Lit.int .i64 a).wf = true)
    (sb : Sl w 1 bo lb.length cb (lb.map (.int .i64))) (_ : ∀ a ∈ lb, (Lit.int .i64 a).wf = true) (R : Ending → World → Prop) (hR : ∀ w', Grow w w' → R (.returned (.bool true)) w') :
    Calls Try.prog 14 #[.int .i64 n, .slice ao la.length ca, .slice bo lb.length cb] w R := by
  by_cases h1 : n < 1
  · go_enter Try.func14, Try.ntmps14
    go_wp2_with fail
    refine awakeM w _ ?_
    intro w1 g1
    go_wp2
    exact g1
  have hf10 : decide (n < 1) = false := by simp; omega
  by_cases h2 : 200 < n
  · go_enter Try.func14, Try.ntmps14
    go_wp2_with fail
    refine awakeM w _ ?_
    intro w1 g1
    go_wp2
    exact g1
  have hf20 : decide (200 < n) = false := by simp; omega
  by_cases h3 : 20 < la.length
  · go_enter Try.func14, Try.ntmps14
    go_wp2_with fail
    refine awakeM w _ ?_
    intro w1 g1
    go_wp2
    exact g1
  have hf30 : decide (20 < la.length) = false := by simp; omega
  have hf31 : decide (20 < (la.length : Int)) = false := by simp; omega
  by_cases h4 : lb.length < la.length
  · go_enter Try.func14, Try.ntmps14
    go_wp2_with fail
    refine awakeM w _ ?_
    intro w1 g1
    go_wp2
    exact g1
  have hf40 : decide (lb.length < la.length) = false := by simp; omega
  have hf41 : decide ((lb.length : Int) < (la.length : Int)) = false := by simp; omega
  by_cases h5 : 40 < lb.length
  · go_enter Try.func14, Try.ntmps14
    go_wp2_with fail
    refine awakeM w _ ?_
    intro w1 g1
    go_wp2
    exact g1
  have hf50 : decide (40 < lb.length) = false := by simp; omega
  have hf51 : decide (40 < (lb.length : Int)) = false := by simp; omega
  obtain ⟨m, rfl⟩ : ∃ m : Nat, n = m := ⟨n.toNat, by omega⟩
  have hm : 1 ≤ m ∧ m ≤ 200 := by omega
  have hla : la.length ≤ 20 := by omega
  have hlab : la.length ≤ lb.length := by omega
  clear h1 h2 h3 h4 h5
  go_enter Try.func14, Try.ntmps14
  go_wp2_with fail
  refine newC m (by omega) (by omega) w _ ?_
  intro p h c w1 m1 g1 lp lh
  have hmk := makeBo w1 (m : Int) (by omega) (by omega)
  have oq0 : Own (w1.alloc (.cells (madeCells #[.bool false] m) 4)) 4 1 (some ⟨w1.heap.size, 0, none⟩) m m ((List.replicate m false).map Value.bool) := by
    have := Own.made (sz := 1) (n := m) (heap_alloc_new w1 (.cells (madeCells #[.bool false] m) 4)) (by simp [size_madeCells]) (by unfold maxLen; omega) (by rw [madeBo]; intro u hu; rw [List.eq_of_mem_replicate hu]; rfl)
    rw [madeBo] at this
    rw [List.map_replicate]
    exact this
  obtain ⟨q, hq⟩ : ∃ q, q = w1.heap.size := ⟨_, rfl⟩
  have hpq := m1.lt
  have hhq := m1.own.lt h (by simp [blk])
  have hph := m1.ne
  rw [← hq] at oq0 hpq hhq hmk
  have m1a := m1.grow (Grow.alloc w1 (.cells (madeCells #[.bool false] m) 4))
  have g1a := g1.trans (Grow.alloc w1 (.cells (madeCells #[.bool false] m) 4))
  have hqw := g1.size
  rw [← hq] at hqw
  rw [Int.toNat_natCast] at hmk
  clear m1 hq
  go_wp2_with fail
  generalize w1.alloc (.cells (madeCells #[.bool false] m) 4) = w2 at *
  go_loopw [10] (fun a wr => ∃ (i : Nat) (b : List Bool), a = .int .i64 (i : Int) ∧ i ≤ la.length ∧ b.length = m ∧ Mk wr p h c b ∧ Own wr 4 1 (some ⟨q, 0, none⟩) m m (b.map Value.bool) ∧ Grow w wr) (fun a _ => la.length - (intOf a).toNat)
  case atStart => exact ⟨0, _, by simp, by omega, by simp, m1a, oq0, g1a⟩
  case round =>
    obtain ⟨i, b, rfl, hi, hb, mb, oq, hg⟩ := hrel
    by_cases hil : i < la.length
    · obtain ⟨ga, offa, e, hca⟩ := (sa.grow hg).hat (by omega)
      subst e
      obtain ⟨gb, offb, e, hcb⟩ := (sb.grow hg).hat (by omega)
      subst e
      have ca1 := KW.cell (fp := []) (p0 := tt) (hca.at (i := i) (v := .int .i64 la[i]) (by simp [hil])) (by simp)
      have cb1 := KW.cell (fp := []) (p0 := tt) (hcb.at (i := i) (v := .int .i64 (lb[i]'(by omega))) (by simp [show i < lb.length by omega])) (by simp)
      have hk := rnd_lt la[i] m (by omega)
      have hrk := roundC la[i] m (by omega) (by omega)
      have hx := rnd_lt (lb[i]'(by omega)) (m + 3) (by omega)
      have hrx := roundC (lb[i]'(by omega)) (m + 3) (by omega) (by omega)
      obtain ⟨k, hke⟩ : ∃ k, k = rnd la[i] m := ⟨_, rfl⟩
      obtain ⟨x, hxe⟩ : ∃ x, x = rnd (lb[i]'(by omega)) (m + 3) := ⟨_, rfl⟩
      rw [← hke] at hk hrk
      rw [← hxe] at hx hrx
      rw [show ((m + 3 : Nat) : Int) = (m : Int) + 3 by omega] at hrx
      clear hke hxe hca hcb
      have hilb : i < lb.length := by omega
      go_wp2_with fail
      let V : Nat → Array Value → Value → World → Prop := fun i' _ v w' =>
        match i' with
        | 5 => vIs (.int .i64 (k : Int)) v w'
        | _ => vIs (.int .i64 (x : Int)) v w'
      refine wp_region_R (segK [] wr [5, 12] V ?_) (by kernel_rfl) segK_drew ?_
      · intro i vs v wa wb kk
        show V i vs v wa → V i vs v wb
        simp only [V]
        split <;> exact vIs.st kk
      unfold segK segR
      repeat (first | (refine wpV_skp rfl rfl ?_; simp only [List.set_cons_succ, List.set_cons_zero]) | (refine wpV_look rfl rfl rfl rfl rfl (fun K hK => ?_); go_big_quiet_op; refine hK _ ?_; clear hK K))
      refine wpV_mk rfl rfl rfl [] rfl (fun _ w7 hC _ => yields_call (by kernel_rfl) ?_) (fun _ v w7 hC hV _ => ?_)
      · obtain ⟨⟨w7, hk, -⟩, rfl⟩ := hC
        refine hrk w7 _ ?_
        exact ⟨_, rfl, ⟨Keep.refl _ _, trivial⟩, rfl⟩
      obtain rfl : v = _ := hV
      clear hC
      simp only [List.set_cons_succ, List.set_cons_zero]
      repeat (first | (refine wpV_skp rfl rfl ?_; simp only [List.set_cons_succ, List.set_cons_zero]) | (refine wpV_look rfl rfl rfl rfl rfl (fun K hK => ?_); go_big_quiet_op; refine hK _ ?_; clear hK K))
      refine wpV_mk rfl rfl rfl [] rfl (fun _ w7 hC _ => yields_call (by kernel_rfl) ?_) (fun _ v w7 hC hV _ => ?_)
      · obtain ⟨⟨w7, hk, -⟩, rfl⟩ := hC
        refine hrx w7 _ ?_
        exact ⟨_, rfl, ⟨Keep.refl _ _, trivial⟩, rfl⟩
      obtain rfl : v = _ := hV
      clear hC
      simp only [List.set_cons_succ, List.set_cons_zero]
      repeat (first | (refine wpV_skp rfl rfl ?_; simp only [List.set_cons_succ, List.set_cons_zero]) | (refine wpV_look rfl rfl rfl rfl rfl (fun K hK => ?_); go_big_quiet_op; refine hK _ ?_; clear hK K))
      refine wpV_nil ?_
      intro w4 hC _
      obtain ⟨⟨w4, hk4, -⟩, rfl⟩ := hC
      have mb4 := mb.keep hk4 (by simp) (by simp)
      have oq4 := oq.keep hk4 (by simp)
      have hg4 := hg.trans hk4.grow
      clear ca1 cb1 hrk hrx mb oq
      by_cases hbig : m < x + k
      · have hbig' : decide ((m : Int) - k < x) = true := by simp; omega
        go_wp2_with fail
        refine setBad p h c b k x w4 mb4 (WalkArith.wf_i64 (by omega)) (WalkArith.wf_i64 (by omega)) (.inr (by omega)) _ ?_
        intro w5 g5
        go_wp2_with fail
        go_roundw
        case rel => exact ⟨i + 1, b, by go_num, by omega, hb, mb4.grow g5, oq4.grow g5, hg4.trans g5⟩
        case measure => simp [intOf]; omega
      · have hbig' : decide ((m : Int) - k < x) = false := by simp; omega
        go_wp2_with fail
        refine setC0 p h c b k x w4 mb4 (by omega) _ ?_
        intro w5 m5 k5
        have oq5 := oq4.keep k5 (by simp [blk]; omega)
        have hg5 := hg4.then k5 (fun g hg => by simp at hg; omega)
        clear mb4 oq4 hk4
        go_wp2_with fail
        go_loopw [14] (fun a wr => ∃ j : Nat, a = .int .i64 (j : Int) ∧ j ≤ x ∧ Own wr 4 1 (some ⟨q, 0, none⟩) m m ((mark b k j).map Value.bool) ∧ Keep [q] w5 wr) (fun a _ => x - (intOf a).toNat)
        case atStart => exact ⟨0, by simp, by omega, by rw [mark_zero]; exact oq5, Keep.refl _ _⟩
        case round =>
          obtain ⟨j, rfl, hj, oj, kj⟩ := hrel
          by_cases hjx : j < x
          · obtain ⟨gq, v, eq, cv, fv, hs⟩ := own_put oj (i := k + j) (by omega)
            cases eq
            have kj2 := kj.trans (Keep.setCell wr ⟨q, k + j, none⟩ (by simp) (.bool true))
            have hs2 := hs (.bool true) rfl
            rw [← mark_set b k j (by omega)] at hs2
            go_wp2_with fail
            go_roundw
            case rel => exact ⟨j + 1, by go_num, by omega, hs2, kj2⟩
            case measure => simp [intOf]; omega
          · obtain rfl : j = x := by omega
            have m6 := m5.keep kj (by simp; omega) (by simp; omega)
            have hg6 := hg5.then kj (fun g hg => by simp at hg; omega)
            go_wp2_with fail
            go_roundw
            case rel => exact ⟨i + 1, mark b k j, by go_num, by omega, by rw [mark_len]; exact hb, m6, oj, hg6⟩
            case measure => simp [intOf]; omega
    · obtain rfl : i = la.length := by omega
      obtain ⟨w3, hw3⟩ : ∃ w3, w3 = wr := ⟨_, rfl⟩
      rw [← hw3] at mb oq hg ⊢
      clear hw3 hi m1a oq0 g1a
      go_wp2_with fail
      go_loopw [15, 16] (fun s a wr => ∃ i : Nat, s = .int .i64 (cnt b i : Int) ∧ a = .int .i64 (i : Int) ∧ i ≤ m ∧ Grow w3 wr) (fun _ a _ => m - (intOf a).toNat)
      case atStart => exact ⟨0, by simp [cnt], by simp, by omega, Grow.refl _⟩
      case round =>
        obtain ⟨i, rfl, rfl, hi, hg2⟩ := hrel
        by_cases him : i < m
        · have m3 := mb.grow hg2
          obtain ⟨gq, offq, eq, hcq⟩ := (oq.sl.grow hg2).hat (by omega)
          cases eq
          have cq := hcq.at (map_at b i (by omega))
          rw [Nat.zero_add] at cq
          have cq1 := KW.cell (fp := []) (p0 := tt) cq (by simp)
          have h1' := any_one b i (by omega)
          have h0' := any_none b i
          have hcl := cnt_le b i
          have hcs : cnt b (i + 1) = cnt b i + (bt b i).toNat := rfl
          obtain ⟨C, hC⟩ : ∃ C, C = cnt b i := ⟨_, rfl⟩
          rw [← hC] at hcl hcs ⊢
          clear hC hcq
          cases hbt : bt b i
          · rw [hbt] at cq cq1 hcs h1'
            go_wp2_with fail
            let V : Nat → Array Value → Value → World → Prop := fun i' _ v w' =>
              match i' with
              | 2 => vIs (.bool false) v w'
              | 11 => vIs (.bool false) v w'
              | _ => vIs (.bool false) v w'
            refine wp_region_R (segK [] wr [2, 11, 21] V ?_) (by kernel_rfl) segK_drew ?_
            · intro i vs v wa wb kk
              show V i vs v wa → V i vs v wb
              simp only [V]
              split <;> exact vIs.st kk
            unfold segK segR
            repeat (first | (refine wpV_skp rfl rfl ?_; simp only [List.set_cons_succ, List.set_cons_zero]) | (refine wpV_look rfl rfl rfl rfl rfl (fun K hK => ?_); go_big_quiet_op; refine hK _ ?_; clear hK K))
            refine wpV_mk rfl rfl rfl [] rfl (fun _ w7 hC _ => yields_call (by kernel_rfl) ?_) (fun _ v w7 hC hV _ => ?_)
            · obtain ⟨⟨w7, hk, -⟩, rfl⟩ := hC
              refine hasK p h c b i w7 (m3.keep hk (by simp) (by simp)) (by omega) _ ?_
              rw [hbt]
              intro w8 g8
              exact ⟨_, rfl, ⟨Keep.of_grow [] g8, trivial⟩, rfl⟩
            obtain rfl : v = _ := hV
            clear hC
            simp only [List.set_cons_succ, List.set_cons_zero]
            repeat (first | (refine wpV_skp rfl rfl ?_; simp only [List.set_cons_succ, List.set_cons_zero]) | (refine wpV_look rfl rfl rfl rfl rfl (fun K hK => ?_); go_big_quiet_op; refine hK _ ?_; clear hK K))
            refine wpV_mk rfl rfl rfl [] rfl (fun _ w7 hC _ => yields_call (by kernel_rfl) ?_) (fun _ v w7 hC hV _ => ?_)
            · obtain ⟨⟨w7, hk, -⟩, rfl⟩ := hC
              refine anyC p h c b i 1 w7 (m3.keep hk (by simp) (by simp)) (WalkArith.wf_i64 (by omega)) rfl _ ?_
              rw [h1']
              intro w8 g8
              exact ⟨_, rfl, ⟨Keep.of_grow [] g8, trivial⟩, rfl⟩
            obtain rfl : v = _ := hV
            clear hC
            simp only [List.set_cons_succ, List.set_cons_zero]
            repeat (first | (refine wpV_skp rfl rfl ?_; simp only [List.set_cons_succ, List.set_cons_zero]) | (refine wpV_look rfl rfl rfl rfl rfl (fun K hK => ?_); go_big_quiet_op; refine hK _ ?_; clear hK K))
            refine wpV_mk rfl rfl rfl [] rfl (fun _ w7 hC _ => yields_call (by kernel_rfl) ?_) (fun _ v w7 hC hV _ => ?_)
            · obtain ⟨⟨w7, hk, -⟩, rfl⟩ := hC
              refine anyC p h c b i 0 w7 (m3.keep hk (by simp) (by simp)) (WalkArith.wf_i64 (by omega)) rfl _ ?_
              rw [h0']
              intro w8 g8
              exact ⟨_, rfl, ⟨Keep.of_grow [] g8, trivial⟩, rfl⟩
            obtain rfl : v = _ := hV
            clear hC
            simp only [List.set_cons_succ, List.set_cons_zero]
            repeat (first | (refine wpV_skp rfl rfl ?_; simp only [List.set_cons_succ, List.set_cons_zero]) | (refine wpV_look rfl rfl rfl rfl rfl (fun K hK => ?_); go_big_quiet_op; refine hK _ ?_; clear hK K))
            refine wpV_nil ?_
            intro w4 hC _
            obtain ⟨⟨w4, hk4, -⟩, rfl⟩ := hC
            have cq4 := hk4.cell cq (by simp)
            clear cq cq1 h1' h0'
            go_wp2_with fail
            go_roundw
            case rel => exact ⟨i + 1, by rw [hcs]; rfl, by go_num, by omega, hg2.trans hk4.grow⟩
            case measure => simp [intOf]; omega
          · rw [hbt] at cq cq1 hcs h1'
            go_wp2_with fail
            let V : Nat → Array Value → Value → World → Prop := fun i' _ v w' =>
              match i' with
              | 2 => vIs (.bool true) v w'
              | 11 => vIs (.bool true) v w'
              | _ => vIs (.bool false) v w'
            refine wp_region_R (segK [] wr [2, 11, 21] V ?_) (by kernel_rfl) segK_drew ?_
            · intro i vs v wa wb kk
              show V i vs v wa → V i vs v wb
              simp only [V]
              split <;> exact vIs.st kk
            unfold segK segR
            repeat (first | (refine wpV_skp rfl rfl ?_; simp only [List.set_cons_succ, List.set_cons_zero]) | (refine wpV_look rfl rfl rfl rfl rfl (fun K hK => ?_); go_big_quiet_op; refine hK _ ?_; clear hK K))
            refine wpV_mk rfl rfl rfl [] rfl (fun _ w7 hC _ => yields_call (by kernel_rfl) ?_) (fun _ v w7 hC hV _ => ?_)
            · obtain ⟨⟨w7, hk, -⟩, rfl⟩ := hC
              refine hasK p h c b i w7 (m3.keep hk (by simp) (by simp)) (by omega) _ ?_
              rw [hbt]
              intro w8 g8
              exact ⟨_, rfl, ⟨Keep.of_grow [] g8, trivial⟩, rfl⟩
            obtain rfl : v = _ := hV
            clear hC
            simp only [List.set_cons_succ, List.set_cons_zero]
            repeat (first | (refine wpV_skp rfl rfl ?_; simp only [List.set_cons_succ, List.set_cons_zero]) | (refine wpV_look rfl rfl rfl rfl rfl (fun K hK => ?_); go_big_quiet_op; refine hK _ ?_; clear hK K))
            refine wpV_mk rfl rfl rfl [] rfl (fun _ w7 hC _ => yields_call (by kernel_rfl) ?_) (fun _ v w7 hC hV _ => ?_)
            · obtain ⟨⟨w7, hk, -⟩, rfl⟩ := hC
              refine anyC p h c b i 1 w7 (m3.keep hk (by simp) (by simp)) (WalkArith.wf_i64 (by omega)) rfl _ ?_
              rw [h1']
              intro w8 g8
              exact ⟨_, rfl, ⟨Keep.of_grow [] g8, trivial⟩, rfl⟩
            obtain rfl : v = _ := hV
            clear hC
            simp only [List.set_cons_succ, List.set_cons_zero]
            repeat (first | (refine wpV_skp rfl rfl ?_; simp only [List.set_cons_succ, List.set_cons_zero]) | (refine wpV_look rfl rfl rfl rfl rfl (fun K hK => ?_); go_big_quiet_op; refine hK _ ?_; clear hK K))
            refine wpV_mk rfl rfl rfl [] rfl (fun _ w7 hC _ => yields_call (by kernel_rfl) ?_) (fun _ v w7 hC hV _ => ?_)
            · obtain ⟨⟨w7, hk, -⟩, rfl⟩ := hC
              refine anyC p h c b i 0 w7 (m3.keep hk (by simp) (by simp)) (WalkArith.wf_i64 (by omega)) rfl _ ?_
              rw [h0']
              intro w8 g8
              exact ⟨_, rfl, ⟨Keep.of_grow [] g8, trivial⟩, rfl⟩
            obtain rfl : v = _ := hV
            clear hC
            simp only [List.set_cons_succ, List.set_cons_zero]
            repeat (first | (refine wpV_skp rfl rfl ?_; simp only [List.set_cons_succ, List.set_cons_zero]) | (refine wpV_look rfl rfl rfl rfl rfl (fun K hK => ?_); go_big_quiet_op; refine hK _ ?_; clear hK K))
            refine wpV_nil ?_
            intro w4 hC _
            obtain ⟨⟨w4, hk4, -⟩, rfl⟩ := hC
            have cq4 := hk4.cell cq (by simp)
            clear cq cq1 h1' h0'
            go_wp2_with fail
            go_roundw
            case rel => exact ⟨i + 1, by rw [hcs]; rfl, by go_num, by omega, hg2.trans hk4.grow⟩
            case measure => simp [intOf]; omega
        · obtain rfl : i = m := by omega
          have hcl := cnt_le b b.length
          have hac := any_cnt b
          rw [hb] at hcl hac
          go_wp2_with fail
          refine countC p h c b wr (mb.grow hg2) _ ?_
          rw [hb]
          intro w5 g5
          obtain ⟨C, hC⟩ : ∃ C, C = cnt b i := ⟨_, rfl⟩
          rw [← hC] at hcl hac ⊢
          clear hC
          go_wp2_with fail
          refine anyC p h c b 0 i w5 ((mb.grow hg2).grow g5) rfl (WalkArith.wf_i64 (by omega)) _ ?_
          rw [hac]
          intro w6 g6
          clear hac
          by_cases hC0 : 0 < C
          · rw [decide_eq_true hC0]
            go_wp2_with fail
            refine awakeM w6 _ ?_
            intro w7 g7
            go_wp2
            exact (((hg.trans hg2).trans g5).trans g6).trans g7
          · rw [decide_eq_false hC0]
            go_wp2_with fail
            refine awakeM w6 _ ?_
            intro w7 g7
            go_wp2
            exact (((hg.trans hg2).trans g5).trans g6).trans g7
end Go.Proofs.Ytoelddjmjhnbaaa
