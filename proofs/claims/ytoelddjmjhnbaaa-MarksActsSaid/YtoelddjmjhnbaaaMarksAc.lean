/- MarksActs: the walk. -/
import Derived.Test.YtoelddjmjhnbaaaMarksSh
import Derived.Test.YtoelddjmjhnbaaaMarksCo
namespace Go.Proofs.Ytoelddjmjhnbaaa
open Go Go.RowKit

abbrev MA := Int × Int × Int
def mak (l : List MA) : List Value := l.flatMap fun a => [.int .i64 a.1, .int .i64 a.2.1, .int .i64 a.2.2]
theorem mak_at (l : List MA) : ∀ i (h : i < l.length), (mak l)[i * 3]? = some (.int .i64 l[i].1) ∧ (mak l)[i * 3 + 1]? = some (.int .i64 l[i].2.1) ∧ (mak l)[i * 3 + 2]? = some (.int .i64 l[i].2.2) := by
  induction l with
  | nil => intro i h; simp at h
  | cons a l ih =>
    intro i h
    cases i with
    | zero => simp [mak]
    | succ i =>
      have := ih i (by simpa using h)
      have e : mak (a :: l) = [.int .i64 a.1, .int .i64 a.2.1, .int .i64 a.2.2] ++ mak l := rfl
      rw [e, List.getElem?_append_right (by simp; omega), List.getElem?_append_right (by simp; omega), List.getElem?_append_right (by simp; omega)]
      simp only [List.length_cons, List.length_nil, List.getElem_cons_succ]
      rw [show (i + 1) * 3 - (0 + 1 + 1 + 1) = i * 3 by omega, show (i + 1) * 3 + 1 - (0 + 1 + 1 + 1) = i * 3 + 1 by omega, show (i + 1) * 3 + 2 - (0 + 1 + 1 + 1) = i * 3 + 2 by omega]
      exact this
theorem TBits : ST Try.prog 76 4 1 1 := ST.mk' (z := .bool false) Try.underlying76 (by kernel_rfl) rfl (by decide)
theorem makeBits (w : World) (l : Int) (h0 : 0 ≤ l) (h1 : l ≤ 1000000) : (Instr.makeSlice 76 (.int .i64 l) (.int .i64 l)).run Try.prog w = .ok (.slice (some ⟨w.heap.size, 0, none⟩) l.toNat l.toNat) (w.alloc (.cells (madeCells #[.bool false] l.toNat) 4)) := by
  obtain ⟨i, z, hi, hz, hs, hb, hc, -⟩ := TBits.info
  obtain rfl : z = .bool false := by
    have : (Try.prog.info? 4).map (·.zero) = some (some (.bool false)) := by kernel_rfl
    rw [hi] at this
    simp [hz] at this
    exact this
  have := run_make (P := Try.prog) w 76 4 i _ TBits.und hi hz .i64 .i64 l l h0 (Int.le_refl _) (by rw [hb]; omega) (by omega)
  rw [hs, Nat.mul_one] at this
  exact this

set_option maxRecDepth 100000 in
set_option maxHeartbeats 8000000 in
theorem mactsW (n : Int) (lo : Option Addr) (cap : Nat) (l : List MA) (first count : Int) (w : World) (hn : (Lit.int .i64 n).wf = true) (sl : Sl w 3 lo l.length cap (mak l)) (hwf : ∀ a ∈ l, (Lit.int .i64 a.2.1).wf = true ∧ (Lit.int .i64 a.2.2).wf = true)
    (hfw : (Lit.int .i64 first).wf = true) (hcw : (Lit.int .i64 count).wf = true) (R : Ending → World → Prop) (hR : ∀ w', Grow w w' → R (.returned (.bool true)) w') :
    Calls Try.prog 10 #[.int .i64 n, .slice lo l.length cap, .int .i64 first, .int .i64 count] w R := by
  by_cases h1 : 300 < n
  · go_enter Try.func10, Try.ntmps10
    go_wp2_with fail
    refine awakeM w _ ?_
    intro w1 g1
    go_wp2
    exact g1
  have hf1 : decide (300 < n) = false := by simp; omega
  by_cases h2 : 30 < l.length
  · go_enter Try.func10, Try.ntmps10
    go_wp2_with fail
    refine awakeM w _ ?_
    intro w1 g1
    go_wp2
    exact g1
  have hf2 : decide (30 < l.length) = false := by simp; omega
  have hf2' : decide (30 < (l.length : Int)) = false := by simp; omega
  by_cases h3 : n < 1
  · go_enter Try.func10, Try.ntmps10
    go_wp2_with fail
    refine newN n (.inl h3) w _ ?_
    intro w1 g1
    go_wp2_with fail
    refine awakeM w1 _ ?_
    intro w2 g2
    go_wp2
    exact g1.trans g2
  have hf3 : decide (n < 1) = false := by simp; omega
  obtain ⟨m, rfl⟩ : ∃ m : Nat, n = m := ⟨n.toNat, by omega⟩
  have hm : 1 ≤ m ∧ m ≤ 300 := by omega
  have hl30 : l.length ≤ 30 := by omega
  clear h1 h2 h3
  go_enter Try.func10, Try.ntmps10
  go_wp2_with fail
  refine newC m (by omega) (by omega) w _ ?_
  intro p0 h0 c0 w1 m1 g1 lp0 lh0
  have hmk := makeBits w1 (m : Int) (by omega) (by omega)
  rw [Int.toNat_natCast] at hmk
  have oq0 : Own (w1.alloc (.cells (madeCells #[.bool false] m) 4)) 4 1 (some ⟨w1.heap.size, 0, none⟩) m m ((List.replicate m false).map Value.bool) := by
    have := Own.made (sz := 1) (n := m) (heap_alloc_new w1 (.cells (madeCells #[.bool false] m) 4)) (by simp [size_madeCells]) (by unfold maxLen; omega) (by rw [madeBo]; intro u hu; rw [List.eq_of_mem_replicate hu]; rfl)
    rw [madeBo] at this
    rw [List.map_replicate]
    exact this
  obtain ⟨q, hq⟩ : ∃ q, q = w1.heap.size := ⟨_, rfl⟩
  have hpq := m1.lt
  have hhq := m1.own.lt h0 (by simp [blk])
  rw [← hq] at oq0 hpq hhq hmk
  have m1a := m1.grow (Grow.alloc w1 (.cells (madeCells #[.bool false] m) 4))
  have g1a := g1.trans (Grow.alloc w1 (.cells (madeCells #[.bool false] m) 4))
  have hqw := g1.size
  rw [← hq] at hqw
  clear m1 hq
  go_wp2_with fail
  generalize w1.alloc (.cells (madeCells #[.bool false] m) 4) = w2 at *
  go_loopw [9, 12] (fun pp a wr => ∃ (i p h c : Nat) (b : List Bool), pp = .pointer (some ⟨p, 0, none⟩) ∧ a = .int .i64 (i : Int) ∧ i ≤ l.length ∧ b.length = m ∧ Mk wr p h c b ∧ Own wr 4 1 (some ⟨q, 0, none⟩) m m (b.map Value.bool) ∧ Grow w wr ∧ p ≠ q ∧ h ≠ q ∧ w.heap.size ≤ h) (fun _ a _ => l.length - (intOf a).toNat)
  case atStart => exact ⟨0, p0, h0, c0, _, rfl, by simp, by omega, by simp, m1a, oq0, g1a, by omega, by omega, lh0⟩
  case round =>
    obtain ⟨i, p, h, c, b, rfl, rfl, hi, hb, mb, oq, hg, hpq, hhq, hhw⟩ := hrel
    by_cases hil : i < l.length
    · obtain ⟨ga, offa, e, hca⟩ := (sl.grow hg).hat (by omega)
      subst e
      have hat := mak_at l i hil
      have d0 := hca.at hat.1
      have d1 := hca.at hat.2.1
      have d2 := hca.at hat.2.2
      rw [← Nat.add_assoc] at d1 d2
      obtain ⟨hw1, hw2⟩ := hwf l[i] (List.getElem_mem hil)
      obtain ⟨⟨kd, fi, ct⟩, ha⟩ : ∃ a, a = l[i] := ⟨_, rfl⟩
      rw [← ha] at d0 d1 d2 hw1 hw2
      simp only at d0 d1 d2 hw1 hw2
      clear hat ha hca
      obtain ⟨W, hW⟩ : ∃ W, W = wr.alloc (.cells #[.int .i64 kd, .int .i64 fi, .int .i64 ct] 78 (0, 0)) := ⟨_, rfl⟩
      have ob := heap_alloc_new wr (.cells #[.int .i64 kd, .int .i64 fi, .int .i64 ct] 78 (0, 0))
      have gW := Grow.alloc wr (.cells #[.int .i64 kd, .int .i64 fi, .int .i64 ct] 78 (0, 0))
      have hsz := mb.lt
      have hsz2 := mb.own.lt h (by simp [blk])
      have hsz3 := oq.lt q (by simp [blk])
      have zg := hg.size
      rw [← hW] at ob gW
      obtain ⟨s, hs⟩ : ∃ s, s = wr.heap.size := ⟨_, rfl⟩
      rw [← hs] at ob hsz hsz2 hsz3 zg
      have k0 := obj_cell ob 0 rfl
      have k1 := obj_cell ob 1 rfl
      have k2 := obj_cell ob 2 rfl
      have mW := mb.grow gW
      have oW := oq.grow gW
      have hgW := hg.trans gW
      have zW := gW.size
      rw [← hs] at zW
      clear mb oq gW ob
      by_cases hk1 : kd = 1
      · subst hk1
        by_cases hc0 : ct = 0
        · subst hc0
          subst hW
          subst hs
          go_wp2_with fail
          refine setNone p h c b fi _ mW hw1 _ ?_
          intro w5 g5
          have k2' := g5.cell k2
          go_wp2_with fail
          go_roundw
          case rel => exact ⟨i + 1, p, h, c, b, rfl, by go_num, by omega, hb, mW.grow g5, oW.grow g5, hgW.trans g5, hpq, hhq, hhw⟩
          case measure => simp [intOf] <;> omega
        have hc0' : (ct == 0) = false := by simp; omega
        by_cases hgood : 0 < ct ∧ 0 ≤ fi ∧ fi + ct ≤ m
        · obtain ⟨F, rfl⟩ : ∃ F : Nat, fi = F := ⟨fi.toNat, by omega⟩
          obtain ⟨C, rfl⟩ : ∃ C : Nat, ct = C := ⟨ct.toNat, by omega⟩
          have hFC : 1 ≤ C ∧ F + C ≤ m := by omega
          have hd1 : decide ((C : Int) < 0) = false := by simp
          have hd2 : decide ((F : Int) < 0) = false := by simp
          have hd3 : decide (m ≤ F) = false := by simp; omega
          have hd4 : decide ((m : Int) - F < C) = false := by simp; omega
          clear hgood hc0
          subst hW
          subst hs
          go_wp2_with fail
          refine setC p h c b F C _ mW (by omega) (by omega) _ ?_
          intro w5 m5 k5
          have o5 := oW.keep k5 (by simp [blk]; omega)
          have hg5 := hgW.then k5 (fun g hg => by simp at hg; omega)
          have j1 := k5.cell k1 (by simp; omega)
          have j2 := k5.cell k2 (by simp; omega)
          have z5 := k5.size
          clear mW oW k0 k1 k2 k5 hgW
          go_wp2_with fail
          go_loopw [15] (fun a wr => ∃ j : Nat, a = .int .i64 (j : Int) ∧ j ≤ C ∧ Own wr 4 1 (some ⟨q, 0, none⟩) m m ((mark b F j).map Value.bool) ∧ Keep [q] w5 wr) (fun a _ => C - (intOf a).toNat)
          case atStart => exact ⟨0, by simp, by omega, by rw [mark_zero]; exact o5, Keep.refl _ _⟩
          case round =>
            obtain ⟨j, rfl, hj, oj, kj⟩ := hrel
            have i1 := kj.cell j1 (by simp; omega)
            have i2 := kj.cell j2 (by simp; omega)
            by_cases hjx : j < C
            · obtain ⟨gq, v, eq, cv, fv, hs'⟩ := own_put oj (i := F + j) (by omega)
              cases eq
              have kj2 := kj.trans (Keep.setCell wr ⟨q, F + j, none⟩ (by simp) (.bool true))
              have hs2 := hs' (.bool true) rfl
              rw [← mark_set b F j (by omega)] at hs2
              go_wp2_with fail
              go_roundw
              case rel => exact ⟨j + 1, by go_num, by omega, hs2, kj2⟩
              case measure => simp [intOf] <;> omega
            · obtain rfl : j = C := by omega
              have m6 := m5.keep kj (by simp; omega) (by simp; omega)
              have hg6 := hg5.then kj (fun g hg => by simp at hg; omega)
              have hb6 : (mark b F j).length = m := by rw [mark_len]; exact hb
              have hsh := showsC p h c (mark b F j) (some ⟨q, 0, none⟩) m first count wr m6 (by rw [hb6]; exact oj.sl) hfw hcw
              rw [hb6] at hsh
              go_wp2_with fail
              refine hsh _ ?_
              intro w7 g7
              go_wp2_with fail
              go_roundw
              case rel => exact ⟨i + 1, p, h, c, mark b F j, rfl, by go_num, by omega, hb6, m6.grow g7, oj.grow g7, hg6.trans g7, hpq, hhq, hhw⟩
              case measure => simp [intOf] <;> omega
        · have hbad : ct < 0 ∨ (0 < ct ∧ (fi < 0 ∨ (b.length : Int) < ct ∨ (b.length : Int) - ct < fi)) := by omega
          have hset := setBad p h c b fi ct W mW hw1 hw2 hbad
          clear hgood
          by_cases hx1 : ct < 0
          · clear hbad
            subst hW
            subst hs
            go_wp2_with fail
            refine hset _ ?_
            intro w5 g5
            have j1 := g5.cell k1
            have j2 := g5.cell k2
            go_wp2_with fail
            go_roundw
            case rel => exact ⟨i + 1, p, h, c, b, rfl, by go_num, by omega, hb, mW.grow g5, oW.grow g5, hgW.trans g5, hpq, hhq, hhw⟩
            case measure => simp [intOf] <;> omega
          have hx1' : decide (ct < 0) = false := by simp; omega
          by_cases hx2 : fi < 0
          · clear hbad
            subst hW
            subst hs
            go_wp2_with fail
            refine hset _ ?_
            intro w5 g5
            have j1 := g5.cell k1
            have j2 := g5.cell k2
            go_wp2_with fail
            go_roundw
            case rel => exact ⟨i + 1, p, h, c, b, rfl, by go_num, by omega, hb, mW.grow g5, oW.grow g5, hgW.trans g5, hpq, hhq, hhw⟩
            case measure => simp [intOf] <;> omega
          have hx2' : decide (fi < 0) = false := by simp; omega
          by_cases hx3 : (m : Int) ≤ fi
          · clear hbad
            subst hW
            subst hs
            go_wp2_with fail
            refine hset _ ?_
            intro w5 g5
            have j1 := g5.cell k1
            have j2 := g5.cell k2
            go_wp2_with fail
            go_roundw
            case rel => exact ⟨i + 1, p, h, c, b, rfl, by go_num, by omega, hb, mW.grow g5, oW.grow g5, hgW.trans g5, hpq, hhq, hhw⟩
            case measure => simp [intOf] <;> omega
          have hx3' : decide ((m : Int) ≤ fi) = false := by simp; omega
          have hx4 : (m : Int) - fi < ct := by omega
          clear hbad
          subst hW
          subst hs
          go_wp2_with fail
          refine hset _ ?_
          intro w5 g5
          have j1 := g5.cell k1
          have j2 := g5.cell k2
          go_wp2_with fail
          go_roundw
          case rel => exact ⟨i + 1, p, h, c, b, rfl, by go_num, by omega, hb, mW.grow g5, oW.grow g5, hgW.trans g5, hpq, hhq, hhw⟩
          case measure => simp [intOf] <;> omega
      have hk1' : (kd == 1) = false := by simp; omega
      by_cases hk2 : kd = 2
      · subst hk2
        have hpl := pack_len b
        have hgo := pack_good b (by omega) (by omega)
        have hun := unp_pack b
        rw [hb] at hgo hun hpl
        subst hW
        subst hs
        go_wp2_with fail
        refine bytesC p h c b _ mW _ ?_
        rw [hb]
        intro h4 c4 w4 o4 g4 l4
        have hof := ofC m (some ⟨h4, 0, none⟩) c4 (pack b) w4 (by rw [hpl]; exact o4.sl) (WalkArith.wf_i64 (by omega)) (by rw [hpl]; omega)
        rw [hpl] at hof
        have k0' := g4.cell k0
        go_wp2_with fail
        refine hof _ (fun hh => absurd hgo hh) ?_
        rw [Int.toNat_natCast, hun]
        intro _ p6 h6 c6 w6 m6 g6 l6 l6'
        have z4 := g4.size
        have o6 := (oW.grow g4).grow g6
        have hg6 := (hgW.trans g4).trans g6
        have hsh := showsC p6 h6 c6 b (some ⟨q, 0, none⟩) m first count w6 m6 (by rw [hb]; exact o6.sl) hfw hcw
        rw [hb] at hsh
        clear hof hgo hun k0 k1 k2 k0' o4 mW
        go_wp2_with fail
        refine hsh _ ?_
        intro w7 g7
        go_wp2_with fail
        go_roundw
        case rel => exact ⟨i + 1, p6, h6, c6, b, rfl, by go_num, by omega, hb, m6.grow g7, o6.grow g7, hg6.trans g7, by omega, by omega, by omega⟩
        case measure => simp [intOf] <;> omega
      have hk2' : (kd == 2) = false := by simp; omega
      by_cases hk3 : kd = 3
      · subst hk3
        subst hW
        subst hs
        go_wp2_with fail
        refine copyC p h c b _ mW _ ?_
        intro p6 h6 c6 w6 m6 g6 l6 l6'
        go_wp2_with fail
        refine setC p h c b 0 m w6 (mW.grow g6) (by omega) (by omega) _ ?_
        intro w7 _ k7
        have z6 := g6.size
        have m7 := m6.keep k7 (by simp; omega) (by simp; omega)
        have o7 := (oW.grow g6).keep k7 (by simp [blk]; omega)
        have hg7 := (hgW.trans g6).then k7 (fun g hg => by simp at hg; omega)
        have hsh := showsC p6 h6 c6 b (some ⟨q, 0, none⟩) m first count w7 m7 (by rw [hb]; exact o7.sl) hfw hcw
        rw [hb] at hsh
        clear k0 k1 k2 mW m6 oW
        go_wp2_with fail
        refine hsh _ ?_
        intro w8 g8
        go_wp2_with fail
        go_roundw
        case rel => exact ⟨i + 1, p6, h6, c6, b, rfl, by go_num, by omega, hb, m7.grow g8, o7.grow g8, hg7.trans g8, by omega, by omega, by omega⟩
        case measure => simp [intOf] <;> omega
      have hk3' : (kd == 3) = false := by simp; omega
      have hsh := showsC p h c b (some ⟨q, 0, none⟩) m first count W mW (by rw [hb]; exact oW.sl) hfw hcw
      rw [hb] at hsh
      subst hW
      subst hs
      go_wp2_with fail
      refine hsh _ ?_
      intro w8 g8
      go_wp2_with fail
      go_roundw
      case rel => exact ⟨i + 1, p, h, c, b, rfl, by go_num, by omega, hb, mW.grow g8, oW.grow g8, hgW.trans g8, hpq, hhq, hhw⟩
      case measure => simp [intOf] <;> omega
    · obtain rfl : i = l.length := by omega
      have hsh := showsC p h c b (some ⟨q, 0, none⟩) m first count wr mb (by rw [hb]; exact oq.sl) hfw hcw
      rw [hb] at hsh
      go_wp2_with fail
      refine hsh _ ?_
      intro w7 g7
      go_wp2_with fail
      refine awakeM w7 _ ?_
      intro w8 g8
      go_wp2
      exact (hg.trans g7).trans g8
end Go.Proofs.Ytoelddjmjhnbaaa
