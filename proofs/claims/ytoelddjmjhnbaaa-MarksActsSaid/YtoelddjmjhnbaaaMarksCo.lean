/- MarksCopies: the plain law and the walk. -/
import Derived.Test.YtoelddjmjhnbaaaMarksA
import Derived.Test.YtoelddjmjhnbaaaRound
namespace Go.Proofs.Ytoelddjmjhnbaaa
open Go Go.RowKit

theorem pack_get (b : List Bool) (q : Nat) (h : q < (b.length + 7) / 8) : ((pack b).getD q 0).toNat = by8 (bt b) q := by
  have := by8_lt (bt b) q
  have e : (pack b)[q]? = some (UInt8.ofNat (by8 (bt b) q)) := by
    simp only [pack, List.getElem?_map, List.getElem?_range h, Option.map_some]
  rw [List.getD_eq_getElem?_getD, e, Option.getD_some, UInt8.toNat_ofNat']
  omega
theorem pack_good (b : List Bool) (h1 : 1 ≤ b.length) (h2 : b.length ≤ 65536) : goodB b.length (pack b) := by
  refine ⟨by omega, by omega, by rw [pack_len, Int.toNat_natCast], ?_⟩
  rw [Int.toNat_natCast, pack_len, pack_get b _ (by omega)]
  by_cases h8 : b.length % 8 = 0
  · exact .inl h8
  refine .inr ?_
  have hx := by8_lt (bt b) ((b.length + 7) / 8 - 1)
  have hb := by8_bit (bt b) ((b.length + 7) / 8 - 1)
  obtain ⟨x, hxe⟩ : ∃ x, x = by8 (bt b) ((b.length + 7) / 8 - 1) := ⟨_, rfl⟩
  rw [← hxe] at hx hb ⊢
  clear hxe
  refine by8_ext (Nat.lt_of_le_of_lt (Nat.div_le_self _ _) hx) (by omega) fun r _ => ?_
  rw [Nat.div_div_eq_div_mul, ← Nat.pow_add, Nat.zero_div]
  by_cases h : b.length % 8 + r < 8
  · rw [hb _ h, bt_out _ _ (by omega)]; rfl
  · have hp : 2 ^ 8 ≤ 2 ^ (b.length % 8 + r) := Nat.pow_le_pow_right (by omega) (by omega)
    rw [Nat.div_eq_of_lt (by omega)]
theorem unp_pack (b : List Bool) : unp b.length (pack b) = b := by
  refine bt_ext (unp_len _ _) fun i hi => ?_
  rw [unp_len] at hi
  rw [bt_unp, pack_get b _ (by omega), by8_bit _ _ _ (by omega), show 8 * (i / 8) + i % 8 = i by omega]
  cases bt b i <;> simp [hi]
theorem cnt_mono {a b : List Bool} (h : ∀ j, bt a j = true → bt b j = true) : ∀ k, cnt a k ≤ cnt b k
  | 0 => Nat.le_refl _
  | k + 1 => by
    have := cnt_mono h k
    have hk := h k
    rw [cnt, cnt]
    cases ha : bt a k
    · simp; omega
    · rw [hk ha]; omega
theorem mark_mono (b : List Bool) (f c j : Nat) (h : bt b j = true) : bt (mark b f c) j = true := by
  rw [bt_mark, h]
  have : j < b.length := by
    apply Nat.lt_of_not_le
    intro hh
    rw [bt_out _ _ hh] at h
    cases h
  simp [this]

set_option maxRecDepth 100000 in
set_option maxHeartbeats 2000000 in
theorem copiesW (n : Int) (ao : Option Addr) (ca : Nat) (la : List Int) (bo : Option Addr) (cb : Nat) (lb : List Int) (w : World) (hn : (Lit.int .i64 n).wf = true) (sa : Sl w 1 ao la.length ca (la.map (.int .i64))) (_ : ∀ a ∈ la, (Lit.int .i64 a).wf = true)
    (sb : Sl w 1 bo lb.length cb (lb.map (.int .i64))) (_ : ∀ a ∈ lb, (Lit.int .i64 a).wf = true) (R : Ending → World → Prop) (hR : ∀ w', Grow w w' → R (.returned (.bool true)) w') :
    Calls Try.prog 13 #[.int .i64 n, .slice ao la.length ca, .slice bo lb.length cb] w R := by
  by_cases h1 : n < 1
  · go_enter Try.func13, Try.ntmps13
    go_wp2_with fail
    refine awakeM w _ ?_
    intro w1 g1
    go_wp2
    exact g1
  by_cases h2 : 200 < n
  · go_enter Try.func13, Try.ntmps13
    go_wp2_with fail
    refine awakeM w _ ?_
    intro w1 g1
    go_wp2
    exact g1
  have hf1 : decide (n < 1) = false := by simp; omega
  have hf2 : decide (200 < n) = false := by simp; omega
  by_cases h3 : 30 < la.length
  · go_enter Try.func13, Try.ntmps13
    go_wp2_with fail
    refine awakeM w _ ?_
    intro w1 g1
    go_wp2
    exact g1
  have hf3 : decide (30 < la.length) = false := by simp; omega
  have hf3' : decide (30 < (la.length : Int)) = false := by simp; omega
  by_cases h4 : 30 < lb.length
  · go_enter Try.func13, Try.ntmps13
    go_wp2_with fail
    refine awakeM w _ ?_
    intro w1 g1
    go_wp2
    exact g1
  have hf4 : decide (30 < lb.length) = false := by simp; omega
  have hf4' : decide (30 < (lb.length : Int)) = false := by simp; omega
  obtain ⟨m, rfl⟩ : ∃ m : Nat, n = m := ⟨n.toNat, by omega⟩
  have hm : 1 ≤ m ∧ m ≤ 200 := by omega
  clear h1 h2
  go_enter Try.func13, Try.ntmps13
  go_wp2_with fail
  refine newC m (by omega) (by omega) w _ ?_
  intro p h c w1 m1 g1 _ l1
  go_wp2_with fail
  go_loopw [9] (fun a wr => ∃ (i : Nat) (b : List Bool), a = .int .i64 (i : Int) ∧ i ≤ la.length ∧ b.length = m ∧ Mk wr p h c b ∧ Grow w wr) (fun a _ => la.length - (intOf a).toNat)
  case atStart => exact ⟨0, _, by simp, by omega, by simp, m1, g1⟩
  case round =>
    obtain ⟨i, A, rfl, hi, hA, mb, hg⟩ := hrel
    by_cases hil : i < la.length
    · obtain ⟨g, off, e, hcs⟩ := (sa.grow hg).hat (by omega)
      subst e
      have c1 := hcs.at (i := i) (v := .int .i64 la[i]) (by simp [hil])
      have hk := rnd_lt la[i] m (by omega)
      have hrc := roundC la[i] m (by omega) (by omega)
      obtain ⟨k, hke⟩ : ∃ k, k = rnd la[i] m := ⟨_, rfl⟩
      rw [← hke] at hk hrc
      clear hke hcs
      go_wp2_with fail
      refine hrc wr _ ?_
      go_wp2_with fail
      refine setC p h c A k 1 wr mb (by omega) (by omega) _ ?_
      intro w2 m2 k2
      have hg2 := hg.then k2 (fun g hg => by simp at hg; omega)
      clear mb
      go_wp2_with fail
      go_roundw
      case rel => exact ⟨i + 1, mark A k 1, by go_num, by omega, by rw [mark_len]; exact hA, m2, hg2⟩
      case measure => simp [intOf]; omega
    · obtain rfl : i = la.length := by omega
      clear hi hil m1 g1
      have hpl := pack_len A
      have hgo := pack_good A (by omega) (by omega)
      have hun := unp_pack A
      rw [hA] at hgo hun hpl
      obtain ⟨L, hL⟩ : ∃ L, L = (m + 7) / 8 := ⟨_, rfl⟩
      have hL25 : 1 ≤ L ∧ L ≤ 25 := by omega
      have HL := Lib.hid hL
      clear hL
      obtain ⟨w2, hw2⟩ : ∃ w2, w2 = wr := ⟨_, rfl⟩
      rw [← hw2] at mb hg ⊢
      clear hw2
      go_wp2_with fail
      refine bytesC p h c A w2 mb _ ?_
      rw [hA, ← HL.out]
      intro h3 c3 w3 o3 g3 _
      have cv := run_str (d := 9) Try.underlying22 Try.underlying5 Try.underlying9 o3.sl
      go_wp2_with fail
      refine bytesC p h c A w3 (mb.grow g3) _ ?_
      rw [hA, ← HL.out]
      intro h4 c4 w4 o4 g4 l4
      have m4 := (mb.grow g3).grow g4
      have hg4 := (hg.trans g3).trans g4
      have hhl : h < w2.heap.size := mb.own.lt h (by simp [blk])
      have hpl2 := mb.lt
      have z3 := g3.size
      have z4 := g4.size
      have h4l : h4 < w4.heap.size := o4.lt h4 (by simp [blk])
      clear cv o3 mb g3 g4
      go_wp2_with fail
      refine copyC p h c A w4 m4 _ ?_
      intro p5 h5 c5 w5 m5 g5 l5 l5'
      have o5 := o4.grow g5
      have hof := ofC m (some ⟨h4, 0, none⟩) c4 (pack A) w5 (by rw [hpl, ← HL.out]; exact o5.sl) (WalkArith.wf_i64 (by omega)) (by rw [hpl]; omega)
      rw [hpl, ← HL.out] at hof
      go_wp2_with fail
      refine hof _ (fun hh => absurd hgo hh) ?_
      rw [Int.toNat_natCast, hun]
      intro _ p6 h6 c6 w6 m6 g6 l6 l6'
      have z5 := g5.size
      have z6 := g6.size
      have p5l := m5.lt
      have h5l := m5.own.lt h5 (by simp [blk])
      have hp5h5 := m5.ne
      have m46 := (m4.grow g5).grow g6
      have m56 := m5.grow g6
      have o6 := o5.grow g6
      have hg6 := (hg4.trans g5).trans g6
      have hg' := hg
      clear hof o4 o5 m4 m5 hgo hun g5 g6
      go_wp2_with fail
      go_loopw [15] (fun a wr => ∃ (i : Nat) (ys : List Value), a = .int .i64 (i : Int) ∧ i ≤ L ∧ Own wr 5 1 (some ⟨h4, 0, none⟩) L c4 ys ∧ Keep [h4] w6 wr) (fun a _ => L - (intOf a).toNat)
      case atStart => exact ⟨0, _, by simp, by omega, o6, Keep.refl _ _⟩
      case round =>
        obtain ⟨i, ys, rfl, hi, oy, ky⟩ := hrel
        by_cases hiL : i < L
        · obtain ⟨ga, v, ea, cv, fv, hs⟩ := own_put oy (i := i) (by omega)
          cases ea
          have ky2 := ky.trans (Keep.setCell wr ⟨h4, i, none⟩ (by simp) (.int .u8 255))
          have hs2 := hs (.int .u8 255) rfl
          go_wp2_with fail
          go_roundw
          case rel => exact ⟨i + 1, _, by go_num, by omega, hs2, ky2⟩
          case measure => simp [intOf]; omega
        · have m47 := m46.keep ky (by simp; omega) (by simp; omega)
          have m57 := m56.keep ky (by simp; omega) (by simp; omega)
          have m67 := m6.keep ky (by simp; omega) (by simp; omega)
          have hg7 := hg6.then ky (fun g hg => by have := hg'.size; simp at hg; omega)
          have z7 := ky.size
          obtain ⟨w7, hw7⟩ : ∃ w7, w7 = wr := ⟨_, rfl⟩
          rw [← hw7] at m47 m57 m67 hg7 z7 ⊢
          clear hw7 oy ky m46 m56 m6 o6
          go_wp2_with fail
          go_loopw [16] (fun a wr => ∃ (i : Nat) (K : List Bool), a = .int .i64 (i : Int) ∧ i ≤ lb.length ∧ K.length = m ∧ (∀ j, bt A j = true → bt K j = true) ∧ Mk wr p5 h5 c5 K ∧ Keep [h5] w7 wr) (fun a _ => lb.length - (intOf a).toNat)
          case atStart => exact ⟨0, A, by simp, by omega, hA, fun j h => h, m57, Keep.refl _ _⟩
          case round =>
            obtain ⟨i, K, rfl, hi, hK, hmono, mk, k7⟩ := hrel
            have hg8 : Grow w wr := hg7.then k7 (fun g hg => by have := hg'.size; simp at hg; omega)
            by_cases hil : i < lb.length
            · obtain ⟨g, off, e, hcs⟩ := (sb.grow hg8).hat (by omega)
              subst e
              have c1 := hcs.at (i := i) (v := .int .i64 lb[i]) (by simp [hil])
              have hk := rnd_lt lb[i] m (by omega)
              have hrc := roundC lb[i] m (by omega) (by omega)
              obtain ⟨k, hke⟩ : ∃ k, k = rnd lb[i] m := ⟨_, rfl⟩
              rw [← hke] at hk hrc
              clear hke hcs
              have hmono2 : ∀ j, bt A j = true → bt (mark K k 1) j = true := fun j h => mark_mono K k 1 j (hmono j h)
              clear hmono
              go_wp2_with fail
              refine hrc wr _ ?_
              go_wp2_with fail
              refine setC p5 h5 c5 K k 1 wr mk (by omega) (by omega) _ ?_
              intro w9 m9 k9
              have k79 := k7.trans k9
              clear mk
              go_wp2_with fail
              go_roundw
              case rel => exact ⟨i + 1, mark K k 1, by go_num, by omega, by rw [mark_len]; exact hK, hmono2, m9, k79⟩
              case measure => simp [intOf]; omega
            · have m48 := m47.keep k7 (by simp; omega) (by simp; omega)
              have m68 := m67.keep k7 (by simp; omega) (by simp; omega)
              have hcm := cnt_mono hmono m
              have hcl := cnt_le A m
              have hcl2 := cnt_le K m
              clear hmono m47 m57 m67 k7 hi
              obtain ⟨w8, hw8⟩ : ∃ w8, w8 = wr := ⟨_, rfl⟩
              rw [← hw8] at m48 m68 mk hg8 ⊢
              clear hw8
              go_wp2_with fail
              refine bytesC p h c A w8 m48 _ ?_
              rw [hA, ← HL.out]
              intro h9 c9 w9 o9 g9 _
              have cv := run_str (d := 9) Try.underlying22 Try.underlying5 Try.underlying9 o9.sl
              go_wp2_with fail
              refine bytesC p6 h6 c6 A w9 (m68.grow g9) _ ?_
              rw [hA, ← HL.out]
              intro h10 c10 w10 o10 g10 _
              clear cv
              have cv := run_str (d := 9) Try.underlying22 Try.underlying5 Try.underlying9 o10.sl
              have g910 := g9.trans g10
              go_wp2_with fail
              refine countC p5 h5 c5 K w10 (mk.grow g910) _ ?_
              rw [hK]
              intro w11 g11
              clear cv o9 o10
              go_wp2_with fail
              refine countC p h c A w11 ((m48.grow g910).grow g11) _ ?_
              rw [hA]
              intro w12 g12
              obtain ⟨x, hx⟩ : ∃ x, x = cnt A m := ⟨_, rfl⟩
              obtain ⟨y, hy⟩ : ∃ y, y = cnt K m := ⟨_, rfl⟩
              rw [← hx, ← hy] at hcm
              rw [← hx] at hcl ⊢
              rw [← hy] at hcl2 ⊢
              clear hx hy
              go_wp2_with fail
              refine sizeC p5 h5 c5 K w12 (((mk.grow g910).grow g11).grow g12) _ ?_
              rw [hK]
              intro w13 g13
              go_wp2_with fail
              refine awakeM w13 _ ?_
              intro w14 g14
              go_wp2
              exact ((((hg8.trans g910).trans g11).trans g12).trans g13).trans g14
end Go.Proofs.Ytoelddjmjhnbaaa
