/- MarksBytes: the walk. -/
import Derived.Test.YtoelddjmjhnbaaaMarksA
namespace Go.Proofs.Ytoelddjmjhnbaaa
open Go Go.RowKit

set_option maxRecDepth 100000 in
set_option maxHeartbeats 2000000 in
theorem bytesW (n : Int) (lo : Option Addr) (cap : Nat) (l : List UInt8) (w : World) (hn : (Lit.int .i64 n).wf = true) (s : Sl w 1 lo l.length cap (l.map B)) (R : Ending → World → Prop) (hR : ∀ w', Grow w w' → R (.returned (.bool true)) w') :
    Calls Try.prog 11 #[.int .i64 n, .slice lo l.length cap] w R := by
  by_cases h1 : 500 < n
  · go_enter Try.func11, Try.ntmps11
    go_wp2_with fail
    refine awakeM w _ ?_
    intro w1 g1
    go_wp2
    exact g1
  have hf1 : decide (500 < n) = false := by simp; omega
  by_cases h2 : 200 < l.length
  · go_enter Try.func11, Try.ntmps11
    go_wp2_with fail
    refine awakeM w _ ?_
    intro w1 g1
    go_wp2
    exact g1
  have hf2 : decide (200 < l.length) = false := by simp; omega
  have hf2' : decide (200 < (l.length : Int)) = false := by simp; omega
  by_cases h3 : n < 1
  · have hno : ¬ goodB n l := fun h => by have := h.1; omega
    go_enter Try.func11, Try.ntmps11
    go_wp2_with fail
    refine ofC n lo cap l w s hn (by omega) _ ?_ (fun h => absurd h hno)
    intro _ w1 g1
    have s1 := s.grow g1
    go_wp2_with fail
    refine awakeM w1 _ ?_
    intro w2 g2
    go_wp2
    exact g1.trans g2
  obtain ⟨m, rfl⟩ : ∃ m : Nat, n = m := ⟨n.toNat, by omega⟩
  have hf3 : decide (1 ≤ (m : Int)) = true := by simp; omega
  have hf4 : decide (1 ≤ m) = true := by simp; omega
  by_cases hlen : l.length = (m + 7) / 8
  · obtain ⟨x, hx⟩ : ∃ x, x = (l.getD (l.length - 1) 0).toNat := ⟨_, rfl⟩
    have hx8 : x < 256 := by rw [hx]; exact UInt8.toNat_lt _
    have hxl : (l.map B)[l.length - 1]? = some (.int .u8 (x : Int)) := by
      rw [List.getElem?_map, List.getElem?_eq_getElem (by omega)]
      simp [hx, B, List.getD_eq_getElem?_getD, show l.length - 1 < l.length by omega]
    have hgood : goodB m l ↔ (m % 8 = 0 ∨ x / 2 ^ (m % 8) = 0) := by
      unfold goodB
      rw [Int.toNat_natCast, ← hx]
      constructor
      · rintro ⟨-, -, -, h⟩; exact h
      · intro h; exact ⟨by omega, by omega, hlen, h⟩
    have hML : (m + 7) / 8 ≤ 200 ∧ 1 ≤ (m + 7) / 8 := by omega
    have hxd : (x : Int) / 2 ^ (m % 8) = ((x / 2 ^ (m % 8) : Nat) : Int) := by simp
    have hpk := pack_unp m l hlen
    rw [← hx] at hpk
    clear hx
    obtain ⟨g, off, eg, hcs⟩ := s.hat (by omega)
    subst eg
    by_cases hm8 : m % 8 = 0
    · have hgd := hgood.2 (.inl hm8)
      have hpk := hpk (.inl hm8)
      clear hgood hxd
      have hof := ofC m _ cap l w s hn (by omega)
      rw [hlen] at hof ⊢
      have hf6 : decide (200 < (m + 7) / 8) = false := by simp; omega
      have hf7 : decide (200 < ((m : Int) + 7) / 8) = false := by simp; omega
      go_enter Try.func11, Try.ntmps11
      go_wp2_with fail
      refine hof _ (fun h => absurd hgd h) ?_
      rw [Int.toNat_natCast]
      intro _ p h c w1 m1 g1 _ _
      clear hof
      have s1 := s.grow g1
      have c2 := g1.cell (hcs.at hxl)
      have hbl := unp_len m l
      have hbu := bt_unp m l
      obtain ⟨b, hb⟩ : ∃ b, b = unp m l := ⟨_, rfl⟩
      rw [← hb] at hpk m1 hbl hbu
      clear hb
      rw [hlen] at s1 s c2
      go_wp2_with fail
      let V : Nat → Array Value → Value → World → Prop := fun i _ v w' =>
        match i with
        | 8 => vBy w1.heap.size b v w'
        | _ => vIs (.string (str l)) v w'
      have e1 : ∀ n : KW [] tt w1, (convert 22 9 (.slice (some ⟨g, off, none⟩) ((m + 7) / 8) cap)).run Try.prog n.w = .ok (.string (str l)) n.w := fun n => run_str Try.underlying22 Try.underlying5 Try.underlying9 (s1.keep n.h (by simp))
      refine wp_region_R (segK [] w1 [8, 9] V ?_) (by kernel_rfl) segK_drew ?_
      · intro i vs v wa wb kk
        show V i vs v wa → V i vs v wb
        simp only [V]
        split <;> first | exact vBy.st kk | exact vIs.st kk
      unfold segK segR
      repeat (first | (refine wpV_skp rfl rfl ?_; simp only [List.set_cons_succ, List.set_cons_zero]) | (refine wpV_look rfl rfl rfl rfl rfl (fun K hK => ?_); go_big_quiet_op; refine hK _ ?_; clear hK K))
      refine wpV_mk rfl rfl rfl [] rfl (fun _ w7 hC _ => yields_call (by kernel_rfl) ?_) (fun _ v w7 hC hV _ => ?_)
      · obtain ⟨⟨w7, hk, -⟩, rfl⟩ := hC
        refine bytesC p h c b w7 (m1.keep hk (by simp) (by simp)) _ ?_
        intro h8 c8 w8 o8 g8 l8
        have := hk.size
        exact ⟨_, rfl, ⟨Keep.of_grow [] g8, trivial⟩, h8, c8, rfl, o8, by omega⟩
      obtain ⟨h8, c8, rfl, -, -⟩ : vBy _ b v w7 := hV
      clear hC
      simp only [List.set_cons_succ, List.set_cons_zero]
      rw [hbl]
      refine wpV_mk rfl rfl rfl [8] (by kernel_rfl) (fun _ w7 hC hF => ?_) (fun _ v w7 hC hV _ => ?_)
      · obtain ⟨⟨w7, hk, -⟩, rfl⟩ := hC
        obtain ⟨h9, c9, e9, o9, l9⟩ : vBy w1.heap.size b _ w7 := (hF 8 (by simp)).2 rfl
        rw [hbl] at e9 o9
        cases e9
        rw [hpk] at o9
        have cv := run_str (d := 9) Try.underlying22 Try.underlying5 Try.underlying9 o9.sl
        unfold yields
        go_simp
        exact ⟨⟨Keep.refl _ _, trivial⟩, rfl⟩
      obtain rfl : v = _ := hV
      clear hC
      simp only [List.set_cons_succ, List.set_cons_zero]
      repeat (first | (refine wpV_skp rfl rfl ?_; simp only [List.set_cons_succ, List.set_cons_zero]) | (refine wpV_look rfl rfl rfl rfl rfl (fun K hK => ?_); go_big_quiet_op; refine hK _ ?_; clear hK K))
      refine wpV_nil ?_
      intro w8 hC _
      obtain ⟨⟨w8, hk8, -⟩, rfl⟩ := hC
      have m8 := m1.keep hk8 (by simp) (by simp)
      have g8 := g1.trans hk8.grow
      have hcs8 := (hcs.keep (Keep.of_grow [] g8) (by simp))
      clear e1 c2 hcs m1 s s1
      go_wp2_with fail
      go_loopw [8, 9] (fun c i wr => ∃ k : Nat, c = .int .i64 (cnt b k : Int) ∧ i = .int .i64 (k : Int) ∧ k ≤ m ∧ Grow w8 wr) (fun _ i _ => m - (intOf i).toNat)
      case atStart => exact ⟨0, by simp [cnt], by simp, by omega, Grow.refl _⟩
      case round =>
        obtain ⟨k, rfl, rfl, hk, hg⟩ := hrel
        by_cases hlt : k < m
        · have hq : k / 8 < l.length := by omega
          have c2 := hg.cell (hcs8.at (i := k / 8) (v := .int .u8 ((l[k / 8].toNat : Nat) : Int)) (by simp [hq, B]))
          have hy8 : l[k / 8].toNat < 256 := UInt8.toNat_lt _
          have hbk := hbu k
          rw [show l.getD (k / 8) 0 = l[k / 8] by simp [List.getD_eq_getElem?_getD, hq]] at hbk
          obtain ⟨y, hy⟩ : ∃ y, y = l[k / 8].toNat := ⟨_, rfl⟩
          rw [← hy] at c2 hy8 hbk
          clear hy
          have hyd : (y : Int) / 2 ^ (k % 8) = ((y / 2 ^ (k % 8) : Nat) : Int) := by simp
          have hbit : (bits BinOp.and IntKind.u8 ((y : Int) / 2 ^ (k % 8)) 1 == 1) = bt b k := by
            rw [hbk, hyd, show (1 : Int) = ((1 : Nat) : Int) from rfl, u8_and_nat _ _ (Nat.lt_of_le_of_lt (Nat.div_le_self _ _) hy8) (by omega), nat_mask1]
            rcases Nat.mod_two_eq_zero_or_one (y / 2 ^ (k % 8)) with h | h <;> simp [h, hlt]
          have hcl := cnt_le b k
          have hcs9 : cnt b (k + 1) = cnt b k + (bt b k).toNat := rfl
          obtain ⟨C, hC⟩ : ∃ C, C = cnt b k := ⟨_, rfl⟩
          rw [← hC] at hcl hcs9 ⊢
          clear hC hbk hyd
          cases hbt : bt b k
          · rw [hbt] at hbit hcs9
            go_wp2_with fail
            refine hasK p h c b k wr (m8.grow hg) (by omega) _ ?_
            rw [hbt]
            intro w2 g2
            go_wp2_with fail
            go_roundw
            case rel => exact ⟨k + 1, by rw [hcs9]; rfl, by go_num, by omega, hg.trans g2⟩
            case measure => simp [intOf]; omega
          · rw [hbt] at hbit hcs9
            go_wp2_with fail
            refine hasK p h c b k wr (m8.grow hg) (by omega) _ ?_
            rw [hbt]
            intro w2 g2
            go_wp2_with fail
            go_roundw
            case rel => exact ⟨k + 1, by rw [hcs9]; rfl, by go_num, by omega, hg.trans g2⟩
            case measure => simp [intOf]; omega
        · obtain rfl : k = m := by omega
          go_wp2_with fail
          refine countC p h c b wr (m8.grow hg) _ ?_
          rw [hbl]
          intro w2 g2
          go_wp2_with fail
          refine awakeM w2 _ ?_
          intro w3 g3
          go_wp2
          exact ((g8.trans hg).trans g2).trans g3
    have hm8' : ((m : Int) % 8 == 0) = false := by simp; omega
    by_cases hxz : x / 2 ^ (m % 8) = 0
    · have hgd := hgood.2 (.inr hxz)
      have hpk := hpk (.inr hxz)
      have hxi : (x : Int) / 2 ^ (m % 8) = 0 := by rw [hxd, hxz]; rfl
      clear hgood hxd
      have hof := ofC m _ cap l w s hn (by omega)
      rw [hlen] at hof ⊢
      have hf6 : decide (200 < (m + 7) / 8) = false := by simp; omega
      have hf7 : decide (200 < ((m : Int) + 7) / 8) = false := by simp; omega
      go_enter Try.func11, Try.ntmps11
      go_wp2_with fail
      refine hof _ (fun h => absurd hgd h) ?_
      rw [Int.toNat_natCast]
      intro _ p h c w1 m1 g1 _ _
      clear hof
      have s1 := s.grow g1
      have c2 := g1.cell (hcs.at hxl)
      have hbl := unp_len m l
      have hbu := bt_unp m l
      obtain ⟨b, hb⟩ : ∃ b, b = unp m l := ⟨_, rfl⟩
      rw [← hb] at hpk m1 hbl hbu
      clear hb
      rw [hlen] at s1 s c2
      go_wp2_with fail
      let V : Nat → Array Value → Value → World → Prop := fun i _ v w' =>
        match i with
        | 8 => vBy w1.heap.size b v w'
        | _ => vIs (.string (str l)) v w'
      have e1 : ∀ n : KW [] tt w1, (convert 22 9 (.slice (some ⟨g, off, none⟩) ((m + 7) / 8) cap)).run Try.prog n.w = .ok (.string (str l)) n.w := fun n => run_str Try.underlying22 Try.underlying5 Try.underlying9 (s1.keep n.h (by simp))
      refine wp_region_R (segK [] w1 [8, 9] V ?_) (by kernel_rfl) segK_drew ?_
      · intro i vs v wa wb kk
        show V i vs v wa → V i vs v wb
        simp only [V]
        split <;> first | exact vBy.st kk | exact vIs.st kk
      unfold segK segR
      repeat (first | (refine wpV_skp rfl rfl ?_; simp only [List.set_cons_succ, List.set_cons_zero]) | (refine wpV_look rfl rfl rfl rfl rfl (fun K hK => ?_); go_big_quiet_op; refine hK _ ?_; clear hK K))
      refine wpV_mk rfl rfl rfl [] rfl (fun _ w7 hC _ => yields_call (by kernel_rfl) ?_) (fun _ v w7 hC hV _ => ?_)
      · obtain ⟨⟨w7, hk, -⟩, rfl⟩ := hC
        refine bytesC p h c b w7 (m1.keep hk (by simp) (by simp)) _ ?_
        intro h8 c8 w8 o8 g8 l8
        have := hk.size
        exact ⟨_, rfl, ⟨Keep.of_grow [] g8, trivial⟩, h8, c8, rfl, o8, by omega⟩
      obtain ⟨h8, c8, rfl, -, -⟩ : vBy _ b v w7 := hV
      clear hC
      simp only [List.set_cons_succ, List.set_cons_zero]
      rw [hbl]
      refine wpV_mk rfl rfl rfl [8] (by kernel_rfl) (fun _ w7 hC hF => ?_) (fun _ v w7 hC hV _ => ?_)
      · obtain ⟨⟨w7, hk, -⟩, rfl⟩ := hC
        obtain ⟨h9, c9, e9, o9, l9⟩ : vBy w1.heap.size b _ w7 := (hF 8 (by simp)).2 rfl
        rw [hbl] at e9 o9
        cases e9
        rw [hpk] at o9
        have cv := run_str (d := 9) Try.underlying22 Try.underlying5 Try.underlying9 o9.sl
        unfold yields
        go_simp
        exact ⟨⟨Keep.refl _ _, trivial⟩, rfl⟩
      obtain rfl : v = _ := hV
      clear hC
      simp only [List.set_cons_succ, List.set_cons_zero]
      repeat (first | (refine wpV_skp rfl rfl ?_; simp only [List.set_cons_succ, List.set_cons_zero]) | (refine wpV_look rfl rfl rfl rfl rfl (fun K hK => ?_); go_big_quiet_op; refine hK _ ?_; clear hK K))
      refine wpV_nil ?_
      intro w8 hC _
      obtain ⟨⟨w8, hk8, -⟩, rfl⟩ := hC
      have m8 := m1.keep hk8 (by simp) (by simp)
      have g8 := g1.trans hk8.grow
      have hcs8 := (hcs.keep (Keep.of_grow [] g8) (by simp))
      clear e1 c2 hcs m1 s s1 hxi
      go_wp2_with fail
      go_loopw [8, 9] (fun c i wr => ∃ k : Nat, c = .int .i64 (cnt b k : Int) ∧ i = .int .i64 (k : Int) ∧ k ≤ m ∧ Grow w8 wr) (fun _ i _ => m - (intOf i).toNat)
      case atStart => exact ⟨0, by simp [cnt], by simp, by omega, Grow.refl _⟩
      case round =>
        obtain ⟨k, rfl, rfl, hk, hg⟩ := hrel
        by_cases hlt : k < m
        · have hq : k / 8 < l.length := by omega
          have c2 := hg.cell (hcs8.at (i := k / 8) (v := .int .u8 ((l[k / 8].toNat : Nat) : Int)) (by simp [hq, B]))
          have hy8 : l[k / 8].toNat < 256 := UInt8.toNat_lt _
          have hbk := hbu k
          rw [show l.getD (k / 8) 0 = l[k / 8] by simp [List.getD_eq_getElem?_getD, hq]] at hbk
          obtain ⟨y, hy⟩ : ∃ y, y = l[k / 8].toNat := ⟨_, rfl⟩
          rw [← hy] at c2 hy8 hbk
          clear hy
          have hyd : (y : Int) / 2 ^ (k % 8) = ((y / 2 ^ (k % 8) : Nat) : Int) := by simp
          have hbit : (bits BinOp.and IntKind.u8 ((y : Int) / 2 ^ (k % 8)) 1 == 1) = bt b k := by
            rw [hbk, hyd, show (1 : Int) = ((1 : Nat) : Int) from rfl, u8_and_nat _ _ (Nat.lt_of_le_of_lt (Nat.div_le_self _ _) hy8) (by omega), nat_mask1]
            rcases Nat.mod_two_eq_zero_or_one (y / 2 ^ (k % 8)) with h | h <;> simp [h, hlt]
          have hcl := cnt_le b k
          have hcs9 : cnt b (k + 1) = cnt b k + (bt b k).toNat := rfl
          obtain ⟨C, hC⟩ : ∃ C, C = cnt b k := ⟨_, rfl⟩
          rw [← hC] at hcl hcs9 ⊢
          clear hC hbk hyd
          cases hbt : bt b k
          · rw [hbt] at hbit hcs9
            go_wp2_with fail
            refine hasK p h c b k wr (m8.grow hg) (by omega) _ ?_
            rw [hbt]
            intro w2 g2
            go_wp2_with fail
            go_roundw
            case rel => exact ⟨k + 1, by rw [hcs9]; rfl, by go_num, by omega, hg.trans g2⟩
            case measure => simp [intOf]; omega
          · rw [hbt] at hbit hcs9
            go_wp2_with fail
            refine hasK p h c b k wr (m8.grow hg) (by omega) _ ?_
            rw [hbt]
            intro w2 g2
            go_wp2_with fail
            go_roundw
            case rel => exact ⟨k + 1, by rw [hcs9]; rfl, by go_num, by omega, hg.trans g2⟩
            case measure => simp [intOf]; omega
        · obtain rfl : k = m := by omega
          go_wp2_with fail
          refine countC p h c b wr (m8.grow hg) _ ?_
          rw [hbl]
          intro w2 g2
          go_wp2_with fail
          refine awakeM w2 _ ?_
          intro w3 g3
          go_wp2
          exact ((g8.trans hg).trans g2).trans g3
    · have hno : ¬ goodB m l := fun h => by rcases hgood.1 h with h | h; exact hm8 h; exact hxz h
      have hxi : ((x : Int) / 2 ^ (m % 8) == 0) = false := by rw [hxd]; exact beq_eq_false_iff_ne.2 fun h => hxz (Int.natCast_eq_zero.1 h)
      clear hgood hxd hpk
      have hof := ofC m _ cap l w s hn (by omega)
      rw [hlen] at hof hxl ⊢
      go_enter Try.func11, Try.ntmps11
      go_wp2_with fail
      refine hof _ ?_ (fun h => absurd h hno)
      intro _ w1 g1
      have s1 := s.grow g1
      have c2 := g1.cell (hcs.at hxl)
      clear hof
      rw [hlen] at s1 s
      go_wp2_with fail
      refine awakeM w1 _ ?_
      intro w2 g2
      go_wp2
      exact g1.trans g2
  · have hno : ¬ goodB m l := fun h => hlen (by have := h.2.2.1; rwa [Int.toNat_natCast] at this)
    have hne : ((l.length : Int) == ((m : Int) + 7) / 8) = false := by rw [show ((m : Int) + 7) / 8 = (((m + 7) / 8 : Nat) : Int) by omega]; simp; omega
    have hne2 : ((l.length : Int) == (((m + 7) / 8 : Nat) : Int)) = false := by simp; omega
    go_enter Try.func11, Try.ntmps11
    go_wp2_with fail
    refine ofC m lo cap l w s hn (by omega) _ ?_ (fun h => absurd h hno)
    intro _ w1 g1
    have s1 := s.grow g1
    go_wp2_with fail
    refine awakeM w1 _ ?_
    intro w2 g2
    go_wp2
    exact g1.trans g2
end Go.Proofs.Ytoelddjmjhnbaaa
