/- priorylaw18.shows. -/
import Derived.Test.YtoelddjmjhnbaaaMarksR
namespace Go.Proofs.Ytoelddjmjhnbaaa
open Go Go.RowKit

set_option maxRecDepth 100000 in
set_option maxHeartbeats 2000000 in
theorem showsC (p h c : Nat) (b : List Bool) (bo : Option Addr) (cap : Nat) (first count : Int) (w : World) (m : Mk w p h c b) (s : Sl w 1 bo b.length cap (b.map Value.bool)) (hf : (Lit.int .i64 first).wf = true) (hc : (Lit.int .i64 count).wf = true) (R : Ending → World → Prop)
    (hR : ∀ w', Grow w w' → R (.returned (.bool true)) w') :
    Calls Try.prog 44 #[.pointer (some ⟨p, 0, none⟩), .slice bo b.length cap, .int .i64 first, .int .i64 count] w R := by
  have hn1 := m.one
  have hn2 := m.max
  have hco := cnt_out b 1
  have hac := fun w' (g : Grow w w') => anyC p h c b first count w' (m.grow g) hf hc
  have hrc := fun w' (g : Grow w w') => rAnyC bo cap b first count w' (s.grow g) hn2 hf hc
  obtain ⟨x, hx⟩ : ∃ x, x = anyS b first count := ⟨_, rfl⟩
  rw [← hx] at hac hrc
  clear hx
  obtain ⟨L, hL⟩ : ∃ L, L = (b.length + 7) / 8 := ⟨_, rfl⟩
  have HL := Lib.hid hL
  clear hL
  cases x
  · go_enter Try.func44, Try.ntmps44
    go_wp2_with fail
    let V : Nat → Array Value → Value → World → Prop := fun i _ v w' =>
      match i with
      | 4 => vIs (.int .i64 (b.length : Int)) v w'
      | 11 => vBy w.heap.size b v w'
      | 12 => vIs (.string (str (pack b))) v w'
      | 14 => vBy w.heap.size b v w'
      | 15 => vIs (.string (str (pack b))) v w'
      | _ => vIs (.bool false) v w'
    refine wp_region_R (segK [] w [4, 11, 12, 14, 15, 22, 26] V ?_) (by kernel_rfl) segK_drew ?_
    · intro i vs v wa wb kk
      show V i vs v wa → V i vs v wb
      simp only [V]
      split <;> first | exact vBy.st kk | exact vIs.st kk
    unfold segK segR
    repeat (first | (refine wpV_skp rfl rfl ?_; simp only [List.set_cons_succ, List.set_cons_zero]) | (refine wpV_look rfl rfl rfl rfl rfl (fun K hK => ?_); go_big_quiet_op; refine hK _ ?_; clear hK K))
    refine wpV_mk rfl rfl rfl [] rfl (fun _ w7 hC hF => ?_) (fun _ v w7 hC hV _ => ?_)
    · obtain ⟨⟨w7, hk, -⟩, rfl⟩ := hC
      refine yields_call (by kernel_rfl) ?_
      refine sizeC p h c b w7 (m.keep hk (by simp) (by simp)) _ ?_
      intro w8 g8
      exact ⟨_, rfl, ⟨Keep.of_grow [] g8, trivial⟩, rfl⟩
    obtain rfl : v = _ := hV
    clear hC
    simp only [List.set_cons_succ, List.set_cons_zero]
    repeat (first | (refine wpV_skp rfl rfl ?_; simp only [List.set_cons_succ, List.set_cons_zero]) | (refine wpV_look rfl rfl rfl rfl rfl (fun K hK => ?_); go_big_quiet_op; refine hK _ ?_; clear hK K))
    refine wpV_mk rfl rfl rfl [] rfl (fun _ w7 hC hF => ?_) (fun _ v w7 hC hV _ => ?_)
    · obtain ⟨⟨w7, hk, -⟩, rfl⟩ := hC
      refine yields_call (by kernel_rfl) ?_
      refine bytesC p h c b w7 (m.keep hk (by simp) (by simp)) _ ?_
      intro h8 c8 w8 o8 g8 l8
      have := hk.size
      exact ⟨_, rfl, ⟨Keep.of_grow [] g8, trivial⟩, h8, c8, rfl, o8, by omega⟩
    obtain ⟨h8, c8, rfl, -, -⟩ : vBy _ b v w7 := hV
    clear hC
    simp only [List.set_cons_succ, List.set_cons_zero]
    refine wpV_mk rfl rfl rfl [11] (by kernel_rfl) (fun _ w7 hC hF => ?_) (fun _ v w7 hC hV _ => ?_)
    · obtain ⟨⟨w7, hk, -⟩, rfl⟩ := hC
      obtain ⟨h9, c9, e9, o9, l9⟩ : vBy w.heap.size b _ w7 := (hF 11 (by simp)).2 rfl
      cases e9
      have cv := run_str (d := 9) Try.underlying22 Try.underlying5 Try.underlying9 o9.sl
      unfold yields
      go_simp
      exact ⟨⟨Keep.refl _ _, trivial⟩, rfl⟩
    obtain rfl : v = _ := hV
    clear hC
    simp only [List.set_cons_succ, List.set_cons_zero]
    repeat (first | (refine wpV_skp rfl rfl ?_; simp only [List.set_cons_succ, List.set_cons_zero]) | (refine wpV_look rfl rfl rfl rfl rfl (fun K hK => ?_); go_big_quiet_op; refine hK _ ?_; clear hK K))
    refine wpV_mk rfl rfl rfl [] rfl (fun _ w7 hC hF => ?_) (fun _ v w7 hC hV _ => ?_)
    · obtain ⟨⟨w7, hk, -⟩, rfl⟩ := hC
      refine yields_call (by kernel_rfl) ?_
      refine rBytesC bo cap b w7 (s.keep hk (by simp)) hn1 hn2 _ ?_
      intro h8 c8 w8 o8 g8 l8
      have := hk.size
      exact ⟨_, rfl, ⟨Keep.of_grow [] g8, trivial⟩, h8, c8, rfl, o8, by omega⟩
    obtain ⟨h8', c8', rfl, -, -⟩ : vBy _ b v w7 := hV
    clear hC
    simp only [List.set_cons_succ, List.set_cons_zero]
    refine wpV_mk rfl rfl rfl [14] (by kernel_rfl) (fun _ w7 hC hF => ?_) (fun _ v w7 hC hV _ => ?_)
    · obtain ⟨⟨w7, hk, -⟩, rfl⟩ := hC
      obtain ⟨h9, c9, e9, o9, l9⟩ : vBy w.heap.size b _ w7 := (hF 14 (by simp)).2 rfl
      cases e9
      have cv := run_str (d := 9) Try.underlying22 Try.underlying5 Try.underlying9 o9.sl
      unfold yields
      go_simp
      exact ⟨⟨Keep.refl _ _, trivial⟩, rfl⟩
    obtain rfl : v = _ := hV
    clear hC
    simp only [List.set_cons_succ, List.set_cons_zero]
    repeat (first | (refine wpV_skp rfl rfl ?_; simp only [List.set_cons_succ, List.set_cons_zero]) | (refine wpV_look rfl rfl rfl rfl rfl (fun K hK => ?_); go_big_quiet_op; refine hK _ ?_; clear hK K))
    refine wpV_mk rfl rfl rfl [] rfl (fun _ w7 hC hF => ?_) (fun _ v w7 hC hV _ => ?_)
    · obtain ⟨⟨w7, hk, -⟩, rfl⟩ := hC
      refine yields_call (by kernel_rfl) ?_
      refine hac w7 hk.grow _ ?_
      intro w8 g8
      exact ⟨_, rfl, ⟨Keep.of_grow [] g8, trivial⟩, rfl⟩
    obtain rfl : v = _ := hV
    clear hC
    simp only [List.set_cons_succ, List.set_cons_zero]
    repeat (first | (refine wpV_skp rfl rfl ?_; simp only [List.set_cons_succ, List.set_cons_zero]) | (refine wpV_look rfl rfl rfl rfl rfl (fun K hK => ?_); go_big_quiet_op; refine hK _ ?_; clear hK K))
    refine wpV_mk rfl rfl rfl [] rfl (fun _ w7 hC hF => ?_) (fun _ v w7 hC hV _ => ?_)
    · obtain ⟨⟨w7, hk, -⟩, rfl⟩ := hC
      refine yields_call (by kernel_rfl) ?_
      refine hrc w7 hk.grow _ ?_
      intro w8 g8
      exact ⟨_, rfl, ⟨Keep.of_grow [] g8, trivial⟩, rfl⟩
    obtain rfl : v = _ := hV
    clear hC
    simp only [List.set_cons_succ, List.set_cons_zero]
    repeat (first | (refine wpV_skp rfl rfl ?_; simp only [List.set_cons_succ, List.set_cons_zero]) | (refine wpV_look rfl rfl rfl rfl rfl (fun K hK => ?_); go_big_quiet_op; refine hK _ ?_; clear hK K))
    refine wpV_nil ?_
    intro w4 hC _
    obtain ⟨⟨w4, hk4, -⟩, rfl⟩ := hC
    have m4 := m.keep hk4 (by simp) (by simp)
    have s4 := s.keep hk4 (by simp)
    have g4 := hk4.grow
    clear hac hrc hk4 m s
    go_wp2_with fail
    go_loopw [9, 10] (fun a i wr => ∃ k : Nat, a = .int .i64 (cnt b (k - 1) : Int) ∧ i = .int .i64 ((k : Int) - 1) ∧ k ≤ b.length + 2 ∧ Grow w4 wr) (fun _ i _ => (b.length + 1 - intOf i).toNat)
    case atStart => exact ⟨0, by simp [cnt], by simp, by omega, Grow.refl _⟩
    case round =>
      obtain ⟨k, rfl, rfl, hk, hg⟩ := hrel
      have mr := m4.grow hg
      cases k with
      | zero =>
        rw [show ((0 : Nat) : Int) - 1 = -1 by omega]
        simp only [Nat.zero_sub, cnt]
        go_wp2_with fail
        refine hasC p h c b (-1) wr mr rfl _ ?_
        rw [show (decide ((0 : Int) ≤ -1) && bt b (-1 : Int).toNat) = false by simp]
        intro w5 g5
        go_wp2_with fail
        go_roundw
        case rel => exact ⟨1, by simp [cnt], by simp, by omega, hg.trans g5⟩
        case measure => simp [intOf] <;> omega
      | succ k =>
        rw [show ((k + 1 : Nat) : Int) - 1 = (k : Int) by omega, Nat.add_sub_cancel]
        by_cases hkn : k < b.length
        · obtain ⟨g, off, e, hcs⟩ := (s4.grow hg).hat (by omega)
          subst e
          have c1 := hcs.at (map_at b k hkn)
          have hcl := cnt_le b k
          have hcs2 : cnt b (k + 1) = cnt b k + (bt b k).toNat := rfl
          obtain ⟨C, hC⟩ : ∃ C, C = cnt b k := ⟨_, rfl⟩
          rw [← hC] at hcl hcs2 ⊢
          clear hC hcs
          cases hbt : bt b k
          · rw [hbt] at c1 hcs2
            go_wp2_with fail
            refine hasK p h c b k wr mr (by omega) _ ?_
            rw [hbt]
            intro w5 g5
            go_wp2_with fail
            go_roundw
            case rel => exact ⟨k + 2, by rw [show k + 2 - 1 = k + 1 by omega, hcs2]; rfl, by congr 1; omega, by omega, hg.trans g5⟩
            case measure => simp [intOf] <;> omega
          · rw [hbt] at c1 hcs2
            go_wp2_with fail
            refine hasK p h c b k wr mr (by omega) _ ?_
            rw [hbt]
            intro w5 g5
            go_wp2_with fail
            go_roundw
            case rel => exact ⟨k + 2, by rw [show k + 2 - 1 = k + 1 by omega, hcs2]; rfl, by congr 1; omega, by omega, hg.trans g5⟩
            case measure => simp [intOf] <;> omega
        · by_cases hkn2 : k = b.length
          · subst hkn2
            have hbt := bt_out b b.length (Nat.le_refl _)
            have hcl := cnt_le b b.length
            obtain ⟨C, hC⟩ : ∃ C, C = cnt b b.length := ⟨_, rfl⟩
            rw [← hC] at hco hcl ⊢
            have hkk := hasK p h c b b.length wr mr (by omega)
            rw [hbt] at hkk
            clear hC hbt
            go_wp2_with fail
            refine hkk _ ?_
            intro w5 g5
            go_wp2_with fail
            go_roundw
            case rel => exact ⟨b.length + 2, by rw [show b.length + 2 - 1 = b.length + 1 by omega, hco], by congr 1; omega, by omega, hg.trans g5⟩
            case measure => simp [intOf] <;> omega
          · obtain rfl : k = b.length + 1 := by omega
            rw [hco]
            have hcl := cnt_le b b.length
            have sr := s4.grow hg
            obtain ⟨C, hC⟩ : ∃ C, C = cnt b b.length := ⟨_, rfl⟩
            rw [← hC] at hcl ⊢
            have hkk := fun w' (g : Grow wr w') => countC p h c b w' (mr.grow g)
            rw [← hC] at hkk
            clear hC hco
            go_wp2_with fail
            refine freeC p h c b count wr mr hc _ ?_
            intro w5 g5
            have hfr := rFreeC bo cap b count w5 (sr.grow g5) hn2 hc
            cases hfs : freeS b count with
            | none =>
              rw [hfs] at hfr
              simp only [freeV] at hfr ⊢
              clear hfs
              go_wp2_with fail
              refine hfr _ ?_
              intro w6 g6
              go_wp2_with fail
              refine hkk w6 (g5.trans g6) _ ?_
              intro w7 g7
              go_wp2
              exact (((g4.trans hg).trans g5).trans g6).trans g7
            | some f =>
              rw [hfs] at hfr
              simp only [freeV] at hfr ⊢
              clear hfs
              go_wp2_with fail
              refine hfr _ ?_
              intro w6 g6
              go_wp2_with fail
              refine hkk w6 (g5.trans g6) _ ?_
              intro w7 g7
              go_wp2
              exact (((g4.trans hg).trans g5).trans g6).trans g7
  · go_enter Try.func44, Try.ntmps44
    go_wp2_with fail
    let V : Nat → Array Value → Value → World → Prop := fun i _ v w' =>
      match i with
      | 4 => vIs (.int .i64 (b.length : Int)) v w'
      | 11 => vBy w.heap.size b v w'
      | 12 => vIs (.string (str (pack b))) v w'
      | 14 => vBy w.heap.size b v w'
      | 15 => vIs (.string (str (pack b))) v w'
      | _ => vIs (.bool true) v w'
    refine wp_region_R (segK [] w [4, 11, 12, 14, 15, 22, 26] V ?_) (by kernel_rfl) segK_drew ?_
    · intro i vs v wa wb kk
      show V i vs v wa → V i vs v wb
      simp only [V]
      split <;> first | exact vBy.st kk | exact vIs.st kk
    unfold segK segR
    repeat (first | (refine wpV_skp rfl rfl ?_; simp only [List.set_cons_succ, List.set_cons_zero]) | (refine wpV_look rfl rfl rfl rfl rfl (fun K hK => ?_); go_big_quiet_op; refine hK _ ?_; clear hK K))
    refine wpV_mk rfl rfl rfl [] rfl (fun _ w7 hC hF => ?_) (fun _ v w7 hC hV _ => ?_)
    · obtain ⟨⟨w7, hk, -⟩, rfl⟩ := hC
      refine yields_call (by kernel_rfl) ?_
      refine sizeC p h c b w7 (m.keep hk (by simp) (by simp)) _ ?_
      intro w8 g8
      exact ⟨_, rfl, ⟨Keep.of_grow [] g8, trivial⟩, rfl⟩
    obtain rfl : v = _ := hV
    clear hC
    simp only [List.set_cons_succ, List.set_cons_zero]
    repeat (first | (refine wpV_skp rfl rfl ?_; simp only [List.set_cons_succ, List.set_cons_zero]) | (refine wpV_look rfl rfl rfl rfl rfl (fun K hK => ?_); go_big_quiet_op; refine hK _ ?_; clear hK K))
    refine wpV_mk rfl rfl rfl [] rfl (fun _ w7 hC hF => ?_) (fun _ v w7 hC hV _ => ?_)
    · obtain ⟨⟨w7, hk, -⟩, rfl⟩ := hC
      refine yields_call (by kernel_rfl) ?_
      refine bytesC p h c b w7 (m.keep hk (by simp) (by simp)) _ ?_
      intro h8 c8 w8 o8 g8 l8
      have := hk.size
      exact ⟨_, rfl, ⟨Keep.of_grow [] g8, trivial⟩, h8, c8, rfl, o8, by omega⟩
    obtain ⟨h8, c8, rfl, -, -⟩ : vBy _ b v w7 := hV
    clear hC
    simp only [List.set_cons_succ, List.set_cons_zero]
    refine wpV_mk rfl rfl rfl [11] (by kernel_rfl) (fun _ w7 hC hF => ?_) (fun _ v w7 hC hV _ => ?_)
    · obtain ⟨⟨w7, hk, -⟩, rfl⟩ := hC
      obtain ⟨h9, c9, e9, o9, l9⟩ : vBy w.heap.size b _ w7 := (hF 11 (by simp)).2 rfl
      cases e9
      have cv := run_str (d := 9) Try.underlying22 Try.underlying5 Try.underlying9 o9.sl
      unfold yields
      go_simp
      exact ⟨⟨Keep.refl _ _, trivial⟩, rfl⟩
    obtain rfl : v = _ := hV
    clear hC
    simp only [List.set_cons_succ, List.set_cons_zero]
    repeat (first | (refine wpV_skp rfl rfl ?_; simp only [List.set_cons_succ, List.set_cons_zero]) | (refine wpV_look rfl rfl rfl rfl rfl (fun K hK => ?_); go_big_quiet_op; refine hK _ ?_; clear hK K))
    refine wpV_mk rfl rfl rfl [] rfl (fun _ w7 hC hF => ?_) (fun _ v w7 hC hV _ => ?_)
    · obtain ⟨⟨w7, hk, -⟩, rfl⟩ := hC
      refine yields_call (by kernel_rfl) ?_
      refine rBytesC bo cap b w7 (s.keep hk (by simp)) hn1 hn2 _ ?_
      intro h8 c8 w8 o8 g8 l8
      have := hk.size
      exact ⟨_, rfl, ⟨Keep.of_grow [] g8, trivial⟩, h8, c8, rfl, o8, by omega⟩
    obtain ⟨h8', c8', rfl, -, -⟩ : vBy _ b v w7 := hV
    clear hC
    simp only [List.set_cons_succ, List.set_cons_zero]
    refine wpV_mk rfl rfl rfl [14] (by kernel_rfl) (fun _ w7 hC hF => ?_) (fun _ v w7 hC hV _ => ?_)
    · obtain ⟨⟨w7, hk, -⟩, rfl⟩ := hC
      obtain ⟨h9, c9, e9, o9, l9⟩ : vBy w.heap.size b _ w7 := (hF 14 (by simp)).2 rfl
      cases e9
      have cv := run_str (d := 9) Try.underlying22 Try.underlying5 Try.underlying9 o9.sl
      unfold yields
      go_simp
      exact ⟨⟨Keep.refl _ _, trivial⟩, rfl⟩
    obtain rfl : v = _ := hV
    clear hC
    simp only [List.set_cons_succ, List.set_cons_zero]
    repeat (first | (refine wpV_skp rfl rfl ?_; simp only [List.set_cons_succ, List.set_cons_zero]) | (refine wpV_look rfl rfl rfl rfl rfl (fun K hK => ?_); go_big_quiet_op; refine hK _ ?_; clear hK K))
    refine wpV_mk rfl rfl rfl [] rfl (fun _ w7 hC hF => ?_) (fun _ v w7 hC hV _ => ?_)
    · obtain ⟨⟨w7, hk, -⟩, rfl⟩ := hC
      refine yields_call (by kernel_rfl) ?_
      refine hac w7 hk.grow _ ?_
      intro w8 g8
      exact ⟨_, rfl, ⟨Keep.of_grow [] g8, trivial⟩, rfl⟩
    obtain rfl : v = _ := hV
    clear hC
    simp only [List.set_cons_succ, List.set_cons_zero]
    repeat (first | (refine wpV_skp rfl rfl ?_; simp only [List.set_cons_succ, List.set_cons_zero]) | (refine wpV_look rfl rfl rfl rfl rfl (fun K hK => ?_); go_big_quiet_op; refine hK _ ?_; clear hK K))
    refine wpV_mk rfl rfl rfl [] rfl (fun _ w7 hC hF => ?_) (fun _ v w7 hC hV _ => ?_)
    · obtain ⟨⟨w7, hk, -⟩, rfl⟩ := hC
      refine yields_call (by kernel_rfl) ?_
      refine hrc w7 hk.grow _ ?_
      intro w8 g8
      exact ⟨_, rfl, ⟨Keep.of_grow [] g8, trivial⟩, rfl⟩
    obtain rfl : v = _ := hV
    clear hC
    simp only [List.set_cons_succ, List.set_cons_zero]
    repeat (first | (refine wpV_skp rfl rfl ?_; simp only [List.set_cons_succ, List.set_cons_zero]) | (refine wpV_look rfl rfl rfl rfl rfl (fun K hK => ?_); go_big_quiet_op; refine hK _ ?_; clear hK K))
    refine wpV_nil ?_
    intro w4 hC _
    obtain ⟨⟨w4, hk4, -⟩, rfl⟩ := hC
    have m4 := m.keep hk4 (by simp) (by simp)
    have s4 := s.keep hk4 (by simp)
    have g4 := hk4.grow
    clear hac hrc hk4 m s
    go_wp2_with fail
    go_loopw [9, 10] (fun a i wr => ∃ k : Nat, a = .int .i64 (cnt b (k - 1) : Int) ∧ i = .int .i64 ((k : Int) - 1) ∧ k ≤ b.length + 2 ∧ Grow w4 wr) (fun _ i _ => (b.length + 1 - intOf i).toNat)
    case atStart => exact ⟨0, by simp [cnt], by simp, by omega, Grow.refl _⟩
    case round =>
      obtain ⟨k, rfl, rfl, hk, hg⟩ := hrel
      have mr := m4.grow hg
      cases k with
      | zero =>
        rw [show ((0 : Nat) : Int) - 1 = -1 by omega]
        simp only [Nat.zero_sub, cnt]
        go_wp2_with fail
        refine hasC p h c b (-1) wr mr rfl _ ?_
        rw [show (decide ((0 : Int) ≤ -1) && bt b (-1 : Int).toNat) = false by simp]
        intro w5 g5
        go_wp2_with fail
        go_roundw
        case rel => exact ⟨1, by simp [cnt], by simp, by omega, hg.trans g5⟩
        case measure => simp [intOf] <;> omega
      | succ k =>
        rw [show ((k + 1 : Nat) : Int) - 1 = (k : Int) by omega, Nat.add_sub_cancel]
        by_cases hkn : k < b.length
        · obtain ⟨g, off, e, hcs⟩ := (s4.grow hg).hat (by omega)
          subst e
          have c1 := hcs.at (map_at b k hkn)
          have hcl := cnt_le b k
          have hcs2 : cnt b (k + 1) = cnt b k + (bt b k).toNat := rfl
          obtain ⟨C, hC⟩ : ∃ C, C = cnt b k := ⟨_, rfl⟩
          rw [← hC] at hcl hcs2 ⊢
          clear hC hcs
          cases hbt : bt b k
          · rw [hbt] at c1 hcs2
            go_wp2_with fail
            refine hasK p h c b k wr mr (by omega) _ ?_
            rw [hbt]
            intro w5 g5
            go_wp2_with fail
            go_roundw
            case rel => exact ⟨k + 2, by rw [show k + 2 - 1 = k + 1 by omega, hcs2]; rfl, by congr 1; omega, by omega, hg.trans g5⟩
            case measure => simp [intOf] <;> omega
          · rw [hbt] at c1 hcs2
            go_wp2_with fail
            refine hasK p h c b k wr mr (by omega) _ ?_
            rw [hbt]
            intro w5 g5
            go_wp2_with fail
            go_roundw
            case rel => exact ⟨k + 2, by rw [show k + 2 - 1 = k + 1 by omega, hcs2]; rfl, by congr 1; omega, by omega, hg.trans g5⟩
            case measure => simp [intOf] <;> omega
        · by_cases hkn2 : k = b.length
          · subst hkn2
            have hbt := bt_out b b.length (Nat.le_refl _)
            have hcl := cnt_le b b.length
            obtain ⟨C, hC⟩ : ∃ C, C = cnt b b.length := ⟨_, rfl⟩
            rw [← hC] at hco hcl ⊢
            have hkk := hasK p h c b b.length wr mr (by omega)
            rw [hbt] at hkk
            clear hC hbt
            go_wp2_with fail
            refine hkk _ ?_
            intro w5 g5
            go_wp2_with fail
            go_roundw
            case rel => exact ⟨b.length + 2, by rw [show b.length + 2 - 1 = b.length + 1 by omega, hco], by congr 1; omega, by omega, hg.trans g5⟩
            case measure => simp [intOf] <;> omega
          · obtain rfl : k = b.length + 1 := by omega
            rw [hco]
            have hcl := cnt_le b b.length
            have sr := s4.grow hg
            obtain ⟨C, hC⟩ : ∃ C, C = cnt b b.length := ⟨_, rfl⟩
            rw [← hC] at hcl ⊢
            have hkk := fun w' (g : Grow wr w') => countC p h c b w' (mr.grow g)
            rw [← hC] at hkk
            clear hC hco
            go_wp2_with fail
            refine freeC p h c b count wr mr hc _ ?_
            intro w5 g5
            have hfr := rFreeC bo cap b count w5 (sr.grow g5) hn2 hc
            cases hfs : freeS b count with
            | none =>
              rw [hfs] at hfr
              simp only [freeV] at hfr ⊢
              clear hfs
              go_wp2_with fail
              refine hfr _ ?_
              intro w6 g6
              go_wp2_with fail
              refine hkk w6 (g5.trans g6) _ ?_
              intro w7 g7
              go_wp2
              exact (((g4.trans hg).trans g5).trans g6).trans g7
            | some f =>
              rw [hfs] at hfr
              simp only [freeV] at hfr ⊢
              clear hfs
              go_wp2_with fail
              refine hfr _ ?_
              intro w6 g6
              go_wp2_with fail
              refine hkk w6 (g5.trans g6) _ ?_
              intro w7 g7
              go_wp2
              exact (((g4.trans hg).trans g5).trans g6).trans g7
end Go.Proofs.Ytoelddjmjhnbaaa
