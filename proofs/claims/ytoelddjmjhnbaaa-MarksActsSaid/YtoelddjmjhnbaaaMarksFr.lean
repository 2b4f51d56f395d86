/- MarksFree: the plain law and the walk. -/
import Derived.Test.YtoelddjmjhnbaaaMarksA
import Derived.Test.YtoelddjmjhnbaaaRound
namespace Go.Proofs.Ytoelddjmjhnbaaa
open Go Go.RowKit

theorem any_free (b : List Bool) (i C : Nat) (h : i + C ≤ b.length) : anyS b i C = ! freeAt b i C := by
  cases hf : freeAt b i C
  · simp only [Bool.not_false]
    unfold freeAt at hf
    rw [List.all_eq_false] at hf
    obtain ⟨j, hj, hb⟩ := hf
    have hj := List.mem_range.1 hj
    unfold anyS
    rw [List.any_eq_true]
    refine ⟨i + j, List.mem_range.2 (by omega), ?_⟩
    simp only [Bool.not_eq_true', Bool.not_eq_false] at hb
    simp [hit, hb]
    omega
  · simp only [Bool.not_true]
    rw [freeAt_iff] at hf
    unfold anyS
    rw [List.any_eq_false]
    intro k hk hh
    simp only [hit, Bool.and_eq_true, decide_eq_true_eq] at hh
    have := hf (k - i) (by omega)
    rw [show i + (k - i) = k by omega, hh.1] at this
    cases this
theorem lastFree_spec (b : List Bool) (c : Nat) : ∀ k, match lastFree b c k with
    | none => ∀ f, f < k → freeAt b f c = false
    | some f => f < k ∧ freeAt b f c = true ∧ ∀ g, f < g → g < k → freeAt b g c = false
  | 0 => by simp [lastFree]
  | k + 1 => by
    have ih := lastFree_spec b c k
    rw [lastFree]
    cases hf : freeAt b k c
    · simp only [Bool.false_eq_true, if_false]
      cases hl : lastFree b c k with
      | none =>
        rw [hl] at ih
        intro f h
        by_cases e : f = k
        · subst e; exact hf
        · exact ih f (by omega)
      | some f =>
        rw [hl] at ih
        refine ⟨by omega, ih.2.1, fun g h1 h2 => ?_⟩
        by_cases e : g = k
        · subst e; exact hf
        · exact ih.2.2 g h1 (by omega)
    · simp only [if_true]
      exact ⟨by omega, hf, fun g h1 h2 => by omega⟩
theorem freeS_spec (b : List Bool) (C : Nat) (h1 : 1 ≤ C) : match freeS b C with
    | none => ∀ f, f + C ≤ b.length → freeAt b f C = false
    | some f => f + C ≤ b.length ∧ freeAt b f C = true ∧ ∀ g, f < g → g + C ≤ b.length → freeAt b g C = false := by
  unfold freeS
  by_cases h : b.length < C
  · rw [if_pos (by omega)]
    intro f hf
    omega
  · rw [if_neg (by omega), Int.toNat_natCast]
    have := lastFree_spec b C (b.length - C + 1)
    cases hl : lastFree b C (b.length - C + 1) with
    | none =>
      rw [hl] at this
      exact fun f hf => this f (by omega)
    | some f =>
      rw [hl] at this
      exact ⟨by omega, this.2.1, fun g h2 h3 => this.2.2 g h2 (by omega)⟩
theorem cnt_put (b b' : List Bool) (k : Nat) (hk : bt b k = false) (h : ∀ j, bt b' j = if j = k then true else bt b j) : ∀ m, cnt b' m = cnt b m + if k < m then 1 else 0
  | 0 => rfl
  | m + 1 => by
    rw [cnt, cnt, cnt_put b b' k hk h m, h]
    by_cases e : m = k
    · subst e; rw [if_pos rfl, hk, if_neg (by omega), if_pos (by omega)]; simp
    · rw [if_neg e]
      by_cases h2 : k < m
      · rw [if_pos h2, if_pos (by omega)]; omega
      · rw [if_neg h2, if_neg (by omega)]; omega
theorem cnt_mark (b : List Bool) (f : Nat) : ∀ c, f + c ≤ b.length → (∀ i, i < c → bt b (f + i) = false) → cnt (mark b f c) b.length = cnt b b.length + c
  | 0, _, _ => by rw [mark_zero]; rfl
  | c + 1, h, hf => by
    have ih := cnt_mark b f c (by omega) (fun i hi => hf i (by omega))
    rw [cnt_put (mark b f c) (mark b f (c + 1)) (f + c) (by rw [bt_mark, hf c (by omega)]; simp) (mark_succ b f c (by omega)) b.length, ih, if_pos (by omega)]
    omega
theorem any_mark (b : List Bool) (f C : Nat) (h : f + C ≤ b.length) (h1 : 1 ≤ C) : anyS (mark b f C) f C = true := by
  unfold anyS
  rw [List.any_eq_true]
  refine ⟨f, List.mem_range.2 (by rw [mark_len]; omega), ?_⟩
  have : bt (mark b f C) f = true := by rw [bt_mark]; simp; omega
  simp [hit, this]
  omega

set_option maxRecDepth 100000 in
set_option maxHeartbeats 2000000 in
theorem freeW (n : Int) (lo : Option Addr) (cap : Nat) (l : List Int) (count : Int) (w : World) (hn : (Lit.int .i64 n).wf = true) (s : Sl w 1 lo l.length cap (l.map (.int .i64))) (_ : ∀ a ∈ l, (Lit.int .i64 a).wf = true) (hc : (Lit.int .i64 count).wf = true) (R : Ending → World → Prop) (hR : ∀ w', Grow w w' → R (.returned (.bool true)) w') :
    Calls Try.prog 12 #[.int .i64 n, .slice lo l.length cap, .int .i64 count] w R := by
  by_cases h1 : n < 1
  · go_enter Try.func12, Try.ntmps12
    go_wp2_with fail
    refine awakeM w _ ?_
    intro w1 g1
    go_wp2
    exact g1
  by_cases h2 : 200 < n
  · go_enter Try.func12, Try.ntmps12
    go_wp2_with fail
    refine awakeM w _ ?_
    intro w1 g1
    go_wp2
    exact g1
  have hf1 : decide (n < 1) = false := by simp; omega
  have hf2 : decide (200 < n) = false := by simp; omega
  by_cases h3 : 60 < l.length
  · go_enter Try.func12, Try.ntmps12
    go_wp2_with fail
    refine awakeM w _ ?_
    intro w1 g1
    go_wp2
    exact g1
  have hf3 : decide (60 < l.length) = false := by simp; omega
  by_cases h4 : count < 1
  · go_enter Try.func12, Try.ntmps12
    go_wp2_with fail
    refine awakeM w _ ?_
    intro w1 g1
    go_wp2
    exact g1
  have hf4 : decide (count < 1) = false := by simp; omega
  by_cases h5 : 200 < count
  · go_enter Try.func12, Try.ntmps12
    go_wp2_with fail
    refine awakeM w _ ?_
    intro w1 g1
    go_wp2
    exact g1
  have hf5 : decide (200 < count) = false := by simp; omega
  obtain ⟨m, rfl⟩ : ∃ m : Nat, n = m := ⟨n.toNat, by omega⟩
  obtain ⟨C, rfl⟩ : ∃ m : Nat, count = m := ⟨count.toNat, by omega⟩
  have hm : 1 ≤ m ∧ m ≤ 200 := by omega
  have hC : 1 ≤ C ∧ C ≤ 200 := by omega
  clear h1 h2 h4 h5
  go_enter Try.func12, Try.ntmps12
  go_wp2_with fail
  refine newC m (by omega) (by omega) w _ ?_
  intro p h c w1 m1 g1 _ l1
  go_wp2_with fail
  go_loopw [9] (fun a wr => ∃ (i : Nat) (b : List Bool), a = .int .i64 (i : Int) ∧ i ≤ l.length ∧ b.length = m ∧ Mk wr p h c b ∧ Grow w wr) (fun a _ => l.length - (intOf a).toNat)
  case atStart => exact ⟨0, _, by simp, by omega, by simp, m1, g1⟩
  case round =>
    obtain ⟨i, b, rfl, hi, hb, mb, hg⟩ := hrel
    by_cases hil : i < l.length
    · obtain ⟨g, off, e, hcs⟩ := (s.grow hg).hat (by omega)
      subst e
      have c1 := hcs.at (i := i) (v := .int .i64 l[i]) (by simp [hil])
      have hk := rnd_lt l[i] m (by omega)
      have hrc := roundC l[i] m (by omega) (by omega)
      obtain ⟨k, hke⟩ : ∃ k, k = rnd l[i] m := ⟨_, rfl⟩
      rw [← hke] at hk hrc
      clear hke hcs
      go_wp2_with fail
      refine hrc wr _ ?_
      go_wp2_with fail
      refine setC p h c b k 1 wr mb (by omega) (by omega) _ ?_
      intro w2 m2 k2
      have hg2 := hg.then k2 (fun g hg => by simp at hg; omega)
      clear mb
      go_wp2_with fail
      go_roundw
      case rel => exact ⟨i + 1, mark b k 1, by go_num, by omega, by rw [mark_len]; exact hb, m2, hg2⟩
      case measure => simp [intOf]; omega
    · obtain rfl : i = l.length := by omega
      clear hi hil
      have hspec := freeS_spec b C (by omega)
      go_wp2_with fail
      refine freeC p h c b C wr mb (WalkArith.wf_i64 (by omega)) _ ?_
      intro w2 g2
      have m2 := mb.grow g2
      have hg2 := hg.trans g2
      cases hfs : freeS b C with
      | none =>
        rw [hfs] at hspec
        simp only at hspec
        simp only [freeV]
        clear mb
        go_wp2_with fail
        go_loopw [12] (fun a wr => ∃ i : Nat, a = .int .i64 (i : Int) ∧ i ≤ m ∧ Grow w2 wr) (fun a _ => m - (intOf a).toNat)
        case atStart => exact ⟨0, by simp, by omega, Grow.refl _⟩
        case round =>
          obtain ⟨i, rfl, hi, hg3⟩ := hrel
          by_cases hil : i + C ≤ m
          · have han := any_free b i C (by omega)
            rw [hspec i (by omega), Bool.not_false] at han
            have hac := anyC p h c b i C wr (m2.grow hg3) (WalkArith.wf_i64 (by omega)) (WalkArith.wf_i64 (by omega))
            rw [han] at hac
            clear han hspec
            go_wp2_with fail
            refine hac _ ?_
            intro w4 g4
            go_wp2_with fail
            go_roundw
            case rel => exact ⟨i + 1, by go_num, by omega, hg3.trans g4⟩
            case measure => simp [intOf]; omega
          · clear hspec
            go_wp2_with fail
            refine awakeM wr _ ?_
            intro w4 g4
            go_wp2
            exact (hg2.trans hg3).trans g4
      | some x =>
        rw [hfs] at hspec
        simp only at hspec
        simp only [freeV]
        clear mb
        obtain ⟨hx, hxf, hxl⟩ := hspec
        have han0 := any_free b x C (by omega)
        rw [hxf, Bool.not_true] at han0
        have hac0 := anyC p h c b x C w2 m2 (WalkArith.wf_i64 (by omega)) (WalkArith.wf_i64 (by omega))
        rw [han0] at hac0
        have hxfr := (freeAt_iff b x C).1 hxf
        have hcm := cnt_mark b x C hx hxfr
        have ham := any_mark b x C hx (by omega)
        have hxm : x + C ≤ m := by omega
        have hg1 : decide ((m : Int) - C < x) = false := by simp; omega
        have hg0 : decide ((x : Int) < 0) = false := by simp
        clear han0 hxf hxfr
        go_wp2_with fail
        refine hac0 _ ?_
        intro w3 g3
        have m3 := m2.grow g3
        have hg3 := hg2.trans g3
        clear hac0 m2 g2 g3
        go_wp2_with fail
        go_loopw [13] (fun a wr => ∃ i : Nat, a = .int .i64 (i : Int) ∧ x < i ∧ i ≤ m ∧ Grow w3 wr) (fun a _ => m - (intOf a).toNat)
        case atStart => exact ⟨x + 1, by go_num, by omega, by omega, Grow.refl _⟩
        case round =>
          obtain ⟨i, rfl, hxi, hi, hg4⟩ := hrel
          by_cases hil : i + C ≤ m
          · have han := any_free b i C (by omega)
            rw [hxl i hxi (by omega), Bool.not_false] at han
            have hac := anyC p h c b i C wr (m3.grow hg4) (WalkArith.wf_i64 (by omega)) (WalkArith.wf_i64 (by omega))
            rw [han] at hac
            clear han hxl hcm ham
            go_wp2_with fail
            refine hac _ ?_
            intro w4 g4
            go_wp2_with fail
            go_roundw
            case rel => exact ⟨i + 1, by go_num, by omega, by omega, hg4.trans g4⟩
            case measure => simp [intOf]; omega
          · clear hxl
            have m4 := m3.grow hg4
            have hcl := cnt_le b b.length
            have hml := mark_len b x C
            rw [hb] at hcm hcl hml
            go_wp2_with fail
            refine countC p h c b wr m4 _ ?_
            rw [hb]
            intro w5 g5
            obtain ⟨K, hK⟩ : ∃ K, K = cnt b m := ⟨_, rfl⟩
            rw [← hK] at hcm hcl ⊢
            clear hK
            go_wp2_with fail
            refine setC p h c b x C w5 (m4.grow g5) (by omega) (by omega) _ ?_
            intro w6 m6 k6
            have g6 := ((hg3.trans hg4).trans g5).then k6 (fun g hg => by simp at hg; omega)
            go_wp2_with fail
            refine anyC p h c _ x C w6 m6 (WalkArith.wf_i64 (by omega)) (WalkArith.wf_i64 (by omega)) _ ?_
            rw [ham]
            intro w7 g7
            go_wp2_with fail
            refine countC p h c _ w7 (m6.grow g7) _ ?_
            rw [hml, hcm]
            intro w8 g8
            clear hcm ham
            go_wp2_with fail
            refine awakeM w8 _ ?_
            intro w9 g9
            go_wp2
            exact ((g6.trans g7).trans g8).trans g9
end Go.Proofs.Ytoelddjmjhnbaaa
