/- PathsBeside: the walk. -/
import Derived.Test.YtoelddjmjhnbaaaTree
namespace Go.Proofs.Ytoelddjmjhnbaaa
open Go Go.RowKit

set_option maxRecDepth 100000 in
set_option maxHeartbeats 4000000 in
theorem besideW (n a b : Int) (w : World) (hn : (Lit.int .i64 n).wf = true) (_ : (Lit.int .i64 a).wf = true) (_ : (Lit.int .i64 b).wf = true) (R : Ending → World → Prop) (hR : ∀ w', Grow w w' → R (.returned (.bool true)) w') :
    Calls Try.prog 8 #[.int .i64 n, .int .i64 a, .int .i64 b] w R := by
  by_cases hb1 : n < 1 ∨ 400 < n ∨ a < 0 ∨ n ≤ a ∨ b < 0 ∨ n ≤ b
  · by_cases h0 : n < 1
    · clear hb1
      go_enter Try.func8, Try.ntmps8
      go_wp2_with fail
      refine awakeP w _ ?_
      intro w1 g1
      go_wp2
      exact g1
    by_cases h1 : 400 < n
    · clear hb1
      go_enter Try.func8, Try.ntmps8
      go_wp2_with fail
      refine awakeP w _ ?_
      intro w1 g1
      go_wp2
      exact g1
    by_cases h2 : a < 0
    · clear hb1
      go_enter Try.func8, Try.ntmps8
      go_wp2_with fail
      refine awakeP w _ ?_
      intro w1 g1
      go_wp2
      exact g1
    by_cases h3 : n ≤ a
    · clear hb1
      go_enter Try.func8, Try.ntmps8
      go_wp2_with fail
      refine awakeP w _ ?_
      intro w1 g1
      go_wp2
      exact g1
    by_cases h4 : b < 0
    · clear hb1
      go_enter Try.func8, Try.ntmps8
      go_wp2_with fail
      refine awakeP w _ ?_
      intro w1 g1
      go_wp2
      exact g1
    have h6 : n ≤ b := by omega
    clear hb1
    go_enter Try.func8, Try.ntmps8
    go_wp2_with fail
    refine awakeP w _ ?_
    intro w1 g1
    go_wp2
    exact g1
  obtain ⟨m, rfl⟩ : ∃ m : Nat, n = m := ⟨n.toNat, by omega⟩
  obtain ⟨f, rfl⟩ : ∃ f : Nat, a = f := ⟨a.toNat, by omega⟩
  obtain ⟨e, rfl⟩ : ∃ e : Nat, b = e := ⟨b.toNat, by omega⟩
  have hm1 : 1 ≤ m := by omega
  have hm6 : m ≤ 400 := by omega
  have hm2 : m ≤ 65536 := by omega
  have hfm : f < m := by omega
  have hem : e < m := by omega
  clear hb1
  have hw : wide m = wl m := by unfold wide; rw [if_neg (by omega)]; rfl
  obtain ⟨K, hK, hK5⟩ : ∃ K, (wl m).length = K + 1 ∧ K ≤ 5 := by
    obtain ⟨K, hK, hreach, hless⟩ := lw_reach m (by omega)
    refine ⟨K, hK, Nat.le_of_not_lt fun h => ?_⟩
    have := hless 5 h
    omega
  have hf1 : decide ((m : Int) < 1) = false := by simp; omega
  have hf2 : decide (400 < (m : Int)) = false := by simp; omega
  have hf3 : decide ((f : Int) < 0) = false := by simp
  have hf4 : decide ((e : Int) < 0) = false := by simp
  have hf5 : decide (m ≤ f) = false := by simp; omega
  have hbf : beside m f = besideN m f K := by rw [beside_at m f hm1 hm2 hfm, hK]; rfl
  have hbe : beside m e = besideN m e K := by rw [beside_at m e hm1 hm2 hem, hK]; rfl
  have hbn : ∀ (c j : Nat) (h : j < (besideN m c K).length), (besideN m c K)[j] = kids m ((j + 1 : Nat) : Int) ((c / 4 ^ j / 4 : Nat) : Int) := fun c j h => by simp [besideN]
  have hlf := besideN_len m f K
  have hle := besideN_len m e K
  go_enter Try.func8, Try.ntmps8
  go_wp2_with fail
  refine besideC m f hn w _ ?_
  rw [hbf]
  intro xo xc xs w1 hx1 hxr1 g1
  rw [hlf] at hx1 ⊢
  go_wp2_with fail
  refine besideC m e hn w1 _ ?_
  rw [hbe]
  intro yo yc ys w2 hy2 hyr g2
  rw [hle] at hy2 ⊢
  have sx := hx1.sl.grow g2
  have hxr := hxr1.grow g2
  have sy := hy2.sl
  clear hx1 hxr1 hy2 hbf hbe
  go_wp2_with fail
  refine levelsC m hn w2 _ ?_
  rw [hw, hK]
  intro w3 g3
  have g03 := (g1.trans g2).trans g3
  clear g1 g2
  go_wp2_with fail
  go_loopw [1, 2, 9] (fun a b c wr => ∃ (i : Nat), a = .int .i64 ((f / 4 ^ i : Nat) : Int) ∧ b = .int .i64 ((e / 4 ^ i : Nat) : Int) ∧ c = .int .i64 (i : Int) ∧ i ≤ K ∧ Grow w3 wr) (fun _ _ c _ => K - (intOf c).toNat)
  case atStart => exact ⟨0, by simp, by simp, by simp, Nat.zero_le _, Grow.refl _⟩
  case round =>
    obtain ⟨i, rfl, rfl, rfl, hi, hg⟩ := hrel
    by_cases hiK : i < K
    · have hGi := way_in m f hfm i (by omega)
      have hHi := way_in m e hem i (by omega)
      have hGj := way_in m f hfm (i + 1) (by omega)
      have hHj := way_in m e hem (i + 1) (by omega)
      have hpf : f / 4 ^ (i + 1) = f / 4 ^ i / 4 := by rw [Nat.pow_succ, ← Nat.div_div_eq_div_mul]
      have hpe : e / 4 ^ (i + 1) = e / 4 ^ i / 4 := by rw [Nat.pow_succ, ← Nat.div_div_eq_div_mul]
      have hle6 := lw_le m i
      obtain ⟨bg, boff, eb, hbc⟩ := (sx.grow (g3.trans hg)).hat (by omega)
      obtain ⟨yg, yoff, ey, hyc⟩ := (sy.grow (g3.trans hg)).hat (by omega)
      subst eb ey
      obtain ⟨uo, uc, huv, su⟩ := rows_at (hxr.grow (g3.trans hg)) i (by omega)
      obtain ⟨vo, vc, hvv, sv⟩ := rows_at (hyr.grow (g3.trans hg)) i (by omega)
      have c0 := hbc.at huv
      have c1 := hyc.at hvv
      rw [hbn f i (by omega)] at c0 su
      rw [hbn e i (by omega)] at c1 sv
      rw [hpf] at hGj
      rw [hpe] at hHj
      clear hbc huv hyc hvv
      have hE := hpf
      have hE2 := hpe
      clear hpf hpe
      obtain ⟨G, hG⟩ : ∃ G, G = f / 4 ^ i := ⟨_, rfl⟩
      obtain ⟨H, hH⟩ : ∃ H, H = e / 4 ^ i := ⟨_, rfl⟩
      rw [← hG] at hGi hGj c0 su hE ⊢
      rw [← hH] at hHi hHj c1 sv hE2 ⊢
      clear hG hH
      rw [kids_eq m i (G / 4) hm1 hm2 hGj] at c0 su
      rw [kids_eq m i (H / 4) hm1 hm2 hHj] at c1 sv
      obtain ⟨X, hX⟩ : ∃ X, X = (List.range (min 4 (lw m i - 4 * (G / 4)))).map fun (j : Nat) => ((i : Int), ((4 * (G / 4) + j : Nat) : Int)) := ⟨_, rfl⟩
      obtain ⟨Y, hY⟩ : ∃ Y, Y = (List.range (min 4 (lw m i - 4 * (H / 4)))).map fun (j : Nat) => ((i : Int), ((4 * (H / 4) + j : Nat) : Int)) := ⟨_, rfl⟩
      rw [← hX] at c0 su
      rw [← hY] at c1 sv
      have hXn : X.length = min 4 (lw m i - 4 * (G / 4)) := by rw [hX]; simp
      have hYn : Y.length = min 4 (lw m i - 4 * (H / 4)) := by rw [hY]; simp
      have hXat : ∀ j (h : j < X.length), X[j] = ((i : Int), ((4 * (G / 4) + j : Nat) : Int)) := fun j h => by subst hX; simp
      have hYat : ∀ j (h : j < Y.length), Y[j] = ((i : Int), ((4 * (H / 4) + j : Nat) : Int)) := fun j h => by subst hY; simp
      have hX4 : G % 4 < X.length ∧ X.length ≤ 4 := by omega
      have hY4 : 0 < Y.length ∧ Y.length ≤ 4 := by omega
      have hXY : G / 4 = H / 4 → X = Y := fun h => by rw [hX, hY, h]
      have hYX : G / 4 ≠ H / 4 → X ≠ Y := fun h h2 => by
        have h3 := hXat 0 (by omega)
        have h4 := hYat 0 (by omega)
        subst h2
        rw [h3] at h4
        simp at h4
        omega
      clear hX hY hXn hYn hYat
      obtain ⟨q, hq⟩ : ∃ q, q = G / 4 := ⟨_, rfl⟩
      obtain ⟨r, hr⟩ : ∃ r, r = H / 4 := ⟨_, rfl⟩
      obtain ⟨d, hd⟩ : ∃ d, d = G % 4 := ⟨_, rfl⟩
      rw [← hq] at hXat hXY hYX hGj hE
      rw [← hr] at hXY hYX hHj hE2
      rw [← hd] at hX4
      have hq6 : q ≤ 400 ∧ G ≤ 400 ∧ H ≤ 400 ∧ d < 4 := by omega
      have hGd : 4 * q + d = G := by omega
      have hHr : 4 * r ≤ H ∧ H < 4 * r + 4 := by omega
      clear hq hr hd
      obtain ⟨ug, uoff, eu, huc⟩ := su.hat (by omega)
      subst eu
      go_wp2_with fail
      go_loopw [10, 11] (fun a b wr2 => ∃ (k : Nat), a = .bool (decide (d < k)) ∧ b = .int .i64 (k : Int) ∧ k ≤ X.length ∧ Grow wr wr2) (fun _ b _ => X.length - (intOf b).toNat)
      case atStart => exact ⟨0, by simp, by simp, Nat.zero_le _, Grow.refl _⟩
      case round =>
        obtain ⟨k, rfl, rfl, hk, hg2⟩ := hrel
        have d0 := hg2.cell c0
        by_cases hkX : k < X.length
        · have hx := Sl.place huc k hkX
          rw [hXat k hkX] at hx
          have hx0 : wr.cell? ⟨ug, uoff + k * 2, none⟩ = some (.int .i64 (i : Int)) := hg2.cell (by simpa using hx 0 (by simp))
          have hx1 : wr.cell? ⟨ug, uoff + k * 2 + 1, none⟩ = some (.int .i64 ((4 * q + k : Nat) : Int)) := hg2.cell (by simpa using hx 1 (by simp))
          clear hx
          cases k with
          | zero =>
            rw [Nat.zero_mul, Nat.add_zero] at hx0 hx1
            by_cases hdk : d = 0
            · subst hdk
              rw [Nat.add_zero] at hGd hx1
              rw [hGd] at hx1
              go_wp2_with fail
              clear hx0
              refine wp_region_R (segL wr) (by kernel_rfl) segL_drew ?_
              unfold segL segK segR
              repeat (first | (refine wpV_skp rfl rfl ?_; simp only [List.set_cons_succ, List.set_cons_zero]) | (refine wpV_look rfl rfl rfl rfl rfl (fun K hK => ?_); go_big_quiet_op; refine hK _ ?_; clear hK K))
              refine wpV_nil ?_
              intro w4 hC _
              obtain ⟨⟨w4, hk4, -⟩, rfl⟩ := hC
              go_wp2_with fail
              go_roundw
              case rel => exact ⟨1, by simp <;> omega, by go_num, by omega, hg2.trans hk4.grow⟩
              case measure => simp [intOf]; omega
            · have hne : ¬ (4 * q = G) := by omega
              have hlt : ¬ (d < 0) := by omega
              go_wp2_with fail
              clear hx0
              refine wp_region_R (segL wr) (by kernel_rfl) segL_drew ?_
              unfold segL segK segR
              repeat (first | (refine wpV_skp rfl rfl ?_; simp only [List.set_cons_succ, List.set_cons_zero]) | (refine wpV_look rfl rfl rfl rfl rfl (fun K hK => ?_); go_big_quiet_op; refine hK _ ?_; clear hK K))
              refine wpV_nil ?_
              intro w4 hC _
              obtain ⟨⟨w4, hk4, -⟩, rfl⟩ := hC
              go_wp2_with fail
              go_roundw
              case rel => exact ⟨1, by simp <;> omega, by go_num, by omega, hg2.trans hk4.grow⟩
              case measure => simp [intOf]; omega
          | succ k =>
            have hy := Sl.place huc k (by omega)
            rw [hXat k (by omega)] at hy
            have hy1 : wr.cell? ⟨ug, uoff + k * 2 + 1, none⟩ = some (.int .i64 ((4 * q + k : Nat) : Int)) := hg2.cell (by simpa using hy 1 (by simp))
            clear hy
            rcases Nat.lt_trichotomy d (k + 1) with hdk | hdk | hdk
            · go_wp2_with fail
              have e0 := KW.cell (fp := []) (p0 := tt) d0 (by simp)
              have e1 := KW.cell (fp := []) (p0 := tt) hx1 (by simp)
              have e2 := KW.cell (fp := []) (p0 := tt) hy1 (by simp)
              clear hx0
              refine wp_region_R (segL wr) (by kernel_rfl) segL_drew ?_
              unfold segL segK segR
              repeat (first | (refine wpV_skp rfl rfl ?_; simp only [List.set_cons_succ, List.set_cons_zero]) | (refine wpV_look rfl rfl rfl rfl rfl (fun K hK => ?_); go_big_quiet_op; refine hK _ ?_; clear hK K))
              refine wpV_nil ?_
              intro w4 hC _
              obtain ⟨⟨w4, hk4, -⟩, rfl⟩ := hC
              clear e0 e1 e2
              go_wp2_with fail
              go_roundw
              case rel => exact ⟨k + 1 + 1, by simp <;> omega, by go_num, by omega, hg2.trans hk4.grow⟩
              case measure => simp [intOf]; omega
            · subst hdk
              go_wp2_with fail
              have e0 := KW.cell (fp := []) (p0 := tt) d0 (by simp)
              have e1 := KW.cell (fp := []) (p0 := tt) hx1 (by simp)
              have e2 := KW.cell (fp := []) (p0 := tt) hy1 (by simp)
              clear hx0
              refine wp_region_R (segL wr) (by kernel_rfl) segL_drew ?_
              unfold segL segK segR
              repeat (first | (refine wpV_skp rfl rfl ?_; simp only [List.set_cons_succ, List.set_cons_zero]) | (refine wpV_look rfl rfl rfl rfl rfl (fun K hK => ?_); go_big_quiet_op; refine hK _ ?_; clear hK K))
              refine wpV_nil ?_
              intro w4 hC _
              obtain ⟨⟨w4, hk4, -⟩, rfl⟩ := hC
              clear e0 e1 e2
              go_wp2_with fail
              go_roundw
              case rel => exact ⟨k + 1 + 1, by simp <;> omega, by go_num, by omega, hg2.trans hk4.grow⟩
              case measure => simp [intOf]; omega
            · have hne : ¬ (4 * q + (k + 1) = G) := by omega
              have hlt : ¬ (d < k + 1) := by omega
              go_wp2_with fail
              have e0 := KW.cell (fp := []) (p0 := tt) d0 (by simp)
              have e1 := KW.cell (fp := []) (p0 := tt) hx1 (by simp)
              have e2 := KW.cell (fp := []) (p0 := tt) hy1 (by simp)
              clear hx0
              refine wp_region_R (segL wr) (by kernel_rfl) segL_drew ?_
              unfold segL segK segR
              repeat (first | (refine wpV_skp rfl rfl ?_; simp only [List.set_cons_succ, List.set_cons_zero]) | (refine wpV_look rfl rfl rfl rfl rfl (fun K hK => ?_); go_big_quiet_op; refine hK _ ?_; clear hK K))
              refine wpV_nil ?_
              intro w4 hC _
              obtain ⟨⟨w4, hk4, -⟩, rfl⟩ := hC
              clear e0 e1 e2
              go_wp2_with fail
              go_roundw
              case rel => exact ⟨k + 1 + 1, by simp <;> omega, by go_num, by omega, hg2.trans hk4.grow⟩
              case measure => simp [intOf]; omega
        · obtain rfl : k = X.length := by omega
          rw [show decide (d < X.length) = true from decide_eq_true (by omega)]
          have hz := Sl.place huc 0 (by omega)
          rw [hXat 0 (by omega)] at hz
          have hz1 : wr.cell? ⟨ug, uoff + 1, none⟩ = some (.int .i64 ((4 * q : Nat) : Int)) := hg2.cell (by simpa using hz 1 (by simp))
          have d1 := hg2.cell c1
          have su2 := su.grow hg2
          have sv2 := sv.grow hg2
          have e0 := KW.cell (fp := []) (p0 := tt) d0 (by simp)
          have e1 := KW.cell (fp := []) (p0 := tt) d1 (by simp)
          have e2 := KW.cell (fp := []) (p0 := tt) hz1 (by simp)
          have hgt : decide (4 < (X.length : Int)) = false := by simp; omega
          have hgt2 : decide (4 < X.length) = false := by simp; omega
          have hX0 : 0 < X.length := by omega
          clear hz hXat
          by_cases hqr : q = r
          · have hXYe : decide (X = Y) = true := by simp [hXY hqr]
            have hdv : ((G : Int) / 4 == (H : Int) / 4) = true := by simp; omega
            clear hXY hYX hqr
            go_wp2_with fail
            let V : Nat → Array Value → Value → World → Prop := fun i' _ v w =>
              match i' with
              | 26 => vOwn 59 2 X.length (pk X) v w
              | 31 => vOwn 59 2 Y.length (pk Y) v w
              | _ => vIs (.bool true) v w
            refine wp_region_R (segK [] wr [26, 31, 32] V ?_) (by kernel_rfl) segK_drew ?_
            · intro i vs v wa wb kk
              show V i vs v wa → V i vs v wb
              simp only [V]
              split <;> first | exact vOwn.st kk | exact vIs.st kk
            unfold segK segR
            repeat (first | (refine wpV_skp rfl rfl ?_; simp only [List.set_cons_succ, List.set_cons_zero]) | (refine wpV_look rfl rfl rfl rfl rfl (fun K hK => ?_); go_big_quiet_op; refine hK _ ?_; clear hK K))
            refine wpV_mk rfl rfl rfl [] rfl (fun _ w7 hC _ => yields_call (by kernel_rfl) ?_) (fun _ v w7 hC hV _ => ?_)
            · obtain ⟨⟨w7, hk, -⟩, rfl⟩ := hC
              refine flatC _ _ X w7 (su2.keep hk (by simp)) (by omega) _ ?_
              intro a8 d8 w8 o8 g8 _
              exact ⟨_, rfl, ⟨Keep.of_grow [] g8, trivial⟩, a8, d8, rfl, o8⟩
            obtain ⟨a8, d8, rfl, -⟩ : vOwn _ 2 X.length _ v w7 := hV
            clear hC
            simp only [List.set_cons_succ, List.set_cons_zero]
            repeat (first | (refine wpV_skp rfl rfl ?_; simp only [List.set_cons_succ, List.set_cons_zero]) | (refine wpV_look rfl rfl rfl rfl rfl (fun K hK => ?_); go_big_quiet_op; refine hK _ ?_; clear hK K))
            refine wpV_mk rfl rfl rfl [] rfl (fun _ w7 hC _ => yields_call (by kernel_rfl) ?_) (fun _ v w7 hC hV _ => ?_)
            · obtain ⟨⟨w7, hk, -⟩, rfl⟩ := hC
              refine flatC _ _ Y w7 (sv2.keep hk (by simp)) (by omega) _ ?_
              intro a8 d8 w8 o8 g8 _
              exact ⟨_, rfl, ⟨Keep.of_grow [] g8, trivial⟩, a8, d8, rfl, o8⟩
            obtain ⟨a9, d9, rfl, -⟩ : vOwn _ 2 Y.length _ v w7 := hV
            clear hC
            simp only [List.set_cons_succ, List.set_cons_zero]
            refine wpV_mk rfl rfl rfl [26, 31] (by kernel_rfl) (fun _ w7 hC hF => yields_call (by kernel_rfl) ?_) (fun _ v w7 hC hV _ => ?_)
            · obtain ⟨⟨w7, hk, -⟩, rfl⟩ := hC
              obtain ⟨b1, d1, e1, o1⟩ : vOwn 59 2 X.length (pk X) _ w7 := (hF 26 (by simp)).1.2 rfl
              obtain ⟨b2, d2, e2, o2⟩ : vOwn 59 2 Y.length (pk Y) _ w7 := (hF 31 (by simp)).2 rfl
              cases e1
              cases e2
              refine sameC _ _ _ _ X Y w7 o1.sl o2.sl (by omega) _ ?_
              intro w8 g8
              rw [hXYe]
              exact ⟨_, rfl, ⟨Keep.of_grow [] g8, trivial⟩, rfl⟩
            obtain rfl : v = _ := hV
            clear hC
            simp only [List.set_cons_succ, List.set_cons_zero]
            repeat (first | (refine wpV_skp rfl rfl ?_; simp only [List.set_cons_succ, List.set_cons_zero]) | (refine wpV_look rfl rfl rfl rfl rfl (fun K hK => ?_); go_big_quiet_op; refine hK _ ?_; clear hK K))
            refine wpV_nil ?_
            intro w7 hC _
            obtain ⟨⟨w7, hk7, -⟩, rfl⟩ := hC
            clear e0 e1 e2 d0 d1 hz1
            go_wp2_with fail
            go_roundw
            case rel => exact ⟨i + 1, by rw [hE]; congr 1; omega, by rw [hE2]; congr 1; omega, by go_num, by omega, (hg.trans hg2).trans hk7.grow⟩
            case measure => simp [intOf]; omega
          · have hXYe : decide (X = Y) = false := by simp [hYX hqr]
            have hdv : ((G : Int) / 4 == (H : Int) / 4) = false := by simp; omega
            clear hXY hYX hqr
            go_wp2_with fail
            let V : Nat → Array Value → Value → World → Prop := fun i' _ v w =>
              match i' with
              | 26 => vOwn 59 2 X.length (pk X) v w
              | 31 => vOwn 59 2 Y.length (pk Y) v w
              | _ => vIs (.bool false) v w
            refine wp_region_R (segK [] wr [26, 31, 32] V ?_) (by kernel_rfl) segK_drew ?_
            · intro i vs v wa wb kk
              show V i vs v wa → V i vs v wb
              simp only [V]
              split <;> first | exact vOwn.st kk | exact vIs.st kk
            unfold segK segR
            repeat (first | (refine wpV_skp rfl rfl ?_; simp only [List.set_cons_succ, List.set_cons_zero]) | (refine wpV_look rfl rfl rfl rfl rfl (fun K hK => ?_); go_big_quiet_op; refine hK _ ?_; clear hK K))
            refine wpV_mk rfl rfl rfl [] rfl (fun _ w7 hC _ => yields_call (by kernel_rfl) ?_) (fun _ v w7 hC hV _ => ?_)
            · obtain ⟨⟨w7, hk, -⟩, rfl⟩ := hC
              refine flatC _ _ X w7 (su2.keep hk (by simp)) (by omega) _ ?_
              intro a8 d8 w8 o8 g8 _
              exact ⟨_, rfl, ⟨Keep.of_grow [] g8, trivial⟩, a8, d8, rfl, o8⟩
            obtain ⟨a8, d8, rfl, -⟩ : vOwn _ 2 X.length _ v w7 := hV
            clear hC
            simp only [List.set_cons_succ, List.set_cons_zero]
            repeat (first | (refine wpV_skp rfl rfl ?_; simp only [List.set_cons_succ, List.set_cons_zero]) | (refine wpV_look rfl rfl rfl rfl rfl (fun K hK => ?_); go_big_quiet_op; refine hK _ ?_; clear hK K))
            refine wpV_mk rfl rfl rfl [] rfl (fun _ w7 hC _ => yields_call (by kernel_rfl) ?_) (fun _ v w7 hC hV _ => ?_)
            · obtain ⟨⟨w7, hk, -⟩, rfl⟩ := hC
              refine flatC _ _ Y w7 (sv2.keep hk (by simp)) (by omega) _ ?_
              intro a8 d8 w8 o8 g8 _
              exact ⟨_, rfl, ⟨Keep.of_grow [] g8, trivial⟩, a8, d8, rfl, o8⟩
            obtain ⟨a9, d9, rfl, -⟩ : vOwn _ 2 Y.length _ v w7 := hV
            clear hC
            simp only [List.set_cons_succ, List.set_cons_zero]
            refine wpV_mk rfl rfl rfl [26, 31] (by kernel_rfl) (fun _ w7 hC hF => yields_call (by kernel_rfl) ?_) (fun _ v w7 hC hV _ => ?_)
            · obtain ⟨⟨w7, hk, -⟩, rfl⟩ := hC
              obtain ⟨b1, d1, e1, o1⟩ : vOwn 59 2 X.length (pk X) _ w7 := (hF 26 (by simp)).1.2 rfl
              obtain ⟨b2, d2, e2, o2⟩ : vOwn 59 2 Y.length (pk Y) _ w7 := (hF 31 (by simp)).2 rfl
              cases e1
              cases e2
              refine sameC _ _ _ _ X Y w7 o1.sl o2.sl (by omega) _ ?_
              intro w8 g8
              rw [hXYe]
              exact ⟨_, rfl, ⟨Keep.of_grow [] g8, trivial⟩, rfl⟩
            obtain rfl : v = _ := hV
            clear hC
            simp only [List.set_cons_succ, List.set_cons_zero]
            repeat (first | (refine wpV_skp rfl rfl ?_; simp only [List.set_cons_succ, List.set_cons_zero]) | (refine wpV_look rfl rfl rfl rfl rfl (fun K hK => ?_); go_big_quiet_op; refine hK _ ?_; clear hK K))
            refine wpV_nil ?_
            intro w7 hC _
            obtain ⟨⟨w7, hk7, -⟩, rfl⟩ := hC
            clear e0 e1 e2 d0 d1 hz1
            go_wp2_with fail
            go_roundw
            case rel => exact ⟨i + 1, by rw [hE]; congr 1; omega, by rw [hE2]; congr 1; omega, by go_num, by omega, (hg.trans hg2).trans hk7.grow⟩
            case measure => simp [intOf]; omega
    · obtain rfl : i = K := by omega
      go_wp2_with fail
      refine awakeP wr _ ?_
      intro w1 g1
      go_wp2
      exact (g03.trans hg).trans g1
end Go.Proofs.Ytoelddjmjhnbaaa
