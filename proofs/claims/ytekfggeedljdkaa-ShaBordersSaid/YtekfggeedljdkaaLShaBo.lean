/- The walk of ShaBorders. -/
import Derived.Test.YtekfggeedljdkaaShaAw
import Derived.Test.YtekfggeedljdkaaRsL
import Derived.Test.YtekfggeedljdkaaTab
import Derived.Test.YtekfggeedljdkaaEqA
import Derived.Test.YtekfggeedljdkaaRsC
namespace Go.Proofs.Ytekfggeedljdkaa
open Go Go.RowKit

set_option maxRecDepth 100000 in
set_option maxHeartbeats 2000000 in
theorem shaBoW (a0 a1 : Int) (w : World) (_ : (Lit.int IntKind.i64 a0).wf = true) (w1 : (Lit.int IntKind.u8 a1).wf = true) (R : Ending → World → Prop) (hR : ∀ w', Grow w w' → R (.returned (.bool true)) w') :
    Calls Try.prog 7 #[.int .i64 a0, .int .u8 a1] w R := by
  have hml : maxLen = 9223372036854775807 := rfl
  have haw := awakeC
  have hnew := rNewC
  have hHlt : ∀ x ∈ Hs, x < 4294967296 := Hs_lt
  have hsum := fun p bo c L w sm sb hl R hR => rSumC p Hs Ks hHlt bo c L w sm sb hl R hR
  have hl32 := fun l => sumS_len l
  have hdef : ∀ l, sumOf Hs Ks l = sumS l := fun l => rfl
  simp only [hdef] at hsum
  generalize Hs = H at *
  generalize Ks = K at *
  clear hdef hHlt
  have hc : 0 ≤ a1 ∧ a1 < 256 := by
    simp [Lit.wf, IntKind.min, IntKind.max, IntKind.signed, IntKind.bits] at w1
    omega
  by_cases hlo : a0 < 0
  · go_enter Try.func7, Try.ntmps7
    go_wp2_with fail
    refine haw _ _ ?_
    intro w2 g2
    have hf := hR w2 g2
    clear hR
    go_wp2_with fail
    exact hf
  by_cases hhi : 260 < a0
  · have hd : decide (a0 < 0) = false := by simpa using hlo
    go_enter Try.func7, Try.ntmps7
    go_wp2_with fail
    refine haw _ _ ?_
    intro w2 g2
    have hf := hR w2 g2
    clear hR
    go_wp2_with fail
    exact hf
  obtain ⟨k, rfl⟩ : ∃ k : Nat, a0 = (k : Int) := ⟨a0.toNat, by omega⟩
  obtain ⟨c, hcv⟩ : ∃ c : UInt8, Value.int .u8 a1 = B c := ⟨UInt8.ofNat a1.toNat, by simp [B]; omega⟩
  have Hcv := Lib.hid hcv
  have hk : k ≤ 260 := by omega
  have hmk := make_bytes (k + 1) (by omega)
  have hd : decide ((k : Int) < 0) = false := by simp
  have hd2 : decide (260 < (k : Int)) = false := by simp; omega
  rw [show ((k + 1 : Nat) : Int) = (k : Int) + 1 by omega] at hmk
  clear hlo hhi w1 hcv
  have o1 : Own (w.alloc (.cells (List.replicate (k + 1) (.int .u8 0)).toArray 5)) 5 1 (some ⟨w.heap.size, 0, none⟩) (k + 1) (k + 1) (List.replicate (k + 1) (.int .u8 0)) := own_new w _ rfl (by omega)
  have g1 := Grow.alloc w (.cells (List.replicate (k + 1) (.int .u8 0)).toArray 5)
  obtain ⟨g, hg⟩ : ∃ g, g = w.heap.size := ⟨_, rfl⟩
  go_enter Try.func7, Try.ntmps7
  go_upto_region 4 with (fail)
  change Code.wp _ _ _ _ (w.alloc (.cells (List.replicate (k + 1) (.int .u8 0)).toArray 5))
  generalize (w.alloc (.cells (List.replicate (k + 1) (.int .u8 0)).toArray 5)) = wa at *
  rw [← hg] at o1 ⊢
  have Hg := Lib.hid hg
  clear hg hd hd2 hmk
  go_wp2_with fail
  go_loopw [6] (fun vi wr => ∃ i : Nat, vi = .int .i64 (i : Int) ∧ i ≤ k + 1 ∧ Own wr 5 1 (some ⟨g, 0, none⟩) (k + 1) (k + 1) (fil (fun _ => B c) (.int .u8 0) (k + 1) i) ∧ Grow w wr) (fun vi _ => k + 1 - (intOf vi).toNat)
  case atStart => exact ⟨0, by simp, by omega, by simpa [fil] using o1, g1⟩
  case round =>
    clear o1 g1
    obtain ⟨i, rfl, hi, oi, gi⟩ := hrel
    by_cases hik : i ≤ k
    · obtain ⟨g3, v, eg, hv, hfz, hset⟩ := own_put oi (i := i) (by omega)
      cases eg
      have hn := hset (B c) rfl
      rw [fil_next (fun _ => B c) _ (k + 1) i (by omega)] at hn
      rw [← Hcv.out] at hn
      have gn := gi.then (Keep.setCell (fp := [g]) wr ⟨g, i, none⟩ (by simp) (.int .u8 a1)) (fun y hy => by simp at hy; have := Hg.out; omega)
      clear hset hR oi gi
      go_wp2_with fail
      go_roundw
      case rel => exact ⟨i + 1, by go_num, by omega, by rw [← Hcv.out]; exact hn, gn⟩
      case measure => simp [intOf]; omega
    · obtain rfl : i = k + 1 := by omega
      have hfil : fil (fun _ => B c) (.int .u8 0) (k + 1) (k + 1) = (List.replicate (k + 1) c).map B := by simp [fil, List.map_const']
      rw [hfil] at oi
      have sb := oi.sl
      obtain ⟨so, sc, hcut, sk, -⟩ := run_cut0 TBy sb (k : Int) k rfl (by omega)
      rw [Nat.mul_one, ← List.map_take, List.take_replicate, Nat.min_eq_left (by omega)] at sk
      have hd3 : decide ((k : Int) + 1 ≤ (k : Int)) = false := by simp; omega
      obtain ⟨Lk, hLk⟩ : ∃ L, L = List.replicate k c := ⟨_, rfl⟩
      obtain ⟨L1, hL1⟩ : ∃ L, L = List.replicate (k + 1) c := ⟨_, rfl⟩
      have lk : Lk.length = k := by rw [hLk]; simp
      have l1 : L1.length = k + 1 := by rw [hL1]; simp
      rw [← hLk] at sk
      rw [← hL1] at sb
      clear hfil oi hik hi Hcv hLk hL1 Hg
      have Hlk := Lib.hid lk
      have Hl1 := Lib.hid l1
      obtain ⟨X, hX⟩ : ∃ S, S = sumS Lk := ⟨_, rfl⟩
      obtain ⟨Y, hY⟩ : ∃ S, S = sumS L1 := ⟨_, rfl⟩
      have HX := Lib.hid hX
      have HY := Lib.hid hY
      have hX32 : X.length = 32 := by rw [hX]; exact hl32 _
      have hY32 : Y.length = 32 := by rw [hY]; exact hl32 _
      clear hX hY lk l1
      go_wp2_with fail
      refine hnew _ _ ?_
      intro p w3 sm g3 _
      have hsx := hsum p so sc Lk w3 sm (by rw [Hlk.out]; exact sk.grow g3) (by rw [Hlk.out]; omega)
      rw [← HX.out, Hlk.out] at hsx
      have G3 := gi.trans g3
      go_wp2_with fail
      refine hsx _ ?_
      intro w4 g4
      have g34 := g3.trans g4
      have hsy := hsum p (some ⟨g, 0, none⟩) (k + 1) L1 w4 ⟨sm.1.keep (Keep.of_grow [] g4) (by simp), sm.2⟩ (by rw [Hl1.out]; exact sb.grow g34) (by rw [Hl1.out]; omega)
      rw [← HY.out, Hl1.out] at hsy
      have G4 := G3.trans g4
      have eX : ((k + 1 : Nat) : Int) = (k : Int) + 1 := by omega
      clear hsx
      go_wp2_with fail
      refine hsy _ ?_
      intro w5 g5
      have G5 := G4.trans g5
      have sb5 := sb.grow (g34.trans g5)
      have sk5 := sk.grow (g34.trans g5)
      clear hsy sm G3 G4 g3 g4 g34 g5 sb sk hsum hnew
      have hXl : (X.map B).length = 32 := by rw [List.length_map]; exact hX32
      have hYl : (Y.map B).length = 32 := by rw [List.length_map]; exact hY32
      have eqX := eq_hash X X hX32 hX32
      have eqY := eq_hash Y Y hY32 hY32
      have eqXY := eq_hash X Y hX32 hY32
      rw [beq_self_eq_true] at eqX eqY
      obtain ⟨bb, hbb⟩ : ∃ b, b = (X == Y) := ⟨_, rfl⟩
      rw [← hbb] at eqXY
      have h1X : ∀ v ∈ X.map B, v.oneCell' = true := B_one X
      have h1Y : ∀ v ∈ Y.map B, v.oneCell' = true := B_one Y
      have stX := fun (w : World) (bo : Option Addr) d vs (s : Sl w 1 bo 1 d vs) (pt : Pt w vs [Lk]) => sumTop bo d vs [Lk] w s pt (by simp) (by simp [Hlk.out]; omega)
      have stY := fun (w : World) (bo : Option Addr) d vs (s : Sl w 1 bo 1 d vs) (pt : Pt w vs [L1]) => sumTop bo d vs [L1] w s pt (by simp) (by simp [Hl1.out]; omega)
      simp only [List.flatten_cons, List.flatten_nil, List.append_nil, ← HX.out, ← HY.out, List.length_cons, List.length_nil, Nat.zero_add] at stX stY
      have sk6 := sk5
      have sb6 := sb5
      obtain ⟨VX, hVX⟩ : ∃ V, V = X.map B := ⟨_, rfl⟩
      obtain ⟨VY, hVY⟩ : ∃ V, V = Y.map B := ⟨_, rfl⟩
      rw [← hVX] at hXl eqX eqXY h1X ⊢
      rw [← hVY] at hYl eqY eqXY h1Y ⊢
      simp only [← hVX] at stX
      simp only [← hVY] at stY
      clear hbb hX32 hY32 hl32 sk5 sb5 hVX hVY HX HY
      obtain ⟨tX, aX, tY, aY, oX, oY, gXY⟩ := newvar2 (t := 26) (t2 := 26) (n := 32) (n2 := 32) (F := VX) (F2 := VY) w5 (.int .u8 0) (.int .u8 0) rfl rfl (by omega) (by omega) hXl hYl h1X h1Y
      have hszX : (Try.prog.info? 26).map (·.size) = some VX.toArray.size := by rw [List.size_toArray, hXl]; kernel_rfl
      have hszY : (Try.prog.info? 26).map (·.size) = some VY.toArray.size := by rw [List.size_toArray, hYl]; kernel_rfl
      go_upto_region 10 with (first | refine wpList_store_mid rfl 26 _ _ rfl w5.heap.size 0 VX.toArray rfl rfl tX hszX aX ?_ | refine wpList_store_mid rfl 26 _ _ rfl (w5.heap.size + 1) 0 VY.toArray rfl rfl tY hszY aY ?_)
      change Code.wp _ _ _ ⟨_, _⟩ ((((w5.alloc (.cells (List.replicate 32 (.int .u8 0)).toArray 26)).alloc (.cells (List.replicate 32 (.int .u8 0)).toArray 26)).setCells w5.heap.size 0 VX).setCells (w5.heap.size + 1) 0 VY)
      generalize ((((w5.alloc (.cells (List.replicate 32 (.int .u8 0)).toArray 26)).alloc (.cells (List.replicate 32 (.int .u8 0)).toArray 26)).setCells w5.heap.size 0 VX).setCells (w5.heap.size + 1) 0 VY) = w6 at *
      obtain ⟨q5, hq5⟩ : ∃ q, q = w5.heap.size := ⟨_, rfl⟩
      rw [← hq5] at oX oY ⊢
      have G6 := G5.trans gXY
      have sk7 := sk6.grow gXY
      have sb7 := sb6.grow gXY
      clear tX aX tY aY hszY hq5 sk6 sb6 gXY G5
      have ldX : ∀ w', Keep [] w6 w' → (Instr.loadAt 26 (.pointer (some ⟨q5, 0, none⟩))).run Try.prog w' = .ok (.agg VX.toArray) w' := fun w' k => load_arr (by decide) hXl (oX.keep k (by simp)) Try.underlying26 rfl (by kernel_rfl)
      have ldY : ∀ w', Keep [] w6 w' → (Instr.loadAt 26 (.pointer (some ⟨q5 + 1, 0, none⟩))).run Try.prog w' = .ok (.agg VY.toArray) w' := fun w' k => load_arr (by decide) hYl (oY.keep k (by simp)) Try.underlying26 rfl (by kernel_rfl)
      clear oX oY hszX h1X h1Y hXl hYl
      obtain ⟨AX, hAX⟩ : ∃ V, V = VX.toArray := ⟨_, rfl⟩
      obtain ⟨AY, hAY⟩ : ∃ V, V = VY.toArray := ⟨_, rfl⟩
      rw [← hAX] at eqX eqXY
      rw [← hAY] at eqY eqXY
      simp only [← hAX] at stX ldX
      simp only [← hAY] at stY ldY
      clear hAX hAY
      refine wp_region_R (segT w6 [(3, pPt [Lk]), (4, pIs (.agg AX)), (9, pPt [L1]), (10, pIs (.agg AY)), (18, pPt [Lk]), (19, pIs (.agg AX)), (21, pPt [L1]), (22, pIs (.agg AY)), (30, pIs (.bool true))]) (by kernel_rfl) segT_drew ?_
      unfold segT segK segR
      repeat (first | (refine wpV_skp rfl rfl ?_; simp only [List.set_cons_succ, List.set_cons_zero]) | (refine wpV_look rfl rfl rfl rfl rfl (fun K hK => ?_); go_big_quiet_op; refine hK _ ?_; clear hK K))
      refine wpV_mk rfl rfl rfl [] rfl (fun vs w7 hC _ => ?_) (fun vs v w7 hC hV hF => ?_)
      · obtain ⟨⟨w7, hk, -⟩, rfl⟩ := hC
        unfold yields
        go_simp
        exact ⟨⟨Keep.of_grow [] (Grow.alloc w7 _), trivial⟩, pPt_one (sk7.keep hk (by simp))⟩
      obtain ⟨bo, d, vs7, rfl, -, -⟩ := hV
      clear hC hF w7
      simp only [List.set_cons_succ, List.set_cons_zero]
      refine wpV_mk rfl rfl rfl [3] (by kernel_rfl) (fun vs w7 hC hF => yields_call (by kernel_rfl) ?_) (fun vs v w7 hC hV hF => ?_)
      · obtain ⟨bo, d, vs7, e, hs, hp⟩ := (hF 3 (by simp)).2 rfl
        cases e
        obtain ⟨⟨w7, hk, -⟩, rfl⟩ := hC
        exact stX w7 _ _ _ hs hp _ (fun w8 g8 => ⟨_, rfl, ⟨Keep.of_grow [] g8, trivial⟩, rfl⟩)
      obtain rfl := hV
      clear hC hF w7
      simp only [List.set_cons_succ, List.set_cons_zero]
      repeat (first | (refine wpV_skp rfl rfl ?_; simp only [List.set_cons_succ, List.set_cons_zero]) | (refine wpV_val rfl rfl rfl rfl rfl _ (fun w hC => by obtain ⟨n, rfl⟩ := hC; exact exec_load (ldX _ n.h)) ?_; simp only [List.set_cons_succ, List.set_cons_zero]) | (refine wpV_val rfl rfl rfl rfl rfl _ (fun w hC => by obtain ⟨n, rfl⟩ := hC; exact exec_load (ldY _ n.h)) ?_; simp only [List.set_cons_succ, List.set_cons_zero]) | (refine wpV_look rfl rfl rfl rfl rfl (fun K hK => ?_); go_big_quiet_op; refine hK _ ?_; clear hK K))
      refine wpV_mk rfl rfl rfl [] rfl (fun vs w7 hC _ => ?_) (fun vs v w7 hC hV hF => ?_)
      · obtain ⟨⟨w7, hk, -⟩, rfl⟩ := hC
        unfold yields
        go_simp
        exact ⟨⟨Keep.of_grow [] (Grow.alloc w7 _), trivial⟩, pPt_one (sb7.keep hk (by simp))⟩
      obtain ⟨bo, d, vs7, rfl, -, -⟩ := hV
      clear hC hF w7
      simp only [List.set_cons_succ, List.set_cons_zero]
      refine wpV_mk rfl rfl rfl [9] (by kernel_rfl) (fun vs w7 hC hF => yields_call (by kernel_rfl) ?_) (fun vs v w7 hC hV hF => ?_)
      · obtain ⟨bo, d, vs7, e, hs, hp⟩ := (hF 9 (by simp)).2 rfl
        cases e
        obtain ⟨⟨w7, hk, -⟩, rfl⟩ := hC
        exact stY w7 _ _ _ hs hp _ (fun w8 g8 => ⟨_, rfl, ⟨Keep.of_grow [] g8, trivial⟩, rfl⟩)
      obtain rfl := hV
      clear hC hF w7
      simp only [List.set_cons_succ, List.set_cons_zero]
      repeat (first | (refine wpV_skp rfl rfl ?_; simp only [List.set_cons_succ, List.set_cons_zero]) | (refine wpV_val rfl rfl rfl rfl rfl _ (fun w hC => by obtain ⟨n, rfl⟩ := hC; exact exec_load (ldX _ n.h)) ?_; simp only [List.set_cons_succ, List.set_cons_zero]) | (refine wpV_val rfl rfl rfl rfl rfl _ (fun w hC => by obtain ⟨n, rfl⟩ := hC; exact exec_load (ldY _ n.h)) ?_; simp only [List.set_cons_succ, List.set_cons_zero]) | (refine wpV_look rfl rfl rfl rfl rfl (fun K hK => ?_); go_big_quiet_op; refine hK _ ?_; clear hK K))
      refine wpV_mk rfl rfl rfl [] rfl (fun vs w7 hC _ => ?_) (fun vs v w7 hC hV hF => ?_)
      · obtain ⟨⟨w7, hk, -⟩, rfl⟩ := hC
        unfold yields
        go_simp
        exact ⟨⟨Keep.of_grow [] (Grow.alloc w7 _), trivial⟩, pPt_one (sk7.keep hk (by simp))⟩
      obtain ⟨bo, d, vs7, rfl, -, -⟩ := hV
      clear hC hF w7
      simp only [List.set_cons_succ, List.set_cons_zero]
      refine wpV_mk rfl rfl rfl [18] (by kernel_rfl) (fun vs w7 hC hF => yields_call (by kernel_rfl) ?_) (fun vs v w7 hC hV hF => ?_)
      · obtain ⟨bo, d, vs7, e, hs, hp⟩ := (hF 18 (by simp)).2 rfl
        cases e
        obtain ⟨⟨w7, hk, -⟩, rfl⟩ := hC
        exact stX w7 _ _ _ hs hp _ (fun w8 g8 => ⟨_, rfl, ⟨Keep.of_grow [] g8, trivial⟩, rfl⟩)
      obtain rfl := hV
      clear hC hF w7
      simp only [List.set_cons_succ, List.set_cons_zero]
      repeat (first | (refine wpV_skp rfl rfl ?_; simp only [List.set_cons_succ, List.set_cons_zero]) | (refine wpV_val rfl rfl rfl rfl rfl _ (fun w hC => by obtain ⟨n, rfl⟩ := hC; exact exec_load (ldX _ n.h)) ?_; simp only [List.set_cons_succ, List.set_cons_zero]) | (refine wpV_val rfl rfl rfl rfl rfl _ (fun w hC => by obtain ⟨n, rfl⟩ := hC; exact exec_load (ldY _ n.h)) ?_; simp only [List.set_cons_succ, List.set_cons_zero]) | (refine wpV_look rfl rfl rfl rfl rfl (fun K hK => ?_); go_big_quiet_op; refine hK _ ?_; clear hK K))
      refine wpV_mk rfl rfl rfl [] rfl (fun vs w7 hC _ => ?_) (fun vs v w7 hC hV hF => ?_)
      · obtain ⟨⟨w7, hk, -⟩, rfl⟩ := hC
        unfold yields
        go_simp
        exact ⟨⟨Keep.of_grow [] (Grow.alloc w7 _), trivial⟩, pPt_one (sb7.keep hk (by simp))⟩
      obtain ⟨bo, d, vs7, rfl, -, -⟩ := hV
      clear hC hF w7
      simp only [List.set_cons_succ, List.set_cons_zero]
      refine wpV_mk rfl rfl rfl [21] (by kernel_rfl) (fun vs w7 hC hF => yields_call (by kernel_rfl) ?_) (fun vs v w7 hC hV hF => ?_)
      · obtain ⟨bo, d, vs7, e, hs, hp⟩ := (hF 21 (by simp)).2 rfl
        cases e
        obtain ⟨⟨w7, hk, -⟩, rfl⟩ := hC
        exact stY w7 _ _ _ hs hp _ (fun w8 g8 => ⟨_, rfl, ⟨Keep.of_grow [] g8, trivial⟩, rfl⟩)
      obtain rfl := hV
      clear hC hF w7
      simp only [List.set_cons_succ, List.set_cons_zero]
      repeat (first | (refine wpV_skp rfl rfl ?_; simp only [List.set_cons_succ, List.set_cons_zero]) | (refine wpV_val rfl rfl rfl rfl rfl _ (fun w hC => by obtain ⟨n, rfl⟩ := hC; exact exec_load (ldX _ n.h)) ?_; simp only [List.set_cons_succ, List.set_cons_zero]) | (refine wpV_val rfl rfl rfl rfl rfl _ (fun w hC => by obtain ⟨n, rfl⟩ := hC; exact exec_load (ldY _ n.h)) ?_; simp only [List.set_cons_succ, List.set_cons_zero]) | (refine wpV_look rfl rfl rfl rfl rfl (fun K hK => ?_); go_big_quiet_op; refine hK _ ?_; clear hK K))
      refine wpV_mk rfl rfl rfl [] rfl (fun vs w7 hC _ => yields_call (by kernel_rfl) ?_) (fun vs v w7 hC hV hF => ?_)
      · obtain ⟨⟨w7, hk, -⟩, rfl⟩ := hC
        exact haw w7 _ (fun w8 g8 => ⟨_, rfl, ⟨Keep.of_grow [] g8, trivial⟩, rfl⟩)
      obtain rfl := hV
      clear hC hF w7
      simp only [List.set_cons_succ, List.set_cons_zero]
      repeat (first | (refine wpV_skp rfl rfl ?_; simp only [List.set_cons_succ, List.set_cons_zero]) | (refine wpV_look rfl rfl rfl rfl rfl (fun K hK => ?_); go_big_quiet_op; refine hK _ ?_; clear hK K))
      refine wpV_nil ?_
      intro w9 hC hF
      obtain ⟨⟨w9, hkw9, -⟩, rfl⟩ := hC
      clear hF
      have hf := hR _ (G6.trans hkw9.grow)
      clear hR
      go_wp2_with fail
      exact hf
end Go.Proofs.Ytekfggeedljdkaa
