/- The walk of ShaTexts. -/
import Derived.Test.YtekfggeedljdkaaShaAw
import Derived.Test.YtekfggeedljdkaaShaM3
namespace Go.Proofs.Ytekfggeedljdkaa
open Go Go.RowKit

theorem load_bytes {P : Program} {t : TypeId} {g n : Nat} {F : List Value} {d : TypeDesc} {w : World} (h0 : 0 < n) (hF : F.length = n) (o : Own w t 1 (some ⟨g, 0, none⟩) n n F) (hu : P.underlying t = some d) (hd : d.isRow = true) (hi : (P.info? t).map (·.size) = some n) :
    (Instr.loadAt t (.pointer (some ⟨g, 0, none⟩))).run P w = .ok (.agg F.toArray) w := by
  obtain ⟨g', off', eg, hc⟩ := o.sl.hat (by omega)
  cases eg
  exact run_ld hu hd (by rw [hF]; exact hi) hc

set_option maxRecDepth 100000 in
set_option maxHeartbeats 4000000 in
theorem shaTxW (a0 : Option Addr) (c0 : Nat) (l0 : List UInt8) (a1 : ByteArray) (w : World) (s0 : Sl w 1 a0 l0.length c0 (l0.map B)) (w1 : a1.size ≤ 9223372036854775807) (R : Ending → World → Prop) (hR : ∀ w', Grow w w' → R (.returned (.bool true)) w') :
    Calls Try.prog 6 #[.slice a0 l0.length c0, .string a1] w R := by
  have hml : maxLen = 9223372036854775807 := rfl
  have haw := awakeC
  have hl0 : l0.length ≤ 9223372036854775807 := by have := s0.hle; have := s0.hcap; omega
  by_cases hbig : 500 < l0.length
  · go_enter Try.func6, Try.ntmps6
    go_wp2_with fail
    refine haw _ _ ?_
    intro w2 g2
    have hf := hR _ g2
    clear hR
    go_wp2_with fail
    exact hf
  · by_cases hbig2 : 200 < a1.size
    · go_enter Try.func6, Try.ntmps6
      go_wp2_with fail
      refine haw _ _ ?_
      intro w2 g2
      have hf := hR _ g2
      clear hR
      go_wp2_with fail
      exact hf
    · obtain ⟨l, hl⟩ : ∃ l, l = a1.data.toList := ⟨_, rfl⟩
      have hsl := sumS_len l0
      have hpt := parse_text (sumS l0) hsl
      have htS := textC (sumS l0) hsl
      have hrS := rTextC (sumS l0) hsl
      have hpS := parseC (str (textS (sumS l0))) (textS (sumS l0)) rfl
      rw [hpt] at hpS
      have hp := parseC a1 l hl.symm
      have hrp := rParseC a1 l hl.symm (by omega)
      have hpl := parseS_len l
      have htb := textC (parseS l).1 hpl
      have htp := text_parse l
      have hs2 : a1.toList = l := by rw [ByteArray.toList_eq]; exact hl.symm
      have e1 : sumS [l0].flatten = sumS l0 := by simp
      have i32 : (Try.prog.info? 26).map (·.size) = some 32 := by kernel_rfl
      obtain ⟨F, hF⟩ : ∃ F, F = (sumS l0).map B := ⟨_, rfl⟩
      have hFl : F.length = 32 := by rw [hF, List.length_map]; exact hsl
      have hF1 : ∀ v ∈ F, v.oneCell' = true := by rw [hF]; exact B_one _
      have heqF : ∀ w, (Op.equalIn 10000 26 (.agg F.toArray) (.agg F.toArray)).run Try.prog w = .ok true w := fun w => by
        rw [hF, eq_hash _ _ hsl hsl]; simp
      obtain ⟨G, hG⟩ : ∃ G, G = (parseS l).1.map B := ⟨_, rfl⟩
      have hGl : G.length = 32 := by rw [hG, List.length_map]; exact hpl
      have hG1 : ∀ v ∈ G, v.oneCell' = true := by rw [hG]; exact B_one _
      have heqG : ∀ w, (Op.equalIn 10000 26 (.agg G.toArray) (.agg G.toArray)).run Try.prog w = .ok true w := fun w => by
        rw [hG, eq_hash _ _ hpl hpl]; simp
      obtain ⟨X, hX⟩ : ∃ X, X = textS (sumS l0) := ⟨_, rfl⟩
      obtain ⟨Y, hY⟩ : ∃ Y, Y = textS (parseS l).1 := ⟨_, rfl⟩
      obtain ⟨is, his⟩ : ∃ b, b = (parseS l).2 := ⟨_, rfl⟩
      simp only [← hF, ← hX] at htS hrS hpS
      simp only [← hG, ← his] at hp hrp
      simp only [← hG, ← hY] at htb
      simp only [← his, ← hY] at htp
      have hszF : (Try.prog.info? 26).map (·.size) = some F.toArray.size := by rw [List.size_toArray, hFl]; exact i32
      have hszG : (Try.prog.info? 26).map (·.size) = some G.toArray.size := by rw [List.size_toArray, hGl]; exact i32
      have e2 : (sumS [l0].flatten).map B = F := by rw [e1, hF]
      clear hpt hF hG hX hY his e1
      go_enter Try.func6, Try.ntmps6
      go_wp2_with fail
      have sB : Sl (w.alloc (.cells #[.slice a0 l0.length c0] 31)) 1 (some ⟨w.heap.size, 0, none⟩) [l0].length 1 [.slice a0 l0.length c0] :=
        sl_obj (C := [.slice a0 l0.length c0]) (alloc_new w _) 1 rfl (by omega) (by simp [Value.oneCell'])
      refine sumTop _ 1 _ [l0] _ sB (one_part (s0.grow (Grow.alloc w _))) (by simp) (by simp; omega) _ ?_
      intro w2 g2
      rw [e2]
      have G2 := (Grow.alloc w (.cells #[.slice a0 l0.length c0] 31)).trans g2
      clear sB g2 e2
      obtain ⟨o1, ga1, th1, al1⟩ := newvar (t := 26) w2 (.int .u8 0) rfl (by omega) hFl hF1
      go_upto_region 4 with (refine wpList_store_mid rfl 26 _ _ rfl w2.heap.size 0 F.toArray rfl rfl th1 hszF al1 ?_)
      change Code.wp _ _ _ _ ((w2.alloc (.cells (List.replicate 32 (.int .u8 0)).toArray 26)).setCells w2.heap.size 0 F)
      have G3 := G2.trans ga1
      obtain ⟨q1, hq1⟩ : ∃ q, q = w2.heap.size := ⟨_, rfl⟩
      clear th1 al1 ga1 G2
      generalize (w2.alloc (.cells (List.replicate 32 (.int .u8 0)).toArray 26)).setCells w2.heap.size 0 F = w3 at *
      rw [← hq1] at o1 ⊢
      clear hq1
      have hiF : (Try.prog.info? 26).map (·.size) = some F.length := by rw [hFl]; exact i32
      have r1 := own_range o1 (by omega)
      go_wp2_with (refine wpList_load_mid rfl 26 _ rfl q1 0 rfl F _ r1 Try.underlying26 rfl hiF ?_)
      refine htS _ _ ?_
      intro w4 g4
      go_wp2_with fail
      refine hpS _ _ ?_
      intro w5 g5
      have p1 := (o1.grow g4).grow g5
      have G5 := (G3.trans g4).trans g5
      clear o1 G3 g4 g5 r1
      obtain ⟨o2, ga2, th2, al2⟩ := newvar (t := 26) w5 (.int .u8 0) rfl (by omega) hFl hF1
      go_upto_region 5 with (refine wpList_store_mid rfl 26 _ _ rfl w5.heap.size 0 F.toArray rfl rfl th2 hszF al2 ?_)
      change Code.wp _ _ _ _ ((w5.alloc (.cells (List.replicate 32 (.int .u8 0)).toArray 26)).setCells w5.heap.size 0 F)
      have p1' := p1.grow ga2
      have G6 := G5.trans ga2
      obtain ⟨q2, hq2⟩ : ∃ q, q = w5.heap.size := ⟨_, rfl⟩
      clear th2 al2 ga2 G5 p1
      generalize (w5.alloc (.cells (List.replicate 32 (.int .u8 0)).toArray 26)).setCells w5.heap.size 0 F = w6 at *
      rw [← hq2] at o2 ⊢
      clear hq2
      go_wp2_with fail
      refine hp _ _ ?_
      intro w7 g7
      have p1 := p1'.grow g7
      have p2 := o2.grow g7
      have G7 := G6.trans g7
      clear p1' o2 G6 g7
      obtain ⟨o3, ga3, th3, al3⟩ := newvar (t := 26) w7 (.int .u8 0) rfl (by omega) hGl hG1
      go_upto_region 6 with (refine wpList_store_mid rfl 26 _ _ rfl w7.heap.size 0 G.toArray rfl rfl th3 hszG al3 ?_)
      change Code.wp _ _ _ _ ((w7.alloc (.cells (List.replicate 32 (.int .u8 0)).toArray 26)).setCells w7.heap.size 0 G)
      have p1' := p1.grow ga3
      have p2' := p2.grow ga3
      have G8 := G7.trans ga3
      obtain ⟨q3, hq3⟩ : ∃ q, q = w7.heap.size := ⟨_, rfl⟩
      clear th3 al3 ga3 G7 p1 p2
      generalize (w7.alloc (.cells (List.replicate 32 (.int .u8 0)).toArray 26)).setCells w7.heap.size 0 G = w8 at *
      rw [← hq3] at o3 ⊢
      clear hq3
      go_wp2_with fail
      refine hrp _ _ ?_
      intro w9 g9
      have p1 := p1'.grow g9
      have p2 := p2'.grow g9
      have p3 := o3.grow g9
      have G9 := G8.trans g9
      clear p1' p2' o3 G8 g9
      obtain ⟨o4, ga4, th4, al4⟩ := newvar (t := 26) w9 (.int .u8 0) rfl (by omega) hGl hG1
      go_upto_region 7 with (refine wpList_store_mid rfl 26 _ _ rfl w9.heap.size 0 G.toArray rfl rfl th4 hszG al4 ?_)
      change Code.wp _ _ _ _ ((w9.alloc (.cells (List.replicate 32 (.int .u8 0)).toArray 26)).setCells w9.heap.size 0 G)
      have p1' := p1.grow ga4
      have p2' := p2.grow ga4
      have p3' := p3.grow ga4
      have G10 := G9.trans ga4
      obtain ⟨q4, hq4⟩ : ∃ q, q = w9.heap.size := ⟨_, rfl⟩
      clear th4 al4 ga4 G9 p1 p2 p3
      generalize (w9.alloc (.cells (List.replicate 32 (.int .u8 0)).toArray 26)).setCells w9.heap.size 0 G = w10 at *
      rw [← hq4] at o4 ⊢
      clear hq4
      have ld1 : ∀ w', Keep [] w10 w' → (Instr.loadAt 26 (.pointer (some ⟨q1, 0, none⟩))).run Try.prog w' = .ok (.agg F.toArray) w' := fun w' k => load_bytes (n := 32) (by decide) hFl (p1'.keep k (by simp)) Try.underlying26 rfl i32
      have ld2 : ∀ w', Keep [] w10 w' → (Instr.loadAt 26 (.pointer (some ⟨q2, 0, none⟩))).run Try.prog w' = .ok (.agg F.toArray) w' := fun w' k => load_bytes (n := 32) (by decide) hFl (p2'.keep k (by simp)) Try.underlying26 rfl i32
      have ld3 : ∀ w', Keep [] w10 w' → (Instr.loadAt 26 (.pointer (some ⟨q3, 0, none⟩))).run Try.prog w' = .ok (.agg G.toArray) w' := fun w' k => load_bytes (n := 32) (by decide) hGl (p3'.keep k (by simp)) Try.underlying26 rfl i32
      have ld4 : ∀ w', Keep [] w10 w' → (Instr.loadAt 26 (.pointer (some ⟨q4, 0, none⟩))).run Try.prog w' = .ok (.agg G.toArray) w' := fun w' k => load_bytes (n := 32) (by decide) hGl (o4.keep k (by simp)) Try.underlying26 rfl i32
      have hXt : (str X).toList = X := str_toList X
      have hXX : (X == X) = true := by simp
      let V : Nat → Array Value → Value → World → Prop := fun i _ v _ => (i = 8 → v = .string (str X)) ∧ (i = 10 → v = .string (str X)) ∧ (i = 28 → v = .string (str Y)) ∧ (i = 34 → v = .bool true)
      cases is with
      | true =>
        have hYl : Y = l := htp rfl
        subst hYl
        have hYt : (str Y).toList = Y := str_toList Y
        have hYY : (Y == Y) = true := by simp
        refine wp_region_R (segK [] w10 [8, 10, 28, 34] V (fun _ _ _ _ _ _ h => h)) (by kernel_rfl) segK_drew ?_
        unfold segK segR
        repeat (first | (refine wpV_skp rfl rfl ?_; simp only [List.set_cons_succ, List.set_cons_zero]) | (refine wpV_val rfl rfl rfl rfl rfl _ (fun w hC => by obtain ⟨n, rfl⟩ := hC; exact exec_load (ld1 _ n.h)) ?_; simp only [List.set_cons_succ, List.set_cons_zero]) | (refine wpV_val rfl rfl rfl rfl rfl _ (fun w hC => by obtain ⟨n, rfl⟩ := hC; exact exec_load (ld2 _ n.h)) ?_; simp only [List.set_cons_succ, List.set_cons_zero]) | (refine wpV_val rfl rfl rfl rfl rfl _ (fun w hC => by obtain ⟨n, rfl⟩ := hC; exact exec_load (ld3 _ n.h)) ?_; simp only [List.set_cons_succ, List.set_cons_zero]) | (refine wpV_val rfl rfl rfl rfl rfl _ (fun w hC => by obtain ⟨n, rfl⟩ := hC; exact exec_load (ld4 _ n.h)) ?_; simp only [List.set_cons_succ, List.set_cons_zero]) | (refine wpV_look rfl rfl rfl rfl rfl (fun K hK => ?_); go_big_quiet_op; refine hK _ ?_; clear hK K))
        refine wpV_mk rfl rfl rfl [] rfl (fun vs w7 hC _ => yields_call (by kernel_rfl) ?_) (fun vs v w7 hC hV hF => ?_)
        · obtain ⟨⟨w7, hk, -⟩, rfl⟩ := hC
          exact htS w7 _ (fun w8 g8 => ⟨_, rfl, ⟨Keep.of_grow [] g8, trivial⟩, by simp [V]⟩)
        obtain rfl := hV.1 rfl
        clear hV hC hF w7
        simp only [List.set_cons_succ, List.set_cons_zero]
        repeat (first | (refine wpV_skp rfl rfl ?_; simp only [List.set_cons_succ, List.set_cons_zero]) | (refine wpV_val rfl rfl rfl rfl rfl _ (fun w hC => by obtain ⟨n, rfl⟩ := hC; exact exec_load (ld1 _ n.h)) ?_; simp only [List.set_cons_succ, List.set_cons_zero]) | (refine wpV_val rfl rfl rfl rfl rfl _ (fun w hC => by obtain ⟨n, rfl⟩ := hC; exact exec_load (ld2 _ n.h)) ?_; simp only [List.set_cons_succ, List.set_cons_zero]) | (refine wpV_val rfl rfl rfl rfl rfl _ (fun w hC => by obtain ⟨n, rfl⟩ := hC; exact exec_load (ld3 _ n.h)) ?_; simp only [List.set_cons_succ, List.set_cons_zero]) | (refine wpV_val rfl rfl rfl rfl rfl _ (fun w hC => by obtain ⟨n, rfl⟩ := hC; exact exec_load (ld4 _ n.h)) ?_; simp only [List.set_cons_succ, List.set_cons_zero]) | (refine wpV_look rfl rfl rfl rfl rfl (fun K hK => ?_); go_big_quiet_op; refine hK _ ?_; clear hK K))
        refine wpV_mk rfl rfl rfl [] rfl (fun vs w7 hC _ => yields_call (by kernel_rfl) ?_) (fun vs v w7 hC hV hF => ?_)
        · obtain ⟨⟨w7, hk, -⟩, rfl⟩ := hC
          exact hrS w7 _ (fun w8 g8 => ⟨_, rfl, ⟨Keep.of_grow [] g8, trivial⟩, by simp [V]⟩)
        obtain rfl := hV.2.1 rfl
        clear hV hC hF w7
        simp only [List.set_cons_succ, List.set_cons_zero]
        repeat (first | (refine wpV_skp rfl rfl ?_; simp only [List.set_cons_succ, List.set_cons_zero]) | (refine wpV_val rfl rfl rfl rfl rfl _ (fun w hC => by obtain ⟨n, rfl⟩ := hC; exact exec_load (ld1 _ n.h)) ?_; simp only [List.set_cons_succ, List.set_cons_zero]) | (refine wpV_val rfl rfl rfl rfl rfl _ (fun w hC => by obtain ⟨n, rfl⟩ := hC; exact exec_load (ld2 _ n.h)) ?_; simp only [List.set_cons_succ, List.set_cons_zero]) | (refine wpV_val rfl rfl rfl rfl rfl _ (fun w hC => by obtain ⟨n, rfl⟩ := hC; exact exec_load (ld3 _ n.h)) ?_; simp only [List.set_cons_succ, List.set_cons_zero]) | (refine wpV_val rfl rfl rfl rfl rfl _ (fun w hC => by obtain ⟨n, rfl⟩ := hC; exact exec_load (ld4 _ n.h)) ?_; simp only [List.set_cons_succ, List.set_cons_zero]) | (refine wpV_look rfl rfl rfl rfl rfl (fun K hK => ?_); go_big_quiet_op; refine hK _ ?_; clear hK K))
        refine wpV_mk rfl rfl rfl [] rfl (fun vs w7 hC _ => yields_call (by kernel_rfl) ?_) (fun vs v w7 hC hV hF => ?_)
        · obtain ⟨⟨w7, hk, -⟩, rfl⟩ := hC
          exact htb w7 _ (fun w8 g8 => ⟨_, rfl, ⟨Keep.of_grow [] g8, trivial⟩, by simp [V]⟩)
        obtain rfl := hV.2.2.1 rfl
        clear hV hC hF w7
        simp only [List.set_cons_succ, List.set_cons_zero]
        repeat (first | (refine wpV_skp rfl rfl ?_; simp only [List.set_cons_succ, List.set_cons_zero]) | (refine wpV_val rfl rfl rfl rfl rfl _ (fun w hC => by obtain ⟨n, rfl⟩ := hC; exact exec_load (ld1 _ n.h)) ?_; simp only [List.set_cons_succ, List.set_cons_zero]) | (refine wpV_val rfl rfl rfl rfl rfl _ (fun w hC => by obtain ⟨n, rfl⟩ := hC; exact exec_load (ld2 _ n.h)) ?_; simp only [List.set_cons_succ, List.set_cons_zero]) | (refine wpV_val rfl rfl rfl rfl rfl _ (fun w hC => by obtain ⟨n, rfl⟩ := hC; exact exec_load (ld3 _ n.h)) ?_; simp only [List.set_cons_succ, List.set_cons_zero]) | (refine wpV_val rfl rfl rfl rfl rfl _ (fun w hC => by obtain ⟨n, rfl⟩ := hC; exact exec_load (ld4 _ n.h)) ?_; simp only [List.set_cons_succ, List.set_cons_zero]) | (refine wpV_look rfl rfl rfl rfl rfl (fun K hK => ?_); go_big_quiet_op; refine hK _ ?_; clear hK K))
        refine wpV_mk rfl rfl rfl [] rfl (fun vs w7 hC _ => yields_call (by kernel_rfl) ?_) (fun vs v w7 hC hV hF => ?_)
        · obtain ⟨⟨w7, hk, -⟩, rfl⟩ := hC
          exact haw w7 _ (fun w8 g8 => ⟨_, rfl, ⟨Keep.of_grow [] g8, trivial⟩, by simp [V]⟩)
        obtain rfl := hV.2.2.2 rfl
        clear hV hC hF w7
        simp only [List.set_cons_succ, List.set_cons_zero]
        repeat (first | (refine wpV_skp rfl rfl ?_; simp only [List.set_cons_succ, List.set_cons_zero]) | (refine wpV_val rfl rfl rfl rfl rfl _ (fun w hC => by obtain ⟨n, rfl⟩ := hC; exact exec_load (ld1 _ n.h)) ?_; simp only [List.set_cons_succ, List.set_cons_zero]) | (refine wpV_val rfl rfl rfl rfl rfl _ (fun w hC => by obtain ⟨n, rfl⟩ := hC; exact exec_load (ld2 _ n.h)) ?_; simp only [List.set_cons_succ, List.set_cons_zero]) | (refine wpV_val rfl rfl rfl rfl rfl _ (fun w hC => by obtain ⟨n, rfl⟩ := hC; exact exec_load (ld3 _ n.h)) ?_; simp only [List.set_cons_succ, List.set_cons_zero]) | (refine wpV_val rfl rfl rfl rfl rfl _ (fun w hC => by obtain ⟨n, rfl⟩ := hC; exact exec_load (ld4 _ n.h)) ?_; simp only [List.set_cons_succ, List.set_cons_zero]) | (refine wpV_look rfl rfl rfl rfl rfl (fun K hK => ?_); go_big_quiet_op; refine hK _ ?_; clear hK K))
        refine wpV_nil ?_
        intro w11 hC hF
        obtain ⟨⟨w11, hk11, -⟩, rfl⟩ := hC
        have hf := hR _ (G10.trans hk11.grow)
        clear hF hR ld1 ld2 ld3 ld4
        go_wp2_with fail
        exact hf
      | false =>
        refine wp_region_R (segK [] w10 [8, 10, 28, 34] V (fun _ _ _ _ _ _ h => h)) (by kernel_rfl) segK_drew ?_
        unfold segK segR
        repeat (first | (refine wpV_skp rfl rfl ?_; simp only [List.set_cons_succ, List.set_cons_zero]) | (refine wpV_val rfl rfl rfl rfl rfl _ (fun w hC => by obtain ⟨n, rfl⟩ := hC; exact exec_load (ld1 _ n.h)) ?_; simp only [List.set_cons_succ, List.set_cons_zero]) | (refine wpV_val rfl rfl rfl rfl rfl _ (fun w hC => by obtain ⟨n, rfl⟩ := hC; exact exec_load (ld2 _ n.h)) ?_; simp only [List.set_cons_succ, List.set_cons_zero]) | (refine wpV_val rfl rfl rfl rfl rfl _ (fun w hC => by obtain ⟨n, rfl⟩ := hC; exact exec_load (ld3 _ n.h)) ?_; simp only [List.set_cons_succ, List.set_cons_zero]) | (refine wpV_val rfl rfl rfl rfl rfl _ (fun w hC => by obtain ⟨n, rfl⟩ := hC; exact exec_load (ld4 _ n.h)) ?_; simp only [List.set_cons_succ, List.set_cons_zero]) | (refine wpV_look rfl rfl rfl rfl rfl (fun K hK => ?_); go_big_quiet_op; refine hK _ ?_; clear hK K))
        refine wpV_mk rfl rfl rfl [] rfl (fun vs w7 hC _ => yields_call (by kernel_rfl) ?_) (fun vs v w7 hC hV hF => ?_)
        · obtain ⟨⟨w7, hk, -⟩, rfl⟩ := hC
          exact htS w7 _ (fun w8 g8 => ⟨_, rfl, ⟨Keep.of_grow [] g8, trivial⟩, by simp [V]⟩)
        obtain rfl := hV.1 rfl
        clear hV hC hF w7
        simp only [List.set_cons_succ, List.set_cons_zero]
        repeat (first | (refine wpV_skp rfl rfl ?_; simp only [List.set_cons_succ, List.set_cons_zero]) | (refine wpV_val rfl rfl rfl rfl rfl _ (fun w hC => by obtain ⟨n, rfl⟩ := hC; exact exec_load (ld1 _ n.h)) ?_; simp only [List.set_cons_succ, List.set_cons_zero]) | (refine wpV_val rfl rfl rfl rfl rfl _ (fun w hC => by obtain ⟨n, rfl⟩ := hC; exact exec_load (ld2 _ n.h)) ?_; simp only [List.set_cons_succ, List.set_cons_zero]) | (refine wpV_val rfl rfl rfl rfl rfl _ (fun w hC => by obtain ⟨n, rfl⟩ := hC; exact exec_load (ld3 _ n.h)) ?_; simp only [List.set_cons_succ, List.set_cons_zero]) | (refine wpV_val rfl rfl rfl rfl rfl _ (fun w hC => by obtain ⟨n, rfl⟩ := hC; exact exec_load (ld4 _ n.h)) ?_; simp only [List.set_cons_succ, List.set_cons_zero]) | (refine wpV_look rfl rfl rfl rfl rfl (fun K hK => ?_); go_big_quiet_op; refine hK _ ?_; clear hK K))
        refine wpV_mk rfl rfl rfl [] rfl (fun vs w7 hC _ => yields_call (by kernel_rfl) ?_) (fun vs v w7 hC hV hF => ?_)
        · obtain ⟨⟨w7, hk, -⟩, rfl⟩ := hC
          exact hrS w7 _ (fun w8 g8 => ⟨_, rfl, ⟨Keep.of_grow [] g8, trivial⟩, by simp [V]⟩)
        obtain rfl := hV.2.1 rfl
        clear hV hC hF w7
        simp only [List.set_cons_succ, List.set_cons_zero]
        repeat (first | (refine wpV_skp rfl rfl ?_; simp only [List.set_cons_succ, List.set_cons_zero]) | (refine wpV_val rfl rfl rfl rfl rfl _ (fun w hC => by obtain ⟨n, rfl⟩ := hC; exact exec_load (ld1 _ n.h)) ?_; simp only [List.set_cons_succ, List.set_cons_zero]) | (refine wpV_val rfl rfl rfl rfl rfl _ (fun w hC => by obtain ⟨n, rfl⟩ := hC; exact exec_load (ld2 _ n.h)) ?_; simp only [List.set_cons_succ, List.set_cons_zero]) | (refine wpV_val rfl rfl rfl rfl rfl _ (fun w hC => by obtain ⟨n, rfl⟩ := hC; exact exec_load (ld3 _ n.h)) ?_; simp only [List.set_cons_succ, List.set_cons_zero]) | (refine wpV_val rfl rfl rfl rfl rfl _ (fun w hC => by obtain ⟨n, rfl⟩ := hC; exact exec_load (ld4 _ n.h)) ?_; simp only [List.set_cons_succ, List.set_cons_zero]) | (refine wpV_look rfl rfl rfl rfl rfl (fun K hK => ?_); go_big_quiet_op; refine hK _ ?_; clear hK K))
        refine wpV_mk rfl rfl rfl [] rfl (fun vs w7 hC _ => yields_call (by kernel_rfl) ?_) (fun vs v w7 hC hV hF => ?_)
        · obtain ⟨⟨w7, hk, -⟩, rfl⟩ := hC
          exact haw w7 _ (fun w8 g8 => ⟨_, rfl, ⟨Keep.of_grow [] g8, trivial⟩, by simp [V]⟩)
        obtain rfl := hV.2.2.2 rfl
        clear hV hC hF w7
        simp only [List.set_cons_succ, List.set_cons_zero]
        repeat (first | (refine wpV_skp rfl rfl ?_; simp only [List.set_cons_succ, List.set_cons_zero]) | (refine wpV_val rfl rfl rfl rfl rfl _ (fun w hC => by obtain ⟨n, rfl⟩ := hC; exact exec_load (ld1 _ n.h)) ?_; simp only [List.set_cons_succ, List.set_cons_zero]) | (refine wpV_val rfl rfl rfl rfl rfl _ (fun w hC => by obtain ⟨n, rfl⟩ := hC; exact exec_load (ld2 _ n.h)) ?_; simp only [List.set_cons_succ, List.set_cons_zero]) | (refine wpV_val rfl rfl rfl rfl rfl _ (fun w hC => by obtain ⟨n, rfl⟩ := hC; exact exec_load (ld3 _ n.h)) ?_; simp only [List.set_cons_succ, List.set_cons_zero]) | (refine wpV_val rfl rfl rfl rfl rfl _ (fun w hC => by obtain ⟨n, rfl⟩ := hC; exact exec_load (ld4 _ n.h)) ?_; simp only [List.set_cons_succ, List.set_cons_zero]) | (refine wpV_look rfl rfl rfl rfl rfl (fun K hK => ?_); go_big_quiet_op; refine hK _ ?_; clear hK K))
        refine wpV_nil ?_
        intro w11 hC hF
        obtain ⟨⟨w11, hk11, -⟩, rfl⟩ := hC
        have hf := hR _ (G10.trans hk11.grow)
        clear hF hR ld1 ld2 ld3 ld4
        go_wp2_with fail
        exact hf
end Go.Proofs.Ytekfggeedljdkaa
