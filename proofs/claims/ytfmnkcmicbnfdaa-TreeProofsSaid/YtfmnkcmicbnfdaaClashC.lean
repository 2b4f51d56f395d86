/- Claims: Clash. -/
import Derived.Test.YtfmnkcmicbnfdaaForgC
namespace Go.Proofs.Ytfmnkcmicbnfdaa
open Go Go.RowKit

theorem eq_blk (xs ys : List UInt8) (hx : xs.length = 16) (hy : ys.length = 16) (w : World) : (Op.equalIn 10000 33 (.agg (xs.map B).toArray) (.agg (ys.map B).toArray)).run Try.prog w = .ok (xs == ys) w :=
  run_equalIn_bytes w 9998 33 5 16 Try.underlying33 Try.underlying5 (sizeOf_of (by kernel_rfl)) xs ys hx hy
theorem cells_tag {w : World} {g off : Nat} {c : Clm} (h : Cells w g off (clV c)) : Cells w g (off + 2) (c.tag.map B) :=
  h.sub (ys := c.tag.map B) (k := 2) fun i hi => by
    rw [List.length_map, c.h] at hi
    rw [clV_tag c i hi, List.getElem_map]
theorem ldK_tag {w : World} {g : Nat} {c : Clm} (h : Cells w g 0 (clV c)) : ∀ w', Keep [] w w' → (Instr.loadAt 123 (.pointer (some ⟨g, 2, none⟩))).run Try.prog w' = .ok (.agg (c.tag.map B).toArray) w' := fun w' k => ld_tag (off := 0) (h.keep k (by simp))
theorem ldK_clm {w : World} {g : Nat} {c : Clm} (h : Cells w g 0 (clV c)) : ∀ w', Keep [] w w' → (Instr.loadAt 148 (.pointer (some ⟨g, 0, none⟩))).run Try.prog w' = .ok (.agg (clV c).toArray) w' := fun w' k => ld_clm (h.keep k (by simp))

set_option maxRecDepth 100000 in
set_option maxHeartbeats 2000000 in
theorem clashF (c x : Clm) (q : Nat) (w : World) (hft : x.fit) (h : Cells w q 0 (clV c)) (R : Ending → World → Prop) (hR : ∀ w', Grow w w' → R (.returned (.bool (likeS c x))) w') :
    Calls Try.prog 85 #[.agg (clV x).toArray, .pointer (some ⟨q, 0, none⟩)] w R := by
  have hml : maxLen = 9223372036854775807 := rfl
  have o1 : Own (w.alloc (.cells (clV x).toArray 148)) 148 1 (some ⟨w.heap.size, 0, none⟩) 35 35 (clV x) := Own.made (n := 35) (sz := 1) (heap_alloc_new w (.cells (clV x).toArray 148)) (clV_len x) (by omega) (clV_one x)
  have ga := Grow.alloc w (.cells (clV x).toArray 148)
  have hq0 := h.keep (Keep.of_grow [] ga) (by simp)
  obtain ⟨g', off', eg, hx0⟩ := o1.sl.hat (by omega)
  cases eg
  have hright := rightC x hft
  have hsa := shortMC c.tag c.h
  have hsb := shortMC x.tag x.h
  have heb := eq_blk (shortS c.tag) (shortS x.tag) (shortS_len _ c.h) (shortS_len _ x.h)
  have hs0 : (str x.key).toList = x.key := str_toList _
  have hs1 : (str x.text).toList = x.text := str_toList _
  have hs2 : (str c.key).toList = c.key := str_toList _
  have hs3 : (str c.text).toList = c.text := str_toList _
  obtain ⟨b1, hb1⟩ : ∃ b, (c.key == x.key) = b := ⟨_, rfl⟩
  obtain ⟨b2, hb2⟩ : ∃ b, (c.text == x.text) = b := ⟨_, rfl⟩
  obtain ⟨b3, hb3⟩ : ∃ b, (shortS c.tag == shortS x.tag) = b := ⟨_, rfl⟩
  obtain ⟨b4, hb4⟩ : ∃ b, rightS x = b := ⟨_, rfl⟩
  obtain ⟨b, hb⟩ : ∃ b, likeS c x = b := ⟨_, rfl⟩
  have hbb : b = (b1 && (!b2 && (b3 && b4))) := by rw [← hb, likeS, hb1, hb2, hb3, hb4]
  rw [hb] at hR
  simp only [hb3] at heb
  simp only [hb4] at hright
  have d0 := hq0.at (clV_key c)
  have d1 := hq0.at (clV_text c)
  have e0 := hx0.at (clV_key x)
  have e1 := hx0.at (clV_text x)
  simp only [Nat.add_zero, Nat.zero_add] at d0 d1 e0 e1
  have ldA := ldK_tag hq0
  have ldB := ldK_tag hx0
  have ldX := ldK_clm hx0
  obtain ⟨V, hV⟩ : ∃ V, V = clV x := ⟨_, rfl⟩
  rw [← hV] at e0 e1 d0 d1 ga ⊢
  simp only [← hV] at ldA ldB ldX hright
  obtain ⟨s0, hs0'⟩ : ∃ s, s = x.key := ⟨_, rfl⟩
  obtain ⟨s1, hs1'⟩ : ∃ s, s = x.text := ⟨_, rfl⟩
  obtain ⟨s2, hs2'⟩ : ∃ s, s = c.key := ⟨_, rfl⟩
  obtain ⟨s3, hs3'⟩ : ∃ s, s = c.text := ⟨_, rfl⟩
  rw [← hs0'] at hs0 hb1 e0
  rw [← hs1'] at hs1 hb2 e1
  rw [← hs2'] at hs2 hb1 d0
  rw [← hs3'] at hs3 hb2 d1
  obtain ⟨TA, hTA⟩ : ∃ T, T = (c.tag.map B).toArray := ⟨_, rfl⟩
  obtain ⟨TB, hTB⟩ : ∃ T, T = (x.tag.map B).toArray := ⟨_, rfl⟩
  obtain ⟨SA, hSA⟩ : ∃ T, T = ((shortS c.tag).map B).toArray := ⟨_, rfl⟩
  obtain ⟨SB, hSB⟩ : ∃ T, T = ((shortS x.tag).map B).toArray := ⟨_, rfl⟩
  simp only [← hTA, ← hSA] at hsa ldA
  simp only [← hTB, ← hSB] at hsb ldB
  simp only [← hSA, ← hSB] at heb
  have Hbb := Lib.hid hbb
  obtain ⟨w1, hw1⟩ : ∃ w1, w1 = w.alloc (.cells V.toArray 148) := ⟨_, rfl⟩
  obtain ⟨qx, hqx⟩ : ∃ q, q = w.heap.size := ⟨_, rfl⟩
  rw [← hw1] at e0 e1 d0 d1 ga
  simp only [← hw1, ← hqx] at ldA ldB ldX
  rw [← hqx] at e0 e1
  have f0 := KW.cell (fp := []) (p0 := tt) d0 (by simp)
  have f1 := KW.cell (fp := []) (p0 := tt) d1 (by simp)
  have f2 := KW.cell (fp := []) (p0 := tt) e0 (by simp)
  have f3 := KW.cell (fp := []) (p0 := tt) e1 (by simp)
  clear hb hb3 hb4 hbb hV hs0' hs1' hs2' hs3' hTA hTB hSA hSB hq0 hx0 o1 h d0 d1 e0 e1
  have hcs : (b1 = false ∧ b = false) ∨ (b1 = true ∧ b2 = true ∧ b = false) ∨ (b1 = true ∧ b2 = false ∧ b3 = false ∧ b = false) ∨ (b1 = true ∧ b2 = false ∧ b3 = true ∧ b = b4) := by
    have := Hbb.out
    cases b1 <;> cases b2 <;> cases b3 <;> simp_all
  clear Hbb
  rcases hcs with ⟨rfl, rfl⟩ | ⟨rfl, rfl, rfl⟩ | ⟨rfl, rfl, rfl, rfl⟩ | ⟨rfl, rfl, rfl, rfl⟩
  · go_enter Try.func85, Try.ntmps85
    go_upto_region 1 with (fail)
    change Code.wp _ _ _ ⟨_, _⟩ (w.alloc (.cells V.toArray 148))
    rw [← hw1, ← hqx]
    clear hw1 hqx
    refine wp_region_R (segT w1 [(15, pIs (.agg SA)), (18, pIs (.agg SB)), (23, pIs (.bool b4))]) (by kernel_rfl) segT_drew ?_
    unfold segT segK segR
    repeat (first | (refine wpV_skp rfl rfl ?_; simp only [List.set_cons_succ, List.set_cons_zero]) | (refine wpV_look rfl rfl rfl rfl rfl (fun K hK => ?_); go_big_quiet_op; refine hK _ ?_; clear hK K))
    refine wpV_nil ?_
    intro w9 hC hF
    obtain ⟨⟨w9, hkw9, -⟩, rfl⟩ := hC
    clear hF
    have hf := hR _ (ga.trans hkw9.grow)
    clear hR
    go_wp2_with fail
    exact hf
  · go_enter Try.func85, Try.ntmps85
    go_upto_region 1 with (fail)
    change Code.wp _ _ _ ⟨_, _⟩ (w.alloc (.cells V.toArray 148))
    rw [← hw1, ← hqx]
    clear hw1 hqx
    refine wp_region_R (segT w1 [(15, pIs (.agg SA)), (18, pIs (.agg SB)), (23, pIs (.bool b4))]) (by kernel_rfl) segT_drew ?_
    unfold segT segK segR
    repeat (first | (refine wpV_skp rfl rfl ?_; simp only [List.set_cons_succ, List.set_cons_zero]) | (refine wpV_look rfl rfl rfl rfl rfl (fun K hK => ?_); go_big_quiet_op; refine hK _ ?_; clear hK K))
    refine wpV_nil ?_
    intro w9 hC hF
    obtain ⟨⟨w9, hkw9, -⟩, rfl⟩ := hC
    clear hF
    have hf := hR _ (ga.trans hkw9.grow)
    clear hR
    go_wp2_with fail
    exact hf
  · go_enter Try.func85, Try.ntmps85
    go_upto_region 1 with (fail)
    change Code.wp _ _ _ ⟨_, _⟩ (w.alloc (.cells V.toArray 148))
    rw [← hw1, ← hqx]
    clear hw1 hqx
    refine wp_region_R (segT w1 [(15, pIs (.agg SA)), (18, pIs (.agg SB)), (23, pIs (.bool b4))]) (by kernel_rfl) segT_drew ?_
    unfold segT segK segR
    repeat (first | (refine wpV_skp rfl rfl ?_; simp only [List.set_cons_succ, List.set_cons_zero]) | (refine wpV_look rfl rfl rfl rfl rfl (fun K hK => ?_); go_big_quiet_op; refine hK _ ?_; clear hK K))
    repeat (first | (refine wpV_skp rfl rfl ?_; simp only [List.set_cons_succ, List.set_cons_zero]) | (refine wpV_val rfl rfl rfl rfl rfl _ (fun w hC => by obtain ⟨n, rfl⟩ := hC; exact exec_load (ldA _ n.h)) ?_; simp only [List.set_cons_succ, List.set_cons_zero]) | (refine wpV_val rfl rfl rfl rfl rfl _ (fun w hC => by obtain ⟨n, rfl⟩ := hC; exact exec_load (ldB _ n.h)) ?_; simp only [List.set_cons_succ, List.set_cons_zero]) | (refine wpV_look rfl rfl rfl rfl rfl (fun K hK => ?_); go_big_quiet_op; refine hK _ ?_; clear hK K))
    refine wpV_mk rfl rfl rfl [] rfl (fun vs w7 hC _ => yields_call (by kernel_rfl) ?_) (fun vs v w7 hC hV hF => ?_)
    · obtain ⟨⟨w7, hk, -⟩, rfl⟩ := hC
      exact hsa w7 _ (fun w8 g8 => ⟨_, rfl, ⟨Keep.of_grow [] g8, trivial⟩, rfl⟩)
    obtain rfl := hV
    clear hC hF w7
    simp only [List.set_cons_succ, List.set_cons_zero]
    repeat (first | (refine wpV_skp rfl rfl ?_; simp only [List.set_cons_succ, List.set_cons_zero]) | (refine wpV_val rfl rfl rfl rfl rfl _ (fun w hC => by obtain ⟨n, rfl⟩ := hC; exact exec_load (ldA _ n.h)) ?_; simp only [List.set_cons_succ, List.set_cons_zero]) | (refine wpV_val rfl rfl rfl rfl rfl _ (fun w hC => by obtain ⟨n, rfl⟩ := hC; exact exec_load (ldB _ n.h)) ?_; simp only [List.set_cons_succ, List.set_cons_zero]) | (refine wpV_look rfl rfl rfl rfl rfl (fun K hK => ?_); go_big_quiet_op; refine hK _ ?_; clear hK K))
    refine wpV_mk rfl rfl rfl [] rfl (fun vs w7 hC _ => yields_call (by kernel_rfl) ?_) (fun vs v w7 hC hV hF => ?_)
    · obtain ⟨⟨w7, hk, -⟩, rfl⟩ := hC
      exact hsb w7 _ (fun w8 g8 => ⟨_, rfl, ⟨Keep.of_grow [] g8, trivial⟩, rfl⟩)
    obtain rfl := hV
    clear hC hF w7
    simp only [List.set_cons_succ, List.set_cons_zero]
    repeat (first | (refine wpV_skp rfl rfl ?_; simp only [List.set_cons_succ, List.set_cons_zero]) | (refine wpV_val rfl rfl rfl rfl rfl _ (fun w hC => by obtain ⟨n, rfl⟩ := hC; exact exec_load (ldX _ n.h)) ?_; simp only [List.set_cons_succ, List.set_cons_zero]) | (refine wpV_look rfl rfl rfl rfl rfl (fun K hK => ?_); go_big_quiet_op; refine hK _ ?_; clear hK K))
    refine wpV_nil ?_
    intro w9 hC hF
    obtain ⟨⟨w9, hkw9, -⟩, rfl⟩ := hC
    clear hF
    have hf := hR _ (ga.trans hkw9.grow)
    clear hR
    go_wp2_with fail
    exact hf
  · go_enter Try.func85, Try.ntmps85
    go_upto_region 1 with (fail)
    change Code.wp _ _ _ ⟨_, _⟩ (w.alloc (.cells V.toArray 148))
    rw [← hw1, ← hqx]
    clear hw1 hqx
    refine wp_region_R (segT w1 [(15, pIs (.agg SA)), (18, pIs (.agg SB)), (23, pIs (.bool b))]) (by kernel_rfl) segT_drew ?_
    unfold segT segK segR
    repeat (first | (refine wpV_skp rfl rfl ?_; simp only [List.set_cons_succ, List.set_cons_zero]) | (refine wpV_look rfl rfl rfl rfl rfl (fun K hK => ?_); go_big_quiet_op; refine hK _ ?_; clear hK K))
    repeat (first | (refine wpV_skp rfl rfl ?_; simp only [List.set_cons_succ, List.set_cons_zero]) | (refine wpV_val rfl rfl rfl rfl rfl _ (fun w hC => by obtain ⟨n, rfl⟩ := hC; exact exec_load (ldA _ n.h)) ?_; simp only [List.set_cons_succ, List.set_cons_zero]) | (refine wpV_val rfl rfl rfl rfl rfl _ (fun w hC => by obtain ⟨n, rfl⟩ := hC; exact exec_load (ldB _ n.h)) ?_; simp only [List.set_cons_succ, List.set_cons_zero]) | (refine wpV_look rfl rfl rfl rfl rfl (fun K hK => ?_); go_big_quiet_op; refine hK _ ?_; clear hK K))
    refine wpV_mk rfl rfl rfl [] rfl (fun vs w7 hC _ => yields_call (by kernel_rfl) ?_) (fun vs v w7 hC hV hF => ?_)
    · obtain ⟨⟨w7, hk, -⟩, rfl⟩ := hC
      exact hsa w7 _ (fun w8 g8 => ⟨_, rfl, ⟨Keep.of_grow [] g8, trivial⟩, rfl⟩)
    obtain rfl := hV
    clear hC hF w7
    simp only [List.set_cons_succ, List.set_cons_zero]
    repeat (first | (refine wpV_skp rfl rfl ?_; simp only [List.set_cons_succ, List.set_cons_zero]) | (refine wpV_val rfl rfl rfl rfl rfl _ (fun w hC => by obtain ⟨n, rfl⟩ := hC; exact exec_load (ldA _ n.h)) ?_; simp only [List.set_cons_succ, List.set_cons_zero]) | (refine wpV_val rfl rfl rfl rfl rfl _ (fun w hC => by obtain ⟨n, rfl⟩ := hC; exact exec_load (ldB _ n.h)) ?_; simp only [List.set_cons_succ, List.set_cons_zero]) | (refine wpV_look rfl rfl rfl rfl rfl (fun K hK => ?_); go_big_quiet_op; refine hK _ ?_; clear hK K))
    refine wpV_mk rfl rfl rfl [] rfl (fun vs w7 hC _ => yields_call (by kernel_rfl) ?_) (fun vs v w7 hC hV hF => ?_)
    · obtain ⟨⟨w7, hk, -⟩, rfl⟩ := hC
      exact hsb w7 _ (fun w8 g8 => ⟨_, rfl, ⟨Keep.of_grow [] g8, trivial⟩, rfl⟩)
    obtain rfl := hV
    clear hC hF w7
    simp only [List.set_cons_succ, List.set_cons_zero]
    repeat (first | (refine wpV_skp rfl rfl ?_; simp only [List.set_cons_succ, List.set_cons_zero]) | (refine wpV_val rfl rfl rfl rfl rfl _ (fun w hC => by obtain ⟨n, rfl⟩ := hC; exact exec_load (ldX _ n.h)) ?_; simp only [List.set_cons_succ, List.set_cons_zero]) | (refine wpV_look rfl rfl rfl rfl rfl (fun K hK => ?_); go_big_quiet_op; refine hK _ ?_; clear hK K))
    refine wpV_mk rfl rfl rfl [] rfl (fun vs w7 hC _ => yields_call (by kernel_rfl) ?_) (fun vs v w7 hC hV hF => ?_)
    · obtain ⟨⟨w7, hk, -⟩, rfl⟩ := hC
      exact hright w7 _ (fun w8 g8 => ⟨_, rfl, ⟨Keep.of_grow [] g8, trivial⟩, rfl⟩)
    obtain rfl := hV
    clear hC hF w7
    simp only [List.set_cons_succ, List.set_cons_zero]
    repeat (first | (refine wpV_skp rfl rfl ?_; simp only [List.set_cons_succ, List.set_cons_zero]) | (refine wpV_look rfl rfl rfl rfl rfl (fun K hK => ?_); go_big_quiet_op; refine hK _ ?_; clear hK K))
    refine wpV_nil ?_
    intro w9 hC hF
    obtain ⟨⟨w9, hkw9, -⟩, rfl⟩ := hC
    clear hF
    have hf := hR _ (ga.trans hkw9.grow)
    clear hR
    go_wp2_with fail
    exact hf
set_option maxRecDepth 100000 in
set_option maxHeartbeats 1000000 in
theorem idxLike (x : Clm) (q : Nat) (lo : Option Addr) (n c : Nat) (cs : List Clm) (hn : n = cs.length) (hft : Hid (∀ y ∈ cs, Clm.fit y)) (w : World) (s : Sl w 35 lo n c (clVs cs)) (h : Cells w q 0 (clV x)) (R : Ending → World → Prop)
    (hR : ∀ r w', decide (0 ≤ r) = cs.any (likeS x) → Grow w w' → R (.returned (.int .i64 r)) w') :
    Calls Try.prog 103 #[.slice lo n c, .func (.func 85) #[] #[.pointer (some ⟨q, 0, none⟩)]] w R := by
  have hml : maxLen = 9223372036854775807 := rfl
  have hks := s.hle
  have hkm := s.hcap
  have Hn := Lib.hid hn
  clear hn
  go_enter Try.func103, Try.ntmps103
  go_wp2_with fail
  go_loopw [8] (fun vi wr => ∃ i : Nat, vi = .int .i64 (i : Int) ∧ i ≤ n ∧ Hid ((cs.take i).any (likeS x) = false) ∧ Grow w wr) (fun vi _ => n - (intOf vi).toNat)
  case atStart => exact ⟨0, by simp, by omega, Lib.hid (by simp), Grow.refl _⟩
  case round =>
    obtain ⟨i, rfl, hi, hany, g⟩ := hrel
    by_cases hlt : i < n
    · obtain ⟨gb, off, eg, hcs⟩ := (s.grow g).hat (by omega)
      subst eg
      have hlt2 : i < cs.length := by rw [← Hn.out]; exact hlt
      have hci := cells_clm hcs i hlt2
      have hcl := clashF x (cs[i]'hlt2) q wr (hft.out _ (List.getElem_mem hlt2)) (h.keep (Keep.of_grow [] g) (by simp))
      have hany2 : Hid (∀ b, likeS x cs[i] = b → (cs.take (i + 1)).any (likeS x) = b) := Lib.hid (fun b e => by
        rw [List.take_add_one, List.getElem?_eq_getElem hlt2, List.any_append, hany.out]; simpa using e)
      have hrg : wr.rangeAt gb (off + i * 35) (clV cs[i]) := fun j v hj => hci.at hj
      have hsz : (Try.prog.info? 148).map (·.size) = some (clV cs[i]).length := by rw [clV_len]; exact i35
      have htk : Hid ((cs.take (i + 1)).any (likeS x) = true → cs.any (likeS x) = true) := Lib.hid (fun e => by
        rw [List.any_eq_true] at e ⊢
        obtain ⟨y, hy, hp⟩ := e
        exact ⟨y, List.mem_of_mem_take hy, hp⟩)
      obtain ⟨b, hb⟩ : ∃ b, b = likeS x cs[i] := ⟨_, rfl⟩
      have hb2 := hany2.out b hb.symm
      simp only [← hb] at hcl
      obtain ⟨V, hV⟩ : ∃ V, V = clV cs[i] := ⟨_, rfl⟩
      rw [← hV] at hrg hsz
      simp only [← hV] at hcl
      have Hb2 := Lib.hid hb2
      have hR0 := Lib.hid hR
      clear hci hb hany2 hb2 hV hcs hlt2 hany hR
      go_wp2_with (refine wpList_load_mid rfl 148 _ rfl gb (off + i * 35) rfl V _ hrg Try.underlying148 rfl hsz ?_)
      refine hcl _ ?_
      clear hcl hrg hsz
      intro w2 g2
      have G2 := g.trans g2
      clear g g2
      cases b with
      | true =>
        have hf := hR0.out (i : Int) w2 (by rw [htk.out Hb2.out]; simp) G2
        clear hR0
        go_wp2_with fail
        exact hf
      | false =>
        go_wp2_with fail
        exact ⟨⟨i + 1, by go_num, by omega, Hb2, G2⟩, by simp [intOf]; omega⟩
    · obtain rfl : i = n := by omega
      have hf := hR (-1) wr (by rw [List.take_of_length_le (by rw [← Hn.out]; exact Nat.le_refl _)] at hany; rw [hany.out]; rfl) g
      clear hR hany
      go_wp2_with fail
      exact hf
set_option maxRecDepth 100000 in
set_option maxHeartbeats 1000000 in
theorem hasLike (x : Clm) (q : Nat) (lo : Option Addr) (n c : Nat) (cs : List Clm) (hn : n = cs.length) (hft : Hid (∀ y ∈ cs, Clm.fit y)) (w : World) (s : Sl w 35 lo n c (clVs cs)) (h : Cells w q 0 (clV x)) (R : Ending → World → Prop)
    (hR : ∀ w', Grow w w' → R (.returned (.bool (cs.any (likeS x)))) w') :
    Calls Try.prog 83 #[.slice lo n c, .func (.func 85) #[] #[.pointer (some ⟨q, 0, none⟩)]] w R := by
  have hi := idxLike x q lo n c cs hn hft w s h
  obtain ⟨b, hb⟩ : ∃ b, b = cs.any (likeS x) := ⟨_, rfl⟩
  rw [← hb] at hR
  simp only [← hb] at hi
  clear hb hn s h
  go_enter Try.func83, Try.ntmps83
  go_wp2_with fail
  refine hi _ ?_
  clear hi
  intro r w2 hr g2
  have hf := hR w2 g2
  rw [← hr] at hf
  clear hr hR
  go_wp2_with fail
  exact hf
theorem clashN_mono (cs : List Clm) (i n : Nat) (h : i ≤ n) (hi : clashN cs i = true) : clashN cs n = true := by
  induction n with
  | zero => obtain rfl : i = 0 := by omega
            exact hi
  | succ n ih =>
    by_cases e : i = n + 1
    · subst e; exact hi
    · rw [clashN, ih (by omega), Bool.true_or]
theorem clashN_succ (cs : List Clm) (i : Nat) (hi : i < cs.length) : clashN cs (i + 1) = (clashN cs i || clashS1 (cs.take i) cs[i]) := by
  rw [clashN, List.getElem?_eq_getElem hi]
set_option maxRecDepth 100000 in
set_option maxHeartbeats 2000000 in
theorem clashC (lo : Option Addr) (n c : Nat) (cs : List Clm) (hn : n = cs.length) (hfit : ∀ x ∈ cs, x.fit) (w : World) (s : Sl w 35 lo n c (clVs cs)) (R : Ending → World → Prop) (hR : ∀ w', Grow w w' → R (.returned (.bool (clashS cs))) w') :
    Calls Try.prog 54 #[.slice lo n c] w R := by
  have hml : maxLen = 9223372036854775807 := rfl
  have hmf : ∀ (fn : Fn) (first cap : Array Value) (w : World), (Instr.makeFunc fn first cap).run Try.prog w = .ok (.func fn first cap) w := fun _ _ _ _ => rfl
  have hks := s.hle
  have hkm := s.hcap
  have Hn := Lib.hid hn
  have Hfit := Lib.hid hfit
  have hR0 := Lib.hid hR
  clear hn hfit hR
  go_enter Try.func54, Try.ntmps54
  go_wp2_with fail
  go_loopw [8] (fun vi wr => ∃ i : Nat, vi = .int .i64 (i : Int) ∧ i ≤ n ∧ Hid (clashN cs i = false) ∧ Grow w wr) (fun vi _ => n - (intOf vi).toNat)
  case atStart => exact ⟨0, by simp, by omega, Lib.hid rfl, Grow.refl _⟩
  case round =>
    obtain ⟨i, rfl, hi, hfo, g⟩ := hrel
    by_cases hlt : i < n
    · have hlt2 : i < cs.length := by rw [← Hn.out]; exact hlt
      have sr := s.grow g
      obtain ⟨gb, off, eg, hcs⟩ := sr.hat (by omega)
      obtain ⟨x, hx⟩ : ∃ x, x = cs[i]'hlt2 := ⟨_, rfl⟩
      have hci : Cells wr gb (off + i * 35) (clV x) := by rw [hx]; exact cells_clm hcs i hlt2
      obtain ⟨so, sc, hcut, sk, -⟩ := run_cut0 TCl sr (i : Int) i rfl (by omega)
      rw [clVs_take cs i (by omega)] at sk
      subst eg
      have hrg : wr.rangeAt gb (off + i * 35) (clV x) := fun j v hj => hci.at hj
      have hsz : (Try.prog.info? 148).map (·.size) = some (clV x).length := by rw [clV_len]; exact i35
      have hVl := clV_len x
      have hV1 := clV_one x
      have hmade := clV_made x
      have hright := rightC x (Hfit.out _ (by rw [hx]; exact List.getElem_mem hlt2))
      have hftk : Hid (∀ y ∈ cs.take i, Clm.fit y) := Lib.hid (fun y hy => Hfit.out y (List.mem_of_mem_take hy))
      have hhas := fun q w' so sc s h => hasLike x q so i sc (cs.take i) (by rw [List.length_take]; omega) hftk w' s h
      have hnext : Hid (clashN cs (i + 1) = (rightS x && (cs.take i).any (likeS x))) := Lib.hid (by rw [clashN_succ cs i hlt2, hfo.out, Bool.false_or, hx]; rfl)
      have hyes : Hid (clashN cs (i + 1) = true → clashS cs = true) := Lib.hid (fun e => clashN_mono cs (i + 1) cs.length (by omega) e)
      obtain ⟨r, hr⟩ : ∃ m, m = rightS x := ⟨_, rfl⟩
      obtain ⟨a, ha⟩ : ∃ m, m = (cs.take i).any (likeS x) := ⟨_, rfl⟩
      rw [← hr, ← ha] at hnext
      simp only [← hr] at hright
      simp only [← ha] at hhas
      obtain ⟨V, hV⟩ : ∃ V, V = clV x := ⟨_, rfl⟩
      rw [← hV] at hrg hsz hVl hV1
      simp only [← hV] at hright hhas
      clear hr ha hV hci hcs hx hlt2 hfo sr hmade hftk
      obtain ⟨o4, ga1, th1, al1⟩ := newvarZ (t := 148) wr clZ clZ_len clZ_one (by omega) hVl hV1
      have hszF : (Try.prog.info? 148).map (·.size) = some V.toArray.size := by rw [List.size_toArray, hVl]; exact i35
      go_upto_region 4 with (first | (refine wpList_load_mid rfl 148 _ rfl gb (off + i * 35) rfl V _ hrg Try.underlying148 rfl hsz ?_) | (refine wpList_store_mid rfl 148 _ _ rfl wr.heap.size 0 V.toArray rfl rfl th1 hszF al1 ?_))
      change Code.wp _ _ _ ⟨_, _⟩ ((wr.alloc (.cells clZ.toArray 148)).setCells wr.heap.size 0 V)
      have G3 := g.trans ga1
      have sk3 := sk.grow ga1
      obtain ⟨q, hq⟩ : ∃ q, q = wr.heap.size := ⟨_, rfl⟩
      generalize (wr.alloc (.cells clZ.toArray 148)).setCells wr.heap.size 0 V = w3 at *
      rw [← hq] at o4 ⊢
      clear hq th1 al1 ga1 hszF hrg sk g
      obtain ⟨g', off', eg, hcs⟩ := o4.sl.hat (by omega)
      cases eg
      have hrg4 := own_range o4 (by omega)
      have hr3 := hright w3
      clear hright
      go_wp2_with (refine wpList_load_mid rfl 148 _ rfl q 0 rfl V _ hrg4 Try.underlying148 rfl hsz ?_)
      refine hr3 _ ?_
      clear hr3 hrg4
      intro w5 g5
      have G5 := G3.trans g5
      cases r with
      | false =>
        have hnx : Hid (clashN cs (i + 1) = false) := Lib.hid (by rw [hnext.out]; rfl)
        clear hnext hyes hhas hcs o4 G3 g5
        go_wp2_with fail
        exact ⟨⟨i + 1, by go_num, by omega, hnx, G5⟩, by simp [intOf]; omega⟩
      | true =>
        have hh5 := hhas q w5 so sc (sk3.grow g5) (hcs.keep (Keep.of_grow [] g5) (by simp))
        clear hhas hcs o4 G3 g5
        go_wp2_with fail
        refine hh5 _ ?_
        clear hh5
        intro w6 g6
        have G6 := G5.trans g6
        clear G5 g6
        cases a with
        | false =>
          have hnx : Hid (clashN cs (i + 1) = false) := Lib.hid (by rw [hnext.out]; rfl)
          clear hnext hyes
          go_wp2_with fail
          exact ⟨⟨i + 1, by go_num, by omega, hnx, G6⟩, by simp [intOf]; omega⟩
        | true =>
          have hf := hR0.out w6 G6
          rw [hyes.out (by rw [hnext.out]; rfl)] at hf
          clear hnext hyes hR0
          go_wp2_with fail
          exact hf
    · obtain rfl : i = n := by omega
      have hf := hR0.out wr g
      have e : clashS cs = false := by rw [← hfo.out, Hn.out]; rfl
      rw [e] at hf
      clear hR0 hfo e
      go_wp2_with fail
      exact hf
end Go.Proofs.Ytfmnkcmicbnfdaa
