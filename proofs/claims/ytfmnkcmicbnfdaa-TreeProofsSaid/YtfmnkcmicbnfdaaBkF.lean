/- Claims: right; those functions that are handed on. -/
import Derived.Test.YtfmnkcmicbnfdaaGHt2
namespace Go.Proofs.Ytfmnkcmicbnfdaa
open Go Go.RowKit

/-- Texts of a claim that can be reckoned. -/
def Clm.fit (x : Clm) : Prop := x.key.length ≤ 900000 ∧ x.text.length ≤ 900000
set_option maxRecDepth 100000 in
set_option maxHeartbeats 1000000 in
theorem rightC (x : Clm) (hx : x.fit) (w : World) (R : Ending → World → Prop) (hR : ∀ w', Grow w w' → R (.returned (.bool (rightS x))) w') :
    Calls Try.prog 82 #[.agg (clV x).toArray] w R := by
  have hml : maxLen = 9223372036854775807 := rfl
  obtain ⟨hxk, hxt⟩ := hx
  have heq := eq_hash x.tag (macS x.key x.text) x.h (macS_len _ _)
  rw [show (x.tag == macS x.key x.text) = rightS x from rfl] at heq
  have hmac := fun ao c w' sk lo cap vs s pt => macTop ao c x.key lo cap vs [x.text] w' sk hxk s pt (by simp) (by simpa using hxt)
  simp only [List.flatten_cons, List.flatten_nil, List.append_nil, List.length_cons, List.length_nil, Nat.zero_add] at hmac
  have hVl := clV_len x
  have hV1 := clV_one x
  have k0 := clV_key x
  have k1 := clV_text x
  have k2 : ∀ i v, (x.tag.map B)[i]? = some v → (clV x)[2 + i]? = some v := fun i v hv => by
    obtain ⟨hi, hv⟩ := List.getElem?_eq_some_iff.1 hv
    have hi' := hi
    rw [List.length_map, x.h] at hi'
    rw [clV_tag _ i hi', ← hv, List.getElem_map]
  obtain ⟨V, hV⟩ : ∃ V, V = clV x := ⟨_, rfl⟩
  rw [← hV] at hVl hV1 k0 k1 ⊢
  simp only [← hV] at k2
  have hTl : (x.tag.map B).length = 32 := by rw [List.length_map]; exact x.h
  obtain ⟨r, hr⟩ : ∃ r, r = rightS x := ⟨_, rfl⟩
  rw [← hr] at hR
  simp only [← hr] at heq
  obtain ⟨T, hT⟩ : ∃ T, T = x.tag.map B := ⟨_, rfl⟩
  simp only [← hT] at heq k2 hTl
  obtain ⟨key, hkey⟩ : ∃ k, k = x.key := ⟨_, rfl⟩
  obtain ⟨text, htext⟩ : ∃ k, k = x.text := ⟨_, rfl⟩
  simp only [← hkey, ← htext] at hmac k0 k1 hxk hxt heq
  obtain ⟨A, hA⟩ : ∃ T, T = ((macS key text).map B).toArray := ⟨_, rfl⟩
  simp only [← hA] at hmac heq
  have cvk := fun w => conv_str (P := Try.prog) (src := 9) (dst := 27) (e := 5) Try.underlying9 Try.underlying27 Try.underlying5 (str key) key rfl (by omega) w
  have cvt := fun w => conv_str (P := Try.prog) (src := 9) (dst := 27) (e := 5) Try.underlying9 Try.underlying27 Try.underlying5 (str text) text rfl (by omega) w
  have o1 : Own (w.alloc (.cells V.toArray 148)) 148 1 (some ⟨w.heap.size, 0, none⟩) 35 35 V := Own.made (n := 35) (sz := 1) (heap_alloc_new w (.cells V.toArray 148)) (by simp [hVl]) (by omega) (by simpa using hV1)
  have ga := Grow.alloc w (.cells V.toArray 148)
  have K2 := Lib.hid k2
  have Cvk := Lib.hid cvk
  have Cvt := Lib.hid cvt
  clear hV hr hT hkey htext hA k2 hxk hxt cvk cvt
  go_enter Try.func82, Try.ntmps82
  go_upto_region 1 with (fail)
  change Code.wp _ _ _ ⟨_, _⟩ (w.alloc (.cells V.toArray 148))
  obtain ⟨q, hq⟩ : ∃ q, q = w.heap.size := ⟨_, rfl⟩
  generalize w.alloc (.cells V.toArray 148) = w1 at *
  rw [← hq] at o1 ⊢
  clear hq
  obtain ⟨g', off', eg, hcs⟩ := o1.sl.hat (by omega)
  cases eg
  have e0 := KW.cell (fp := []) (p0 := tt) (hcs.at k0) (by simp)
  have e1 := KW.cell (fp := []) (p0 := tt) (hcs.at k1) (by simp)
  simp only [Nat.add_zero, Nat.zero_add] at e0 e1
  have hcT : Cells w1 q 2 T := hcs.sub (k := 2) (fun i hi => K2.out i _ (List.getElem?_eq_getElem hi))
  have ldT : ∀ w', Keep [] w1 w' → (Instr.loadAt 123 (.pointer (some ⟨q, 2, none⟩))).run Try.prog w' = .ok (.agg T.toArray) w' := fun w' k =>
    run_ld Try.underlying123 rfl (by rw [hTl]; kernel_rfl) (hcT.keep k (by simp))
  clear k0 k1 K2 hcs o1 hVl hV1
  refine wp_region_R (segT w1 [(4, pBy key), (7, pBy text), (8, pPt [text]), (9, pIs (.agg A))]) (by kernel_rfl) segT_drew ?_
  unfold segT segK segR
  repeat (first | (refine wpV_skp rfl rfl ?_; simp only [List.set_cons_succ, List.set_cons_zero]) | (refine wpV_val rfl rfl rfl rfl rfl _ (fun w hC => by obtain ⟨n, rfl⟩ := hC; exact exec_load (ldT _ n.h)) ?_; simp only [List.set_cons_succ, List.set_cons_zero]) | (refine wpV_look rfl rfl rfl rfl rfl (fun K hK => ?_); go_big_quiet_op; refine hK _ ?_; clear hK K))
  refine wpV_mk rfl rfl rfl [] (by kernel_rfl) (fun vs w7 hC hF => ?_) (fun vs v w7 hC hV hF => ?_)
  · obtain ⟨⟨w7, hk, -⟩, rfl⟩ := hC
    obtain ⟨c, w8, hr, s8, g8⟩ := Cvk.out w7
    exact yields_run (exec_conv hr) ⟨⟨Keep.of_grow [] g8, trivial⟩, pBy_mk s8⟩
  obtain ⟨b4, c4, rfl, -⟩ := hV
  clear hC hF w7
  simp only [List.set_cons_succ, List.set_cons_zero]
  repeat (first | (refine wpV_skp rfl rfl ?_; simp only [List.set_cons_succ, List.set_cons_zero]) | (refine wpV_look rfl rfl rfl rfl rfl (fun K hK => ?_); go_big_quiet_op; refine hK _ ?_; clear hK K))
  refine wpV_mk rfl rfl rfl [] (by kernel_rfl) (fun vs w7 hC hF => ?_) (fun vs v w7 hC hV hF => ?_)
  · obtain ⟨⟨w7, hk, -⟩, rfl⟩ := hC
    obtain ⟨c, w8, hr, s8, g8⟩ := Cvt.out w7
    exact yields_run (exec_conv hr) ⟨⟨Keep.of_grow [] g8, trivial⟩, pBy_mk s8⟩
  obtain ⟨b7, c7, rfl, -⟩ := hV
  clear hC hF w7
  simp only [List.set_cons_succ, List.set_cons_zero]
  refine wpV_mk rfl rfl rfl [7] (by kernel_rfl) (fun vs w7 hC hF => ?_) (fun vs v w7 hC hV hF => ?_)
  · obtain ⟨bo, d, e, hs⟩ := (hF 7 (by simp)).2 rfl
    cases e
    obtain ⟨⟨w7, hk, -⟩, rfl⟩ := hC
    unfold yields
    go_simp
    exact ⟨⟨Keep.of_grow [] (Grow.alloc w7 _), trivial⟩, pPt_one hs⟩
  obtain ⟨bo, d, vs7, rfl, -, -⟩ := hV
  clear hC hF w7
  simp only [List.set_cons_succ, List.set_cons_zero]
  refine wpV_mk rfl rfl rfl [4, 8] (by kernel_rfl) (fun vs w7 hC hF => yields_call (by kernel_rfl) ?_) (fun vs v w7 hC hV hF => ?_)
  · obtain ⟨bo, d, e, hs4⟩ := (hF 4 (by simp)).1.1.2 rfl
    obtain ⟨bo2, d2, vs7, e2, hs, hp⟩ := (hF 8 (by simp)).2 rfl
    cases e
    cases e2
    obtain ⟨⟨w7, hk, -⟩, rfl⟩ := hC
    exact hmac _ _ w7 hs4 _ _ _ hs hp _ (fun w8 g8 => ⟨_, rfl, ⟨Keep.of_grow [] g8, trivial⟩, rfl⟩)
  obtain rfl := hV
  clear hC hF w7
  simp only [List.set_cons_succ, List.set_cons_zero]
  repeat (first | (refine wpV_skp rfl rfl ?_; simp only [List.set_cons_succ, List.set_cons_zero]) | (refine wpV_look rfl rfl rfl rfl rfl (fun K hK => ?_); go_big_quiet_op; refine hK _ ?_; clear hK K))
  refine wpV_nil ?_
  intro w9 hC hF
  obtain ⟨⟨w9, hkw9, -⟩, rfl⟩ := hC
  clear hF
  have hf := hR _ (ga.trans hkw9.grow)
  clear hR
  go_wp2_with fail
  exact hf
set_option maxRecDepth 100000 in
set_option maxHeartbeats 1000000 in
theorem forgeF (c x : Clm) (q : Nat) (w : World) (h : Cells w q 0 (clV c)) (R : Ending → World → Prop) (hR : ∀ w', Grow w w' → R (.returned (.bool (madeS c x))) w') :
    Calls Try.prog 81 #[.agg (clV x).toArray, .pointer (some ⟨q, 0, none⟩)] w R := by
  have hml : maxLen = 9223372036854775807 := rfl
  have hVl := clV_len x
  have hV1 := clV_one x
  have k0 := clV_key x
  have k1 := clV_text x
  have k2 := clV_made x
  have d0 := h.at (clV_key c)
  have d1 := h.at (clV_text c)
  obtain ⟨V, hV⟩ : ∃ V, V = clV x := ⟨_, rfl⟩
  rw [← hV] at hVl hV1 k0 k1 k2 ⊢
  have o1 : Own (w.alloc (.cells V.toArray 148)) 148 1 (some ⟨w.heap.size, 0, none⟩) 35 35 V := Own.made (n := 35) (sz := 1) (heap_alloc_new w (.cells V.toArray 148)) (by simp [hVl]) (by omega) (by simpa using hV1)
  have ga := Grow.alloc w (.cells V.toArray 148)
  have kga := Keep.of_grow [] ga
  have d0 := kga.cell d0 (by simp)
  have d1 := kga.cell d1 (by simp)
  have hf := hR _ ga
  obtain ⟨b, hb⟩ : ∃ b, b = madeS c x := ⟨_, rfl⟩
  rw [← hb] at hf
  have hs0 : (str x.key).toList = x.key := str_toList _
  have hs1 : (str x.text).toList = x.text := str_toList _
  have hs2 : (str c.key).toList = c.key := str_toList _
  have hs3 : (str c.text).toList = c.text := str_toList _
  obtain ⟨b1, hb1⟩ : ∃ b, (x.key == c.key) = b := ⟨_, rfl⟩
  obtain ⟨b2, hb2⟩ : ∃ b, (x.text == c.text) = b := ⟨_, rfl⟩
  have hbb : b = (x.made && (b1 && b2)) := by rw [hb, madeS, hb1, hb2]
  have Hbb := Lib.hid hbb
  obtain ⟨m, hm⟩ : ∃ m, m = x.made := ⟨_, rfl⟩
  rw [← hm] at k2 Hbb
  obtain ⟨s0, hs0'⟩ : ∃ s, s = x.key := ⟨_, rfl⟩
  obtain ⟨s1, hs1'⟩ : ∃ s, s = x.text := ⟨_, rfl⟩
  obtain ⟨s2, hs2'⟩ : ∃ s, s = c.key := ⟨_, rfl⟩
  obtain ⟨s3, hs3'⟩ : ∃ s, s = c.text := ⟨_, rfl⟩
  rw [← hs0'] at hs0 hb1 k0
  rw [← hs1'] at hs1 hb2 k1
  rw [← hs2'] at hs2 hb1 d0
  rw [← hs3'] at hs3 hb2 d1
  clear hV hbb hb hm hR hs0' hs1' hs2' hs3' h kga
  obtain ⟨g', off', eg, hcs⟩ := o1.sl.hat (by omega)
  cases eg
  have e0 := hcs.at k0
  have e1 := hcs.at k1
  have e2 := hcs.at k2
  simp only [Nat.add_zero, Nat.zero_add] at e0 e1 e2 d0 d1
  clear hcs o1 k0 k1 k2 hVl hV1
  obtain ⟨w1, hw1⟩ : ∃ w1, w1 = w.alloc (.cells V.toArray 148) := ⟨_, rfl⟩
  obtain ⟨qx, hqx⟩ : ∃ q, q = w.heap.size := ⟨_, rfl⟩
  rw [← hw1] at e0 e1 e2 d0 d1 ga hf
  rw [← hqx] at e0 e1 e2
  have hb0 : b = true ↔ m = true ∧ b1 = true ∧ b2 = true := by rw [Hbb.out]; simp [Bool.and_eq_true]
  have Hb0 := Lib.hid hb0
  clear hb0
  have hcs : (m = false ∧ b = false) ∨ (m = true ∧ b1 = false ∧ b = false) ∨ (m = true ∧ b1 = true ∧ b = b2) := by
    have := Hbb.out
    cases m <;> cases b1 <;> simp_all
  clear Hbb Hb0
  rcases hcs with ⟨rfl, rfl⟩ | ⟨rfl, rfl, rfl⟩ | ⟨rfl, rfl, rfl⟩
  all_goals
    go_enter Try.func81, Try.ntmps81
    go_upto_region 1 with (fail)
    change Code.wp _ _ _ ⟨_, _⟩ (w.alloc (.cells V.toArray 148))
    rw [← hw1, ← hqx]
    clear hw1 hqx
    go_wp2_with fail
    exact hf
set_option maxRecDepth 100000 in
set_option maxHeartbeats 1000000 in
theorem idxForge (x : Clm) (q : Nat) (lo : Option Addr) (n c : Nat) (cs : List Clm) (hn : n = cs.length) (w : World) (s : Sl w 35 lo n c (clVs cs)) (h : Cells w q 0 (clV x)) (R : Ending → World → Prop)
    (hR : ∀ r w', decide (0 ≤ r) = cs.any (madeS x) → Grow w w' → R (.returned (.int .i64 r)) w') :
    Calls Try.prog 103 #[.slice lo n c, .func (.func 81) #[] #[.pointer (some ⟨q, 0, none⟩)]] w R := by
  have hml : maxLen = 9223372036854775807 := rfl
  have hks := s.hle
  have hkm := s.hcap
  have Hn := Lib.hid hn
  clear hn
  go_enter Try.func103, Try.ntmps103
  go_wp2_with fail
  go_loopw [8] (fun vi wr => ∃ i : Nat, vi = .int .i64 (i : Int) ∧ i ≤ n ∧ Hid ((cs.take i).any (madeS x) = false) ∧ Grow w wr) (fun vi _ => n - (intOf vi).toNat)
  case atStart => exact ⟨0, by simp, by omega, Lib.hid (by simp), Grow.refl _⟩
  case round =>
    obtain ⟨i, rfl, hi, hany, g⟩ := hrel
    by_cases hlt : i < n
    · obtain ⟨gb, off, eg, hcs⟩ := (s.grow g).hat (by omega)
      subst eg
      have hlt2 : i < cs.length := by rw [← Hn.out]; exact hlt
      have hci := cells_clm hcs i hlt2
      have hcl := forgeF x (cs[i]'hlt2) q wr (h.keep (Keep.of_grow [] g) (by simp))
      have hany2 : Hid (∀ b, madeS x cs[i] = b → (cs.take (i + 1)).any (madeS x) = b) := Lib.hid (fun b e => by
        rw [List.take_add_one, List.getElem?_eq_getElem hlt2, List.any_append, hany.out]; simpa using e)
      have hrg : wr.rangeAt gb (off + i * 35) (clV cs[i]) := fun j v hj => hci.at hj
      have hsz : (Try.prog.info? 148).map (·.size) = some (clV cs[i]).length := by rw [clV_len]; exact i35
      have htk : Hid ((cs.take (i + 1)).any (madeS x) = true → cs.any (madeS x) = true) := Lib.hid (fun e => by
        rw [List.any_eq_true] at e ⊢
        obtain ⟨y, hy, hp⟩ := e
        exact ⟨y, List.mem_of_mem_take hy, hp⟩)
      obtain ⟨b, hb⟩ : ∃ b, b = madeS x cs[i] := ⟨_, rfl⟩
      have hb2 := hany2.out b hb.symm
      simp only [← hb] at hcl
      obtain ⟨V, hV⟩ : ∃ V, V = clV cs[i] := ⟨_, rfl⟩
      rw [← hV] at hrg hsz
      simp only [← hV] at hcl
      have Hb2 := Lib.hid hb2
      have hR0 := Lib.hid hR
      clear hci hb hany2 hb2 hV hcs hlt2 hany hR
      go_wp2_with (refine wpList_load_mid rfl 148 _ rfl gb (off + i * 35) rfl V _ hrg Try.underlying148 rfl hsz ?_)
      refine hcl _ ?_
      clear hcl hrg hsz
      intro w2 g2
      have G2 := g.trans g2
      clear g g2
      cases b with
      | true =>
        have hf := hR0.out (i : Int) w2 (by rw [htk.out Hb2.out]; simp) G2
        clear hR0
        go_wp2_with fail
        exact hf
      | false =>
        go_wp2_with fail
        exact ⟨⟨i + 1, by go_num, by omega, Hb2, G2⟩, by simp [intOf]; omega⟩
    · obtain rfl : i = n := by omega
      have hf := hR (-1) wr (by rw [List.take_of_length_le (by rw [← Hn.out]; exact Nat.le_refl _)] at hany; rw [hany.out]; rfl) g
      clear hR hany
      go_wp2_with fail
      exact hf
set_option maxRecDepth 100000 in
set_option maxHeartbeats 1000000 in
theorem hasForge (x : Clm) (q : Nat) (lo : Option Addr) (n c : Nat) (cs : List Clm) (hn : n = cs.length) (w : World) (s : Sl w 35 lo n c (clVs cs)) (h : Cells w q 0 (clV x)) (R : Ending → World → Prop)
    (hR : ∀ w', Grow w w' → R (.returned (.bool (cs.any (madeS x)))) w') :
    Calls Try.prog 83 #[.slice lo n c, .func (.func 81) #[] #[.pointer (some ⟨q, 0, none⟩)]] w R := by
  have hi := idxForge x q lo n c cs hn w s h
  obtain ⟨b, hb⟩ : ∃ b, b = cs.any (madeS x) := ⟨_, rfl⟩
  rw [← hb] at hR
  simp only [← hb] at hi
  clear hb hn s h
  go_enter Try.func83, Try.ntmps83
  go_wp2_with fail
  refine hi _ ?_
  clear hi
  intro r w2 hr g2
  have hf := hR w2 g2
  rw [← hr] at hf
  clear hr hR
  go_wp2_with fail
  exact hf
end Go.Proofs.Ytfmnkcmicbnfdaa
