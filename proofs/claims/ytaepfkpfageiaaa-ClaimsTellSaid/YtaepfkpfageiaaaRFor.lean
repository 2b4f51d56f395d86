/- The document's claims: right, forged. -/
import Derived.Test.YtaepfkpfageiaaaClashC
import Derived.Test.YtaepfkpfageiaaaForgC
import Derived.Test.YtaepfkpfageiaaaRMac
namespace Go.Proofs.Ytaepfkpfageiaaa
open Go Go.RowKit

set_option maxRecDepth 100000 in
set_option maxHeartbeats 1000000 in
theorem rRightC (p : Nat) (x : Clm) (hx : x.fit) (w : World) (sm : Sm w p Hs Ks) (R : Ending → World → Prop) (hR : ∀ w', Grow w w' → R (.returned (.bool (rightS x))) w') :
    Calls Try.prog 68 #[.pointer (some ⟨p, 0, none⟩), .agg (clV x).toArray] w R := by
  have hml : maxLen = 9223372036854775807 := rfl
  obtain ⟨hxk, hxt⟩ := hx
  have heq := eq_hash (macS x.key x.text) x.tag (macS_len _ _) x.h
  rw [show (macS x.key x.text == x.tag) = rightS x by unfold rightS; rw [Bool.eq_iff_iff, beq_iff_eq, beq_iff_eq]; exact eq_comm] at heq
  have hmac := fun w' sm ko kc sk bo c sb => rMacC p w' sm ko kc x.key sk hxk bo c x.text sb hxt
  have hVl := clV_len x
  have hV1 := clV_one x
  have k0 := clV_key x
  have k1 := clV_text x
  have k2 : ∀ i v, (x.tag.map B)[i]? = some v → (clV x)[2 + i]? = some v := fun i v hv => by
    obtain ⟨hi, hv⟩ := List.getElem?_eq_some_iff.1 hv
    have hi' := hi
    rw [List.length_map, x.h] at hi'
    rw [clV_tag _ i hi', ← hv, List.getElem_map]
  obtain ⟨V, hV⟩ : ∃ V, V = clV x := ⟨_, rfl⟩
  rw [← hV] at hVl hV1 k0 k1 ⊢
  simp only [← hV] at k2
  have hTl : (x.tag.map B).length = 32 := by rw [List.length_map]; exact x.h
  obtain ⟨r, hr⟩ : ∃ r, r = rightS x := ⟨_, rfl⟩
  rw [← hr] at hR
  simp only [← hr] at heq
  obtain ⟨T, hT⟩ : ∃ T, T = x.tag.map B := ⟨_, rfl⟩
  simp only [← hT] at heq k2 hTl
  obtain ⟨key, hkey⟩ : ∃ k, k = x.key := ⟨_, rfl⟩
  obtain ⟨text, htext⟩ : ∃ k, k = x.text := ⟨_, rfl⟩
  simp only [← hkey, ← htext] at hmac k0 k1 hxk hxt heq
  obtain ⟨A, hA⟩ : ∃ T, T = ((macS key text).map B).toArray := ⟨_, rfl⟩
  simp only [← hA] at hmac heq
  generalize Hs = H at *
  generalize Ks = K at *
  have cvk := fun w => conv_str (P := Try.prog) (src := 9) (dst := 22) (e := 5) Try.underlying9 Try.underlying22 Try.underlying5 (str key) key rfl (by omega) w
  have cvt := fun w => conv_str (P := Try.prog) (src := 9) (dst := 22) (e := 5) Try.underlying9 Try.underlying22 Try.underlying5 (str text) text rfl (by omega) w
  have o1 : Own (w.alloc (.cells V.toArray 66)) 66 1 (some ⟨w.heap.size, 0, none⟩) 35 35 V := Own.made (n := 35) (sz := 1) (heap_alloc_new w (.cells V.toArray 66)) (by simp [hVl]) (by omega) (by simpa using hV1)
  have ga := Grow.alloc w (.cells V.toArray 66)
  have sm1 := sm.grow ga
  have K2 := Lib.hid k2
  have Cvk := Lib.hid cvk
  have Cvt := Lib.hid cvt
  have Hmac := Lib.hid hmac
  clear hV hr hT hkey htext hA k2 hxk hxt cvk cvt sm hmac
  go_enter Try.func68, Try.ntmps68
  go_upto_region 1 with (fail)
  change Code.wp _ _ _ ⟨_, _⟩ (w.alloc (.cells V.toArray 66))
  obtain ⟨q, hq⟩ : ∃ q, q = w.heap.size := ⟨_, rfl⟩
  generalize w.alloc (.cells V.toArray 66) = w1 at *
  rw [← hq] at o1 ⊢
  clear hq
  obtain ⟨g', off', eg, hcs⟩ := o1.sl.hat (by omega)
  cases eg
  have e0 := KW.cell (fp := []) (p0 := tt) (hcs.at k0) (by simp)
  have e1 := KW.cell (fp := []) (p0 := tt) (hcs.at k1) (by simp)
  simp only [Nat.add_zero, Nat.zero_add] at e0 e1
  have hcT : Cells w1 q 2 T := hcs.sub (k := 2) (fun i hi => K2.out i _ (List.getElem?_eq_getElem hi))
  have ldT : ∀ w', Keep [] w1 w' → (Instr.loadAt 27 (.pointer (some ⟨q, 2, none⟩))).run Try.prog w' = .ok (.agg T.toArray) w' := fun w' k =>
    run_ld Try.underlying27 rfl (by rw [hTl]; kernel_rfl) (hcT.keep k (by simp))
  clear k0 k1 K2 hcs o1 hVl hV1
  refine wp_region_R (segT w1 [(3, pBy key), (6, pBy text), (7, pIs (.agg A))]) (by kernel_rfl) segT_drew ?_
  unfold segT segK segR
  repeat (first | (refine wpV_skp rfl rfl ?_; simp only [List.set_cons_succ, List.set_cons_zero]) | (refine wpV_look rfl rfl rfl rfl rfl (fun K hK => ?_); go_big_quiet_op; refine hK _ ?_; clear hK K))
  refine wpV_mk rfl rfl rfl [] (by kernel_rfl) (fun vs w7 hC hF => ?_) (fun vs v w7 hC hV hF => ?_)
  · obtain ⟨⟨w7, hk, -⟩, rfl⟩ := hC
    obtain ⟨c, w8, hr, s8, g8⟩ := Cvk.out w7
    exact yields_run (exec_conv hr) ⟨⟨Keep.of_grow [] g8, trivial⟩, pBy_mk s8⟩
  obtain ⟨b4, c4, rfl, -⟩ := hV
  clear hC hF w7
  simp only [List.set_cons_succ, List.set_cons_zero]
  repeat (first | (refine wpV_skp rfl rfl ?_; simp only [List.set_cons_succ, List.set_cons_zero]) | (refine wpV_look rfl rfl rfl rfl rfl (fun K hK => ?_); go_big_quiet_op; refine hK _ ?_; clear hK K))
  refine wpV_mk rfl rfl rfl [] (by kernel_rfl) (fun vs w7 hC hF => ?_) (fun vs v w7 hC hV hF => ?_)
  · obtain ⟨⟨w7, hk, -⟩, rfl⟩ := hC
    obtain ⟨c, w8, hr, s8, g8⟩ := Cvt.out w7
    exact yields_run (exec_conv hr) ⟨⟨Keep.of_grow [] g8, trivial⟩, pBy_mk s8⟩
  obtain ⟨b7, c7, rfl, -⟩ := hV
  clear hC hF w7
  simp only [List.set_cons_succ, List.set_cons_zero]
  refine wpV_mk rfl rfl rfl [3, 6] (by kernel_rfl) (fun vs w7 hC hF => yields_call (by kernel_rfl) ?_) (fun vs v w7 hC hV hF => ?_)
  · obtain ⟨bo, d, e, hs4⟩ := (hF 3 (by simp)).1.2 rfl
    obtain ⟨bo2, d2, e2, hs7⟩ := (hF 6 (by simp)).2 rfl
    cases e
    cases e2
    obtain ⟨⟨w7, hk, -⟩, rfl⟩ := hC
    exact Hmac.out w7 (sm1.grow hk.grow) _ _ hs4 _ _ hs7 _ (fun w8 g8 => ⟨_, rfl, ⟨Keep.of_grow [] g8, trivial⟩, rfl⟩)
  obtain rfl := hV
  clear hC hF w7
  simp only [List.set_cons_succ, List.set_cons_zero]
  repeat (first | (refine wpV_skp rfl rfl ?_; simp only [List.set_cons_succ, List.set_cons_zero]) | (refine wpV_val rfl rfl rfl rfl rfl _ (fun w hC => by obtain ⟨n, rfl⟩ := hC; exact exec_load (ldT _ n.h)) ?_; simp only [List.set_cons_succ, List.set_cons_zero]) | (refine wpV_look rfl rfl rfl rfl rfl (fun K hK => ?_); go_big_quiet_op; refine hK _ ?_; clear hK K))
  refine wpV_nil ?_
  intro w9 hC hF
  obtain ⟨⟨w9, hkw9, -⟩, rfl⟩ := hC
  clear hF
  have hf := hR _ (ga.trans hkw9.grow)
  clear hR
  go_wp2_with fail
  exact hf

/-- Were any of the first k made, for c? -/
def anyN (cs : List Clm) (c : Clm) : Nat → Bool
  | 0 => false
  | k + 1 => anyN cs c k || (match cs[k]? with | some x => madeS c x | none => false)
theorem anyN_take (cs : List Clm) (c : Clm) : ∀ k, k ≤ cs.length → anyN cs c k = (cs.take k).any (madeS c)
  | 0, _ => by simp [anyN]
  | k + 1, h => by
    rw [anyN, anyN_take cs c k (by omega), List.take_add_one, List.getElem?_eq_getElem (by omega), Option.toList_some, List.any_append, List.any_cons, List.any_nil, Bool.or_false]


set_option maxRecDepth 100000 in
set_option maxHeartbeats 1000000 in
theorem rForg2 (lo : Option Addr) (n cap i : Nat) (cs : List Clm) (c : Clm) (hn : Hid (n = cs.length)) (hi : i < n) (hc : cs[i]? = some c) {c0 c2 c3 c4 c8 c9 c10 c11 c12 c13 c14 c15 c16 c17 c18 c19 c20 c21 c22 c23 c24 c25 c26 c27 c28 c29 c30 c31 c32 c33 c34 c35 c36 c37 c38 c39 c40 c41 c42 c43 c44 c45 c46 c47 c48 c49 c50 c51 c52 c53 c54 c55 c56 c57 c58 c59 c60 c61 c62 c63 c64 c65 c66 c67 c68 : Value} (w : World)
    (s1 : Sl w 35 lo n cap (clVs cs)) {Q : Exit → Act → World → Prop}
    (hQ : ∀ (w' : World), Keep [] w w' → ∀ {u7 u28 u29 u30 u31 u32 u33 u34 u35 u36 u37 u38 u39 u40 u41 u42 u43 u44 u45 u46 u47 u48 u49 u50 u51 u52 u53 u54 u55 u56 u57 u58 u59 u60 u61 u62 u63 u64 u65 u66 : Value}, Q .normal ⟨List.toArray (c0 :: .slice lo n cap :: c2 :: c3 :: c4 :: .int .i64 (i : Int) :: .bool (anyN cs c i) :: u7 :: c8 :: c9 :: c10 :: c11 :: c12 :: c13 :: c14 :: c15 :: c16 :: c17 :: c18 :: c19 :: c20 :: c21 :: c22 :: c23 :: c24 :: c25 :: c26 :: c27 :: u28 :: u29 :: u30 :: u31 :: u32 :: u33 :: u34 :: u35 :: u36 :: u37 :: u38 :: u39 :: u40 :: u41 :: u42 :: u43 :: u44 :: u45 :: u46 :: u47 :: u48 :: u49 :: u50 :: u51 :: u52 :: u53 :: u54 :: u55 :: u56 :: u57 :: u58 :: u59 :: u60 :: u61 :: u62 :: u63 :: u64 :: u65 :: u66 :: c67 :: c68 :: []), []⟩ w') :
    Code.wp Try.prog (blockAt Try.f51 2) Q ⟨List.toArray (c0 :: .slice lo n cap :: c2 :: c3 :: c4 :: .int .i64 (i : Int) :: .bool false :: .int .i64 0 :: c8 :: c9 :: c10 :: c11 :: c12 :: c13 :: c14 :: c15 :: c16 :: c17 :: c18 :: c19 :: c20 :: c21 :: c22 :: c23 :: c24 :: c25 :: c26 :: c27 :: c28 :: c29 :: c30 :: c31 :: c32 :: c33 :: c34 :: c35 :: c36 :: c37 :: c38 :: c39 :: c40 :: c41 :: c42 :: c43 :: c44 :: c45 :: c46 :: c47 :: c48 :: c49 :: c50 :: c51 :: c52 :: c53 :: c54 :: c55 :: c56 :: c57 :: c58 :: c59 :: c60 :: c61 :: c62 :: c63 :: c64 :: c65 :: c66 :: c67 :: c68 :: []), []⟩ w := by
  have hml : maxLen = 9223372036854775807 := rfl
  have hks := s1.hle
  have hkm := s1.hcap
  obtain ⟨gb, off, eg, hcs⟩ := s1.hat (by omega)
  subst eg
  have hil : i < cs.length := by rw [← hn.out]; exact hi
  obtain rfl : cs[i] = c := by rw [List.getElem?_eq_getElem hil] at hc; exact Option.some.inj hc
  have hcell : ∀ j (hj : j < cs.length), Cells w gb (off + j * 35) (clV cs[j]) := fun j hj => cells_clm hcs j hj
  have hci := hcell i hil
  obtain ⟨c, hcc⟩ : ∃ c, c = cs[i] := ⟨_, rfl⟩
  rw [← hcc] at hci
  simp only [← hcc] at hQ
  have d0 := hci.at (clV_key c)
  have d1 := hci.at (clV_text c)
  have Hcell := Lib.hid hcell
  have hs2 : (str c.key).toList = c.key := str_toList _
  have hs3 : (str c.text).toList = c.text := str_toList _
  obtain ⟨s2, hs2'⟩ : ∃ s, s = c.key := ⟨_, rfl⟩
  obtain ⟨s3, hs3'⟩ : ∃ s, s = c.text := ⟨_, rfl⟩
  rw [← hs2'] at hs2 d0
  rw [← hs3'] at hs3 d1
  have Hs2 := Lib.hid hs2'
  have Hs3 := Lib.hid hs3'
  clear hcc hci hcs hcell hs2' hs3' s1 hil hc
  conv => arg 2; whnf
  refine wp_block ?_
  go_loopw [6, 7] (fun vb vi wr => ∃ (j : Nat) (b : Bool), vb = .bool b ∧ vi = .int .i64 (j : Int) ∧ j ≤ i ∧ Hid (b = anyN cs c j) ∧ Keep [] w wr) (fun _ vi _ => i - (intOf vi).toNat)
  case atStart => exact ⟨0, false, rfl, by simp, by omega, Lib.hid rfl, Keep.refl _ _⟩
  case round =>
    obtain ⟨j, b, rfl, rfl, hj, hb, g⟩ := hrel
    by_cases hlt : j < i
    · have hjl : j < cs.length := by rw [← hn.out]; omega
      have hcj := (Hcell.out j hjl).keep g (by simp)
      obtain ⟨x, hx⟩ : ∃ x, x = cs[j] := ⟨_, rfl⟩
      rw [← hx] at hcj
      have f0 := KW.cell (fp := []) (p0 := tt) (hcj.at (clV_key x)) (by simp)
      have f1 := KW.cell (fp := []) (p0 := tt) (hcj.at (clV_text x)) (by simp)
      have f2 := KW.cell (fp := []) (p0 := tt) (hcj.at (clV_made x)) (by simp)
      have e0 := KW.cell (fp := []) (p0 := tt) (g.cell d0 (by simp)) (by simp)
      have e1 := KW.cell (fp := []) (p0 := tt) (g.cell d1 (by simp)) (by simp)
      have hs0 : (str x.key).toList = x.key := str_toList _
      have hs1 : (str x.text).toList = x.text := str_toList _
      obtain ⟨b1, hb1⟩ : ∃ b, (x.key == s2) = b := ⟨_, rfl⟩
      obtain ⟨b2, hb2⟩ : ∃ b, (x.text == s3) = b := ⟨_, rfl⟩
      obtain ⟨b', hb'⟩ : ∃ b', b' = anyN cs c (j + 1) := ⟨_, rfl⟩
      have hnx : b' = (b || (x.made && (b1 && b2))) := by
        rw [hb', anyN, List.getElem?_eq_getElem hjl, ← hb.out, ← hx, ← hb1, ← hb2, Hs2.out, Hs3.out]
        rfl
      obtain ⟨m, hm⟩ : ∃ m, m = x.made := ⟨_, rfl⟩
      rw [← hm] at f2 hnx
      obtain ⟨s0, hs0'⟩ : ∃ s, s = x.key := ⟨_, rfl⟩
      obtain ⟨s1, hs1'⟩ : ∃ s, s = x.text := ⟨_, rfl⟩
      rw [← hs0'] at hs0 hb1 f0
      rw [← hs1'] at hs1 hb2 f1
      have Hb' := Lib.hid hb'
      clear hcj hx hm hs0' hs1' hb' hjl
      simp only [Nat.add_zero] at e0 f0
      have hcs : (b = true ∧ b' = true) ∨ (b = false ∧ m = false ∧ b' = false) ∨ (b = false ∧ m = true ∧ b1 = false ∧ b' = false) ∨ (b = false ∧ m = true ∧ b1 = true ∧ b' = b2) := by
        cases b <;> cases m <;> cases b1 <;> simp_all
      clear hnx
      rcases hcs with ⟨rfl, rfl⟩ | ⟨rfl, rfl, rfl⟩ | ⟨rfl, rfl, rfl, rfl⟩ | ⟨rfl, rfl, rfl, rfl⟩
      all_goals
        go_upto_region 9 with (fail)
        refine wp_region_R (segT wr []) (by kernel_rfl) segT_drew ?_
        unfold segT segK segR
        repeat (first | (refine wpV_skp rfl rfl ?_; simp only [List.set_cons_succ, List.set_cons_zero]) | (refine wpV_look rfl rfl rfl rfl rfl (fun K hK => ?_); go_big_quiet_op; refine hK _ ?_; clear hK K))
        refine wpV_nil ?_
        intro w5 hC hF
        obtain ⟨⟨w5, hkw5, -⟩, rfl⟩ := hC
        clear hF
        have G5 := g.trans hkw5
        clear e0 e1 f0 f1 f2 hkw5 hb1 hb2
        go_wp2_with fail
        go_roundw
        case rel => exact ⟨j + 1, _, rfl, by go_num, by omega, Hb', G5⟩
        case measure => simp [intOf]; omega
    · obtain rfl : j = i := by omega
      have hf := @hQ _ g
      rw [← hb.out] at hf
      go_wp2_with fail
      exact hf
end Go.Proofs.Ytaepfkpfageiaaa
