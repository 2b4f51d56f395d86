/- The answers of what is shown: how many they are. -/
import Derived.Test.YtgchbcopbkoomaaIn25
namespace Go.Proofs.Ytgchbcopbkoomaa
open Go Go.RowKit

def linZ : List Value := [.int .i64 0, .slice none 0 0, .int .i64 0]
theorem linZ_one : ∀ v ∈ linZ, v.oneCell' = true := by simp [linZ, Value.oneCell']
theorem TLin : ST Try.prog 48 64 3 40 := ST.mk' (z := .agg #[.int .i64 0, .slice none 0 0, .int .i64 0]) Try.underlying48 (by kernel_rfl) rfl (by decide)
theorem i3 : (Try.prog.info? 64).map (·.size) = some 3 := by kernel_rfl
def linS (n : Nat) : List Value := (List.replicate n linZ).flatten
theorem linS_len (n : Nat) : (linS n).length = n * 3 := by simp [linS, linZ]
theorem linS_snoc (n : Nat) : linS (n + 1) = linS n ++ linZ := by simp [linS, List.replicate_succ']
theorem linS_at : ∀ (n i j : Nat), i < n → j < 3 → (linS n)[i * 3 + j]? = linZ[j]?
  | 0, i, j, h, _ => by omega
  | n + 1, i, j, h, hj => by
    rw [linS_snoc]
    by_cases hi : i < n
    · rw [List.getElem?_append_left (by rw [linS_len]; omega), linS_at n i j hi hj]
    · obtain rfl : i = n := by omega
      rw [List.getElem?_append_right (by rw [linS_len]; omega), linS_len]
      congr 1; omega
set_option maxRecDepth 100000 in
theorem cloneNil (w : World) (R : Ending → World → Prop) (hf : R (.returned (.slice none 0 0)) w) :
    Calls Try.prog 18 #[.slice none 0 0] w R := by
  have hml : maxLen = 9223372036854775807 := rfl
  have heq := fun w => Lib.run_eql_slice_nil (P := Try.prog) w 33 5 none 0 0 0 0 Try.underlying33
  go_enter Try.func18, Try.ntmps18
  go_wp2_with fail
  exact hf

theorem built_line : Try.prog.built 64 [(0, .int .i64 0), (1, .slice none 0 0)] = some #[.int .i64 0, .slice none 0 0, .int .i64 0] := by kernel_rfl

set_option maxRecDepth 100000 in
set_option maxHeartbeats 4000000 in
theorem ans5 (q : Nat) (oo : Option Addr) (m oc : Nat) (hm : m ≤ 100000) {c0 c1 c2 c3 c5 c7 c8 c9 c10 c11 c12 c13 c14 c15 c16 c17 c18 c19 c20 c21 c22 c23 c24 c25 c26 c27 c28 c29 c30 c31 c32 c33 c34 c35 c36 c37 c38 c39 c40 c41 c42 : Value} (w : World) (o : Own w 64 3 oo m oc (linS m)) (hq : Cells w q 0 linZ) {Q : Exit → Act → World → Prop}
    (hQ : ∀ (oo' : Option Addr) (oc' : Nat) (w' : World), Own w' 64 3 oo' (m + 1) oc' (linS (m + 1)) → Keep (blk oo) w w' → (∀ y ∈ blk oo', y ∈ blk oo ∨ w.heap.size ≤ y) → ∀ {u32 u33 u34 u35 u36 u37 u38 u39 u40 : Value}, Q .normal ⟨List.toArray (c0 :: c1 :: c2 :: c3 :: .slice oo' (m + 1) oc' :: c5 :: .pointer (some ⟨q, 0, none⟩) :: c7 :: c8 :: c9 :: c10 :: c11 :: c12 :: c13 :: c14 :: c15 :: c16 :: c17 :: c18 :: c19 :: c20 :: c21 :: c22 :: c23 :: c24 :: c25 :: c26 :: c27 :: c28 :: c29 :: c30 :: c31 :: u32 :: u33 :: u34 :: u35 :: u36 :: u37 :: u38 :: u39 :: u40 :: c41 :: c42 :: []), []⟩ w') :
    Code.wp Try.prog (regionAt Try.f16 5) Q ⟨List.toArray (c0 :: c1 :: c2 :: c3 :: .slice oo m oc :: c5 :: .pointer (some ⟨q, 0, none⟩) :: c7 :: c8 :: c9 :: c10 :: c11 :: c12 :: c13 :: c14 :: c15 :: c16 :: c17 :: c18 :: c19 :: c20 :: c21 :: c22 :: c23 :: c24 :: c25 :: c26 :: c27 :: c28 :: c29 :: c30 :: c31 :: c32 :: c33 :: c34 :: c35 :: c36 :: c37 :: c38 :: c39 :: c40 :: c41 :: c42 :: []), []⟩ w := by
  have hml : maxLen = 9223372036854775807 := rfl
  have q0 := KW.cell (fp := []) (p0 := tt) (hq.at (i := 0) (v := .int .i64 0) rfl) (by simp)
  have q1 := KW.cell (fp := []) (p0 := tt) (hq.at (i := 1) (v := .slice none 0 0) rfl) (by simp)
  simp only [Nat.add_zero, Nat.zero_add] at q0 q1
  have hb1 := built_line
  have Ho := Lib.hid o
  have HQ := Lib.hid hQ
  clear hq o hQ
  conv => arg 2; whnf
  refine wp_region_R (segT w [(5, pIs (.slice none 0 0)), (7, pOw 64 3 1 linZ)]) (by kernel_rfl) segT_drew ?_
  unfold segT segK segR
  repeat (first | (refine wpV_skp rfl rfl ?_; simp only [List.set_cons_succ, List.set_cons_zero]) | (refine wpV_look rfl rfl rfl rfl rfl (fun K hK => ?_); go_big_quiet_op; refine hK _ ?_; clear hK K))
  refine wpV_mk rfl rfl rfl [] (by kernel_rfl) (fun vs w7 hC hF => yields_call (by kernel_rfl) ?_) (fun vs v w7 hC hV hF => ?_)
  · obtain ⟨⟨w7, hk7, -⟩, rfl⟩ := hC
    exact cloneNil w7 _ ⟨_, rfl, ⟨Keep.refl _ _, trivial⟩, rfl⟩
  obtain rfl := hV
  clear hC hF w7
  simp only [List.set_cons_succ, List.set_cons_zero]
  (refine wpV_val rfl rfl rfl rfl rfl _ (fun w _ => exec_built [(0, .tmp 34), (1, .tmp 37)] rfl hb1) ?_; simp only [List.set_cons_succ, List.set_cons_zero])
  refine wpV_mk rfl rfl rfl [] (by kernel_rfl) (fun vs w7 hC hF => ?_) (fun vs v w7 hC hV hF => ?_)
  · obtain ⟨⟨w7, hk7, -⟩, rfl⟩ := hC
    unfold yields
    go_simp
    exact ⟨⟨Keep.of_grow [] (Grow.alloc w7 _), trivial⟩, ⟨_, _, rfl, Own.made (n := 1) (sz := 3) (heap_alloc_new w7 (.cells linZ.toArray 64)) rfl (by decide) linZ_one⟩⟩
  obtain ⟨ga, ca, rfl, -⟩ := hV
  clear hC hF w7
  simp only [List.set_cons_succ, List.set_cons_zero]
  refine wpV_tn rfl rfl (by kernel_rfl) (fun w7 hC hF => ?_)
  obtain ⟨ga2, ca2, ee, oE⟩ := (hF 7).2 rfl
  obtain ⟨⟨w7, hk7, -⟩, rfl⟩ := hC
  cases ee
  obtain ⟨oo2, oc2, w8, hr, o8, -, k8, b8⟩ := run_app TLin w7 48 (Ho.out.keep hk7 (by simp)) oE.sl (by omega) (by omega)
  refine yields_run (run_exec_append2 hr) ⟨segU _, ⟨(), rfl⟩, ?_⟩
  simp only [List.set_cons_succ, List.set_cons_zero]
  have h1 := Lib.hid (show Own w8 64 3 oo2 (m + 1) oc2 (linS (m + 1)) by rw [linS_snoc]; exact o8)
  have h2 := Lib.hid ((hk7.mono (fun _ h => by simp at h : ∀ y ∈ [], y ∈ blk oo)).trans k8)
  have h3 := Lib.hid (show ∀ y ∈ blk oo2, y ∈ blk oo ∨ w.heap.size ≤ y from fun y hy => (b8 y hy).imp id (fun h => Nat.le_trans hk7.size h))
  clear Ho hr o8 k8 b8 oE hF hk7
  unfold segU
  iterate 1 (refine wpV_look rfl rfl rfl rfl rfl (fun K hK => ?_); go_big_quiet_op; refine hK _ ?_; clear hK K)
  refine wpV_nil ?_
  intro w9 hC hF
  obtain ⟨-, rfl⟩ := hC
  exact HQ.out oo2 oc2 _ h1.out h2.out h3.out

def kept (ks : List Int) : Nat := (ks.filter (fun k => decide (k = 1) || decide (k = 3))).length
theorem kept_next (ks : List Int) (i : Nat) (h : i < ks.length) : kept (ks.take (i + 1)) = kept (ks.take i) + if (decide (ks[i] = 1) || decide (ks[i] = 3)) = true then 1 else 0 := by
  rw [List.take_add_one, List.getElem?_eq_getElem h]
  unfold kept
  rw [List.filter_append, List.length_append]
  simp only [Option.toList_some]
  by_cases h2 : (decide (ks[i] = 1) || decide (ks[i] = 3)) = true
  · rw [if_pos h2]; simp only [List.filter, h2]; rfl
  · rw [if_neg h2]; simp only [List.filter, Bool.not_eq_true _ ▸ h2]; rfl
theorem kept_le (ks : List Int) (i : Nat) : kept (ks.take i) ≤ i := Nat.le_trans (List.length_filter_le _ _) (by simp; omega)
set_option maxRecDepth 100000 in
set_option maxHeartbeats 4000000 in
theorem answersC (ks : List Int) (n : Nat) (hn : n = ks.length) (hn2 : n ≤ 1000) (ko lo : Option Addr) (kc lc : Nat) (w : World) (sK : Sl w 1 ko n kc (ks.map (.int .i64))) (sL : Sl w 3 lo n lc (linS n)) (R : Ending → World → Prop)
    (hR : ∀ oo oc w', Grow w w' → R (.returned (.slice oo (kept ks : Nat) oc)) w') : Calls Try.prog 16 #[.slice ko n kc, .slice lo n lc] w R := by
  have hml : maxLen = 9223372036854775807 := rfl
  have hks1 := sK.hle
  have hkm1 := sK.hcap
  have hks2 := sL.hle
  have hkm2 := sL.hcap
  have Hn := Lib.hid hn
  have HR := Lib.hid hR
  clear hn hR
  go_enter Try.func16, Try.ntmps16
  go_wp2_with fail
  go_loopw [4, 9] (fun vo vi wr => ∃ (i m : Nat) (oo : Option Addr) (oc : Nat), vo = .slice oo m oc ∧ vi = .int .i64 (i : Int) ∧ i ≤ n ∧ m ≤ i ∧ Hid (m = kept (ks.take i)) ∧ Own wr 64 3 oo m oc (linS m) ∧ Grow w wr ∧ (∀ y ∈ blk oo, w.heap.size ≤ y)) (fun _ vi _ => n - (intOf vi).toNat)
  case atStart => exact ⟨0, 0, none, 0, rfl, by simp, by omega, by omega, Lib.hid rfl, Own.none _ _ _, Grow.refl _, by simp [blk]⟩
  case round =>
    obtain ⟨i, m, oo, oc, rfl, rfl, hi, hmi, hk, o, g, fo⟩ := hrel
    by_cases hlt : i < n
    · have hlt1 : i < ks.length := by rw [← Hn.out]; exact hlt
      obtain ⟨ga, oa, eg, hcs1⟩ := (sK.grow g).hat (by omega)
      subst eg
      obtain ⟨gb, ob, eg, hcs2⟩ := (sL.grow g).hat (by omega)
      subst eg
      obtain ⟨k, hkk⟩ : ∃ k, k = ks[i]'hlt1 := ⟨_, rfl⟩
      have c1 := hcs1.at (i := i) (v := .int .i64 k) (by simp [hlt1, hkk])
      have hrg : wr.rangeAt gb (ob + i * 3) linZ := fun j v hj => by
        have h3 : j < 3 := (List.getElem?_eq_some_iff.1 hj).1
        rw [Nat.add_assoc]
        exact hcs2.at (by rw [linS_at n i j hlt h3]; exact hj)
      have hkx := kept_next ks i hlt1
      rw [← hk.out, ← hkk] at hkx
      have Hkx := Lib.hid hkx
      obtain ⟨V, hV⟩ : ∃ V, V = linZ := ⟨_, rfl⟩
      have hl3 : linZ.length = 3 := rfl
      have hone := linZ_one
      have hszF : (Try.prog.info? 64).map (·.size) = some linZ.toArray.size := i3
      have hsz : (Try.prog.info? 64).map (·.size) = some linZ.length := i3
      obtain ⟨o4, ga1, th1, al1⟩ := newvarZ (n := 3) (t := 64) wr linZ rfl linZ_one (by omega) (F := V) (by rw [hV]; rfl) (by rw [hV]; exact linZ_one)
      rw [← hV] at hrg hone hl3
      have HV := Lib.hid hV
      rw [show linZ.toArray.size = V.toArray.size by rw [hV]] at hszF
      rw [show linZ.length = V.length by rw [hV]] at hsz
      have h5 := ans5
      clear hkk hcs1 hcs2 hk hkx hV
      go_upto_region 4 with (first | (refine wpList_load_mid rfl 64 _ rfl gb (ob + i * 3) rfl V _ hrg Try.underlying64 rfl hsz ?_) | (refine wpList_store_mid rfl 64 _ _ rfl wr.heap.size 0 V.toArray rfl rfl th1 hszF al1 ?_))
      change Code.wp _ _ _ ⟨_, _⟩ ((wr.alloc (.cells linZ.toArray 64)).setCells wr.heap.size 0 V)
      have G3 := g.trans ga1
      have c3 := ga1.cell c1
      have o3 := o.grow ga1
      generalize (wr.alloc (.cells linZ.toArray 64)).setCells wr.heap.size 0 V = w3 at *
      obtain ⟨q, hq⟩ : ∃ q, q = wr.heap.size := ⟨_, rfl⟩
      rw [← hq] at o4 ⊢
      clear hq th1 al1 ga1 hszF hrg g c1 o
      obtain ⟨gl, off6, eg, hcq⟩ := o4.sl.hat (by omega)
      cases eg
      rw [HV.out] at hcq
      have step : (decide (k = 1) || decide (k = 3)) = true → Hid (m + 1 = kept (ks.take (i + 1))) := fun h => Lib.hid (by rw [Hkx.out, if_pos h])
      have stay : (decide (k = 1) || decide (k = 3)) = false → Hid (m = kept (ks.take (i + 1))) := fun h => Lib.hid (by rw [Hkx.out, if_neg (by simp [h])]; rfl)
      have HS := Lib.hid step
      have HT := Lib.hid stay
      have HQ := Lib.hid hcq
      clear o4 step stay hcq Hkx HV hsz hone hl3
      by_cases hk1 : k = 1
      · subst hk1
        have hs := HS.out rfl
        clear HS HT
        go_upto_region 5 with (fail)
        refine h5 q oo m oc (by omega) w3 o3 HQ.out ?_
        intro oo2 oc2 w4 o4 k4 b4
        intros
        have G4 := G3.then k4 (fun y hy => fo y hy)
        have hz := G3.size
        have f4 : ∀ y ∈ blk oo2, w.heap.size ≤ y := fun y hy => (b4 y hy).elim (fo y) (fun h => by omega)
        clear o3 k4 b4 fo G3 h5 HQ c3
        go_wp2_with fail
        exact ⟨⟨i + 1, m + 1, oo2, oc2, rfl, by go_num, by omega, by omega, hs, o4, G4, f4⟩, by simp [intOf]; omega⟩
      · have hd1 : decide (k = 1) = false := decide_eq_false hk1
        have hb1 : (k == 1) = false := by simpa using hk1
        by_cases hk3 : k = 3
        · subst hk3
          have hs := HS.out rfl
          clear HS HT
          go_upto_region 5 with (fail)
          refine h5 q oo m oc (by omega) w3 o3 HQ.out ?_
          intro oo2 oc2 w4 o4 k4 b4
          intros
          have G4 := G3.then k4 (fun y hy => fo y hy)
          have hz := G3.size
          have f4 : ∀ y ∈ blk oo2, w.heap.size ≤ y := fun y hy => (b4 y hy).elim (fo y) (fun h => by omega)
          clear o3 k4 b4 fo G3 h5 HQ c3
          go_wp2_with fail
          exact ⟨⟨i + 1, m + 1, oo2, oc2, rfl, by go_num, by omega, by omega, hs, o4, G4, f4⟩, by simp [intOf]; omega⟩
        · have hd3 : decide (k = 3) = false := decide_eq_false hk3
          have hb3 : (k == 3) = false := by simpa using hk3
          have hs := HT.out (by rw [hd1, hd3]; rfl)
          clear HS HT h5 HQ hd1 hd3 hk1 hk3
          go_wp2_with fail
          exact ⟨⟨i + 1, m, oo, oc, rfl, by go_num, by omega, by omega, hs, o3, G3, fo⟩, by simp [intOf]; omega⟩
    · obtain rfl : i = n := by omega
      have hf := HR.out oo oc _ g
      rw [← List.take_length (l := ks), ← Hn.out, ← hk.out] at hf
      clear HR hk
      go_wp2_with fail
      exact hf
end Go.Proofs.Ytgchbcopbkoomaa
