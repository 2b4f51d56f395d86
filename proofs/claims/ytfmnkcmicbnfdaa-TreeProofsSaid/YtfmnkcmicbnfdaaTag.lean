/- mac's Tag and Sum. -/
import Derived.Test.YtfmnkcmicbnfdaaNewM
import Derived.Test.YtfmnkcmicbnfdaaIns
import Derived.Test.YtfmnkcmicbnfdaaRegC
namespace Go.Proofs.Ytfmnkcmicbnfdaa
open Go Go.RowKit

theorem hash_neq : (123 : Nat) ≠ 27 := by decide
theorem own_obj {w : World} {e : TypeId} {g n c : Nat} {xs : List Value} (o : Own w e 1 (some ⟨g, 0, none⟩) n c xs) : ∃ cur, w.heap[g]? = some (.cells cur e (0, 0)) ∧ cur.size = c := by
  obtain ⟨cur, h, -, -, h2, -, -⟩ := o.rowR.form
  exact ⟨cur, h, h2⟩

set_option maxRecDepth 100000 in
set_option maxHeartbeats 600000 in
theorem tagC (pk : Nat) (key : List UInt8) (lo : Option Addr) (cap : Nat) (vs : List Value) (ls : List (List UInt8)) (w : World) (hk : Kd w pk key) (s : Sl w 1 lo ls.length cap vs) (pt : Pt w vs ls) (hl : ls.length ≤ 900000) (ht : ls.flatten.length ≤ 900000)
    (R : Ending → World → Prop) (hR : ∀ w', Grow w w' → R (.returned (.agg ((macS key ls.flatten).map B).toArray)) w') :
    Calls Try.prog 107 #[.pointer (some ⟨pk, 0, none⟩), .slice lo ls.length cap] w R := by
  have hml : maxLen = 9223372036854775807 := rfl
  obtain ⟨ps, ai, ca, bo, cb, hob, sa, sb, sm⟩ := hk
  have hil := inK_len key
  have hol := outK_len key
  have hsum1 := fun w lo cap vs sm s pt => sumC ps Hs Ks Hs_lt lo cap vs (inK key :: ls) w sm s pt (by simp; omega) (by rw [List.flatten_cons, List.length_append, hil]; omega)
  have hsum2 := fun w lo cap vs sm s pt => sumC ps Hs Ks Hs_lt lo cap vs [outK key, sumS (inK key ++ ls.flatten)] w sm s pt (by simp) (by simp [sumS_len]; omega)
  have e1 : sumOf Hs Ks (inK key :: ls).flatten = sumS (inK key ++ ls.flatten) := by rw [List.flatten_cons]; rfl
  have e2 : sumOf Hs Ks [outK key, sumS (inK key ++ ls.flatten)].flatten = macS key ls.flatten := by rw [List.flatten_cons, List.flatten_cons, List.flatten_nil, List.append_nil]; rfl
  rw [e1] at hsum1
  rw [e2] at hsum2
  have h32 := sumS_len (inK key ++ ls.flatten)
  have h32' := macS_len key ls.flatten
  generalize Hs = H at *
  generalize Ks = K at *
  obtain ⟨S1, hS1⟩ : ∃ S, S = sumS (inK key ++ ls.flatten) := ⟨_, rfl⟩
  obtain ⟨S2, hS2⟩ : ∃ S, S = macS key ls.flatten := ⟨_, rfl⟩
  rw [← hS1] at hsum1 hsum2 h32
  rw [← hS2] at hsum2 h32' hR
  obtain ⟨n, hn⟩ : ∃ n, n = ls.length := ⟨_, rfl⟩
  simp only [List.length_cons, List.length_nil, Nat.zero_add, Nat.reduceAdd, ← hn] at hsum1 hsum2
  rw [← hn] at s hl ⊢
  have HV1 : ∀ v ∈ S1.map B, v.oneCell' = true := B_one _
  have HV2 : ∀ v ∈ S2.map B, v.oneCell' = true := B_one _
  have hV1l : (S1.map B).length = 32 := by rw [List.length_map]; exact h32
  have hV2l : (S2.map B).length = 32 := by rw [List.length_map]; exact h32'
  have ptn := pt
  clear hS1 hS2 e1 e2 h32 h32' ht
  have oO : Own (w.alloc (.cells (List.replicate 32 (.int .u8 0)).toArray 123)) 123 1 (some ⟨w.heap.size, 0, none⟩) 32 32 (List.replicate 32 (.int .u8 0)) := own_new w _ rfl (by omega)
  have ga := Grow.alloc w (.cells (List.replicate 32 (.int .u8 0)).toArray 123)
  go_enter Try.func107, Try.ntmps107
  go_upto_region 1 with (fail)
  change Code.wp _ _ _ ⟨_, _⟩ (w.alloc (.cells (List.replicate 32 (.int .u8 0)).toArray 123))
  have hob1 := ga.block hob
  have sa1 := sa.grow ga
  have sb1 := sb.grow ga
  have sm1 : Sm (w.alloc (.cells (List.replicate 32 (.int .u8 0)).toArray 123)) ps H K := ⟨sm.1.keep (Keep.of_grow [] ga) (by simp), sm.2⟩
  have s1 := s.grow ga
  have pt1' := pt.grow ga
  obtain ⟨q4, hq4⟩ : ∃ q, q = w.heap.size := ⟨_, rfl⟩
  generalize (w.alloc (.cells (List.replicate 32 (.int .u8 0)).toArray 123)) = w1 at *
  rw [← hq4] at oO ⊢
  have Hq4 := Lib.hid hq4
  have hq4l := oO.lt q4 (by simp [blk])
  clear hq4 hob sa sb sm s pt
  have q0 := KW.cell (fp := []) (p0 := tt) (cell_of_row w1 pk 0 _ _ _ hob1) (by simp)
  have q1 := KW.cell (fp := []) (p0 := tt) (cell_of_row w1 pk 1 _ _ _ hob1) (by simp)
  let V : Nat → Array Value → Value → World → Prop := fun j _ v w' =>
    (j = 5 → ∃ ao c, v = .slice ao n c ∧ Own w' 27 1 ao n c vs ∧ (n = 0 → c = 0) ∧ Fr (blk ao) w1) ∧
    (j = 10 → ∃ g, v = .slice (some ⟨g, 0, none⟩) 1 1 ∧ w'.heap[g]? = some (.cells #[.slice ai 64 ca] 27 (0, 0)) ∧ w1.heap.size ≤ g) ∧
    (j = 11 → ∃ ao c, v = .slice ao (n + 1) c ∧ Sl w' 1 ao (n + 1) c (.slice ai 64 ca :: vs)) ∧
    (j = 12 → v = .agg (S1.map B).toArray) ∧
    (j = 13 → ∃ q, v = .pointer (some ⟨q, 0, none⟩) ∧ Own w' 123 1 (some ⟨q, 0, none⟩) 32 32 (List.replicate 32 (.int .u8 0)) ∧ w1.heap.size ≤ q)
  refine RC.wp_region_F [] (RC.segX w1 w1 (Grow.refl w1) [5, 10, 11, 12, 13] [(11, 5)] (fun i x w => i = 11 ∧ ∃ cur, w.heap[x]? = some (.cells cur 27 (0, 0)) ∧ cur.size ≠ 1) V ?_) (by kernel_rfl) RC.segX_drew ?_
  · rintro i j vs' v wa wb fp hij hkl hgr kp hok ⟨v1, v2, v3, v4, v5⟩
    refine ⟨fun hj => ?_, fun hj => ?_, fun hj => ?_, v4, fun hj => ?_⟩
    · subst hj
      obtain ⟨ao, c, hv, ho, h0, hf⟩ := v1 rfl
      have hfp : fp = [] := List.eq_nil_iff_forall_not_mem.2 fun x hx => by
        have := (hok x hx).2.1
        subst this
        simp at hkl
      subst hfp
      exact ⟨ao, c, hv, ho.keep kp (by simp), h0, hf⟩
    · obtain ⟨g, hv, ho, hf⟩ := v2 hj
      refine ⟨g, hv, kp.obj ho fun hm => ?_, hf⟩
      obtain ⟨-, -, cur, hc, hs⟩ := hok g hm
      rw [ho] at hc
      have : cur = #[.slice ai 64 ca] := by simpa using hc.symm
      rw [this] at hs
      simp at hs
    · subst hj
      obtain ⟨ao, c, hv, ho⟩ := v3 rfl
      have hfp : fp = [] := List.eq_nil_iff_forall_not_mem.2 fun x hx => hij (hok x hx).2.1
      subst hfp
      exact ⟨ao, c, hv, ho.keep kp (by simp)⟩
    · obtain ⟨q, hv, ho, hf⟩ := v5 hj
      refine ⟨q, hv, ho.keep kp fun g hg hm => ?_, hf⟩
      obtain rfl : g = q := by simpa [blk] using hg
      obtain ⟨-, -, cur, hc, hs⟩ := hok g hm
      obtain ⟨cur', hc', -⟩ := own_obj ho
      rw [hc'] at hc
      have : (123 : Nat) = 27 := by simpa using (Obj.cells.inj (Option.some.inj hc)).2.1
      exact hash_neq this
  unfold RC.segX
  repeat (first | (refine RC.wpV_skp rfl rfl ?_; simp only [List.set_cons_succ, List.set_cons_zero]) | (refine RC.wpV_look rfl rfl rfl rfl rfl (fun K hK => ?_); go_big_quiet_op; refine hK _ ?_; clear hK K) | (refine RC.wpV_free rfl rfl rfl rfl (fun K hK => ?_); unfold RC.Base; go_big_quiet_op; refine hK _ ?_; clear hK K))
  refine RC.wpV_mk rfl rfl rfl [] (by kernel_rfl) (fun vs7 w7 hC _ => yields_call (by kernel_rfl) ?_) (fun vs7 v w7 hC hV hF => ?_)
  · obtain ⟨⟨w7, hk, -⟩, rfl⟩ := hC
    exact cloneP lo n cap vs w7 (s1.keep hk (by simp)) (by omega) _ (fun ao' c' w8 o8 h0 g8 f8 => ⟨_, rfl, ⟨[], Keep.of_grow [] g8, by simp⟩, fun _ => ⟨ao', c', rfl, o8, h0, Fr.mono f8 hk.size⟩, by simp, by simp, by simp, by simp⟩)
  obtain ⟨ao5, c5, rfl, -⟩ := hV.1 rfl
  clear hV hC hF w7
  simp only [List.set_cons_succ, List.set_cons_zero]
  repeat (first | (refine RC.wpV_skp rfl rfl ?_; simp only [List.set_cons_succ, List.set_cons_zero]) | (refine RC.wpV_look rfl rfl rfl rfl rfl (fun K hK => ?_); go_big_quiet_op; refine hK _ ?_; clear hK K) | (refine RC.wpV_free rfl rfl rfl rfl (fun K hK => ?_); unfold RC.Base; go_big_quiet_op; refine hK _ ?_; clear hK K))
  refine RC.wpV_mk rfl rfl rfl [] (by kernel_rfl) (fun vs7 w7 hC _ => ?_) (fun vs7 v w7 hC hV hF => ?_)
  · obtain ⟨⟨w7, hk, -⟩, rfl⟩ := hC
    unfold yields
    go_simp
    exact ⟨⟨[], Keep.alloc [] w7 _, by simp⟩, by simp, fun _ => ⟨_, rfl, alloc_new w7 _, hk.size⟩, by simp, by simp, by simp⟩
  obtain ⟨g10, rfl, -, -⟩ := hV.2.1 rfl
  clear hV hC hF w7
  simp only [List.set_cons_succ, List.set_cons_zero]
  refine RC.wpV_mk rfl rfl rfl [5, 10] (by kernel_rfl) (fun vs7 w7 hC hF => yields_call (by kernel_rfl) ?_) (fun vs7 v w7 hC hV hF => ?_)
  · obtain ⟨⟨w7, hk, -⟩, rfl⟩ := hC
    obtain ⟨ao, c, e, o, h0, hf⟩ := (((hF 5 (by simp)).1.resolve_left (by simp)).2 rfl).1 rfl
    obtain ⟨g, e2, hg, hgl⟩ := ((hF 10 (by simp)).2 rfl).2.1 rfl
    cases e
    cases e2
    exact insP _ n _ _ _ vs w7 o hg rfl (by omega) h0 _ (fun ao' c' w8 o8 hfp _ => ⟨_, rfl, (by
      obtain ⟨fp, k, hh⟩ := hfp
      exact ⟨fp, k, fun x hx => ⟨hf x (hh x hx).1, rfl, (hh x hx).2⟩⟩), by simp, by simp, fun _ => ⟨ao', c', rfl, o8.sl⟩, by simp, by simp⟩)
  obtain ⟨ao11, c11, rfl, -⟩ := hV.2.2.1 rfl
  clear hV hC hF w7
  simp only [List.set_cons_succ, List.set_cons_zero]
  refine RC.wpV_mk rfl rfl rfl [11] (by kernel_rfl) (fun vs7 w7 hC hF => yields_call (by kernel_rfl) ?_) (fun vs7 v w7 hC hV hF => ?_)
  · obtain ⟨⟨w7, hk, -⟩, rfl⟩ := hC
    obtain ⟨ao, c, e, hs⟩ := ((hF 11 (by simp)).2 rfl).2.2.1 rfl
    cases e
    exact hsum1 w7 _ _ _ ⟨sm1.1.keep hk (by simp), sm1.2⟩ hs ((pt1'.keep0 hk).cons (sa1.keep hk (by simp))) _ (fun w8 g8 => ⟨_, rfl, ⟨[], Keep.of_grow [] g8, by simp⟩, by simp, by simp, by simp, fun _ => rfl, by simp⟩)
  obtain rfl := hV.2.2.2.1 rfl
  clear hV hC hF w7
  simp only [List.set_cons_succ, List.set_cons_zero]
  refine RC.wpV_mk rfl rfl rfl [] (by kernel_rfl) (fun vs7 w7 hC _ => ?_) (fun vs7 v w7 hC hV hF => ?_)
  · obtain ⟨⟨w7, hk, -⟩, rfl⟩ := hC
    unfold yields
    go_simp
    exact ⟨⟨[], Keep.alloc [] w7 _, by simp⟩, by simp, by simp, by simp, by simp, fun _ => ⟨_, rfl, own_new (t := 123) (n := 32) w7 (.int .u8 0) rfl (by omega), hk.size⟩⟩
  obtain ⟨q13, rfl, -, -⟩ := hV.2.2.2.2 rfl
  clear hV hC hF w7
  simp only [List.set_cons_succ, List.set_cons_zero]
  refine RC.wpV_end0 rfl rfl (by kernel_rfl) (fun w7 hC hF => ?_)
  obtain ⟨⟨w7, hk, -⟩, rfl⟩ := hC
  obtain ⟨q5, e, o5, hq5⟩ := ((hF 13).2 rfl).2.2.2.2 rfl
  cases e
  have i32 : (Try.prog.info? 123).map (·.size) = some 32 := by kernel_rfl
  obtain ⟨r1, r2, r3⟩ := store_arr (P := Try.prog) hV1l HV1 o5 i32
  have g7 := hk.grow.then r3 (fun x hx => by simp at hx; omega)
  unfold yields
  rw [exec_store r1]
  simp only [yUpon]
  refine ⟨RC.Base.mk g7, ?_⟩
  have hob7 := g7.block hob1
  have sb7 := sb1.grow g7
  have sm7 : Sm (w7.setCells q13 0 (S1.map B)) ps H K := ⟨sm1.1.keep (Keep.of_grow [] g7) (by simp), sm1.2⟩
  have oO7 := oO.grow g7
  have G7 := ga.trans g7
  clear hF r1 r3 hk q0 q1 o5 hob1 sa1 sb1 sm1 s1 pt1' g7 oO ga hsum1
  generalize w7.setCells q13 0 (S1.map B) = w8 at *
  go_upto_region 2 with (fail)
  have c0 := KW.cell (fp := []) (p0 := tt) (cell_of_row w8 pk 0 _ _ _ hob7) (by simp)
  have c2 := KW.cell (fp := []) (p0 := tt) (cell_of_row w8 pk 2 _ _ _ hob7) (by simp)
  refine wp_region_R (segT w8 [(9, pPt [outK key, S1]), (10, pIs (.agg (S2.map B).toArray))]) (by kernel_rfl) segT_drew ?_
  unfold segT segK segR
  repeat (first | (refine wpV_skp rfl rfl ?_; simp only [List.set_cons_succ, List.set_cons_zero]) | (refine wpV_look rfl rfl rfl rfl rfl (fun K hK => ?_); go_big_quiet_op; refine hK _ ?_; clear hK K))
  refine wpV_mk rfl rfl rfl [] rfl (fun vs w7 hC _ => ?_) (fun vs v w7 hC hV hF => ?_)
  · obtain ⟨⟨w7, hk, -⟩, rfl⟩ := hC
    unfold yields
    go_simp
    exact ⟨⟨Keep.of_grow [] (Grow.alloc w7 _), trivial⟩, pPt_two (sb7.keep hk (by simp)) (r2.sl.keep hk (by simp))⟩
  obtain ⟨bo, d, vs7, rfl, -, -⟩ := hV
  clear hC hF w7
  simp only [List.set_cons_succ, List.set_cons_zero]
  refine wpV_mk rfl rfl rfl [9] (by kernel_rfl) (fun vs w7 hC hF => yields_call (by kernel_rfl) ?_) (fun vs v w7 hC hV hF => ?_)
  · obtain ⟨bo, d, vs7, e, hs, hp⟩ := (hF 9 (by simp)).2 rfl
    cases e
    obtain ⟨⟨w7, hk, -⟩, rfl⟩ := hC
    exact hsum2 w7 _ _ _ ⟨sm7.1.keep hk (by simp), sm7.2⟩ hs hp _ (fun w8 g8 => ⟨_, rfl, ⟨Keep.of_grow [] g8, trivial⟩, rfl⟩)
  obtain rfl := hV
  clear hC hF w7
  simp only [List.set_cons_succ, List.set_cons_zero]
  refine wpV_end0 rfl rfl (by kernel_rfl) (fun w7 hC hF => ?_)
  obtain ⟨⟨w7, hk, -⟩, rfl⟩ := hC
  obtain ⟨r1, r3, r4⟩ := store_arr (P := Try.prog) hV2l HV2 (oO7.keep hk (by simp)) i32
  have g7 := (G7.trans hk.grow).then r4 (fun x hx => by simp at hx; have := Hq4.out; omega)
  have hf := hR _ g7
  unfold yields
  rw [exec_store r1]
  simp only [yUpon]
  clear hR hF c0 c2 hsum2 r1 r4
  go_wp2_with fail
  exact bodyPost_ret (v := .agg (S2.map B).toArray) (ret_bytes Try.results107 _ _ q4 (S2.map B) _ _ 32 rfl r3 (by decide) Try.underlying123 rfl i32) rfl hf

set_option maxRecDepth 100000 in
theorem macTop (ao : Option Addr) (c : Nat) (key : List UInt8) (lo : Option Addr) (cap : Nat) (vs : List Value) (ls : List (List UInt8)) (w : World) (sk : Sl w 1 ao key.length c (key.map B)) (hkl : key.length ≤ 900000) (s : Sl w 1 lo ls.length cap vs) (pt : Pt w vs ls) (hl : ls.length ≤ 900000) (ht : ls.flatten.length ≤ 900000)
    (R : Ending → World → Prop) (hR : ∀ w', Grow w w' → R (.returned (.agg ((macS key ls.flatten).map B).toArray)) w') :
    Calls Try.prog 102 #[.slice ao key.length c, .slice lo ls.length cap] w R := by
  have hml : maxLen = 9223372036854775807 := rfl
  have i32 : (Try.prog.info? 123).map (·.size) = some 32 := by kernel_rfl
  have hnew := fun w s => newM ao c key w s (by omega)
  have htag := fun pk w hk s pt => tagC pk key lo cap vs ls w hk s pt hl ht
  have h32 := macS_len key ls.flatten
  obtain ⟨S, hS⟩ : ∃ S, S = (macS key ls.flatten).map B := ⟨_, rfl⟩
  have hSl : S.length = 32 := by rw [hS, List.length_map]; exact h32
  have hS1 : ∀ v ∈ S, v.oneCell' = true := by rw [hS]; exact B_one _
  simp only [← hS] at htag hR
  obtain ⟨n, hn⟩ : ∃ n, n = ls.length := ⟨_, rfl⟩
  obtain ⟨m, hm⟩ : ∃ n, n = key.length := ⟨_, rfl⟩
  rw [← hn] at s ⊢
  rw [← hm] at sk ⊢
  simp only [← hn, ← hm] at htag hnew
  clear hS h32 hn hm hl ht hkl
  have oO : Own (w.alloc (.cells (List.replicate 32 (.int .u8 0)).toArray 123)) 123 1 (some ⟨w.heap.size, 0, none⟩) 32 32 (List.replicate 32 (.int .u8 0)) := own_new w _ rfl (by omega)
  have ga := Grow.alloc w (.cells (List.replicate 32 (.int .u8 0)).toArray 123)
  obtain ⟨q, hq⟩ : ∃ q, q = w.heap.size := ⟨_, rfl⟩
  go_enter Try.func102, Try.ntmps102
  go_wp2_with fail
  change Calls _ _ _ (w.alloc (.cells (List.replicate 32 (.int .u8 0)).toArray 123)) _
  have sk1 := sk.grow ga
  have s1 := s.grow ga
  have pt1 := pt.grow ga
  generalize w.alloc (.cells (List.replicate 32 (.int .u8 0)).toArray 123) = w1 at *
  rw [← hq] at oO ⊢
  have Hq := Lib.hid hq
  clear hq
  refine hnew w1 sk1 _ ?_
  intro pk w2 hk g2 _
  have htg := htag pk w2 hk (s1.grow g2) (pt1.grow g2)
  clear htag hnew hk
  go_wp2_with fail
  refine htg _ ?_
  intro w3 g3
  obtain ⟨r1, r3, r4⟩ := store_arr (P := Try.prog) hSl hS1 (oO.grow (g2.trans g3)) i32
  have g7 := (ga.trans (g2.trans g3)).then r4 (fun x hx => by simp at hx; have := Hq.out; omega)
  have hf := hR _ g7
  have hth := own_there (oO.grow (g2.trans g3)) S.toArray.size (by simpa using hSl)
  have hsz : (Try.prog.info? 123).map (·.size) = some S.toArray.size := by rw [List.size_toArray, hSl]; exact i32
  have hall := one_all hS1
  clear hR r1 r4 htg
  go_wp2_with ((with_reducible show wpList _ _ _ _ _ _); refine wpList_store_mid rfl 123 _ _ rfl q 0 S.toArray rfl rfl hth hsz hall ?_)
  exact bodyPost_ret (v := .agg S.toArray) (ret_bytes Try.results102 _ _ q S _ _ 32 rfl r3 (by decide) Try.underlying123 rfl i32) rfl hf
end Go.Proofs.Ytfmnkcmicbnfdaa
