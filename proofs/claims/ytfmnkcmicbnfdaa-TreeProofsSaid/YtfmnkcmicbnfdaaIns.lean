/- slices.Clone, slices.Insert of one text at the front. -/
import Derived.Test.YtfmnkcmicbnfdaaGTab
import Derived.Test.YtfmnkcmicbnfdaaGMem
import Derived.Test.YtfmnkcmicbnfdaaGSha2
import Derived.Lib.Overlaps
import Derived.Laws.Externs
namespace Go.Proofs.Ytfmnkcmicbnfdaa
open Go Go.RowKit

theorem TPa : ST Try.prog 22 27 1 24 := ST.mk' (z := .slice none 0 0) Try.underlying22 (by kernel_rfl) rfl (by decide)
/-- append of nothing to what has no room. -/
theorem run_app00 {P : Program} {t e : TypeId} {sz bytes : Nat} (T : ST P t e sz bytes) (w : World) (ty : TypeId) {ao : Option Addr} (hs : Own w e sz ao 0 0 []) (bo : Option Addr) (c : Nat) :
    (Builtin.append_ #[t, t] ty #[.slice ao 0 0, .slice bo 0 c]).run P w = .ok (.slice ao 0 0) w := by
  obtain ⟨i, z, hi, hz, hsz, hby, hzs, h0⟩ := T.info
  rcases hs.row.2 with ⟨hv, _⟩ | ⟨g, cap', cur, hv, _, hh, hle, hcap, hsz', htake⟩
  · obtain ⟨rfl, _⟩ : ao = Option.none ∧ True := by simpa using hv
    cases bo with
    | none => simp [Builtin.append_, run_underlying T.und, sizeOf, typeInfo, hi, Builtin.lenOf, Builtin.firstCells]
    | some a =>
      have hf := run_firstCells_some (P := P) w i.size 0 a 0 c [] (by simp) (by simp)
      simp [Builtin.append_, run_underlying T.und, sizeOf, typeInfo, hi, Builtin.lenOf, hf]
  · obtain ⟨rfl, rfl⟩ : ao = some ⟨g, 0, Option.none⟩ ∧ 0 = cap' := by simpa using hv
    cases bo with
    | none => simp [Builtin.append_, run_underlying T.und, sizeOf, typeInfo, hi, Builtin.lenOf, Builtin.firstCells, storeCells]
    | some a =>
      have hf := run_firstCells_some (P := P) w i.size 0 a 0 c [] (by simp) (by simp)
      simp [Builtin.append_, run_underlying T.und, sizeOf, typeInfo, hi, Builtin.lenOf, hf, storeCells]
theorem grow_keep {fp : List Nat} {a b c : World} (g : Grow a b) (k : Keep fp b c) (h : Fr fp a) : Grow a c := g.then k h
set_option maxRecDepth 100000 in
theorem cloneP (ao : Option Addr) (n c : Nat) (vs : List Value) (w : World) (s : Sl w 1 ao n c vs) (hn : n ≤ 1000000) (R : Ending → World → Prop)
    (hR : ∀ ao' c' w', Own w' 27 1 ao' n c' vs → (n = 0 → c' = 0) → Grow w w' → Fr (blk ao') w → R (.returned (.slice ao' n c')) w') :
    Calls Try.prog 114 #[.slice ao n c] w R := by
  have hml : maxLen = 9223372036854775807 := rfl
  have heq := fun w => Lib.run_eql_slice_nil (P := Try.prog) w 22 27 ao n c 0 0 Try.underlying22
  cases ao with
  | none =>
    have hc := s.hnil rfl
    have hle := s.hle
    obtain rfl : n = 0 := by omega
    subst hc
    obtain rfl : vs = [] := List.eq_nil_of_length_eq_zero (by simpa using s.hlen)
    have hf := hR none 0 w (Own.none _ _ _) (fun _ => rfl) (Grow.refl _) (by simp [blk, Fr])
    go_enter Try.func114, Try.ntmps114
    go_wp2_with fail
    exact hf
  | some a =>
    have o0 : Own (w.alloc (.cells #[] 27)) 27 1 (some ⟨w.heap.size, 0, none⟩) 0 0 [] := Own.made (n := 0) (heap_alloc_new w _) rfl (by decide) (by simp)
    by_cases h0 : n = 0
    · subst h0
      obtain rfl : vs = [] := List.eq_nil_of_length_eq_zero (by simpa using s.hlen)
      have hr := run_app00 TPa (w.alloc (.cells #[] 27)) 22 o0 (some a) c
      have hf := hR _ 0 _ o0 (fun _ => rfl) (Grow.alloc w _) (fun g hg => by simp [blk] at hg; omega)
      clear hR o0
      go_enter Try.func114, Try.ntmps114
      go_wp2_with (at_builtin; refine wpList_appendR rfl rfl hr ?_)
      exact hf
    go_enter Try.func114, Try.ntmps114
    go_wp2_with (at_builtin; refine wpList_app TPa rfl rfl o0 (s.grow (Grow.alloc _ _)) (by omega) (by omega) ?_; intro ao1 cap1 w2 own1 _ keep1 blk1; simp only [Nat.zero_add, List.nil_append] at own1)
    refine hR _ _ _ own1 (fun e => absurd e h0) ((Grow.alloc w _).then keep1 (fun x hx => by simp [blk] at hx; omega)) (fun g hg => ?_)
    rcases blk1 g hg with h | h
    · simp [blk] at h; omega
    · rw [sz_al] at h; omega

set_option maxRecDepth 100000 in
set_option maxHeartbeats 1000000 in
theorem insP (ao : Option Addr) (n c vb : Nat) (x : Value) (vs : List Value) (w : World) (o : Own w 27 1 ao n c vs) (hv : w.heap[vb]? = some (.cells #[x] 27 (0, 0))) (hx1 : x.oneCell' = true) (hn : n ≤ 1000000) (hc0 : n = 0 → c = 0) (R : Ending → World → Prop)
    (hR : ∀ ao' c' w', Own w' 27 1 ao' (n + 1) c' (x :: vs) → (∃ fp, Keep fp w w' ∧ ∀ g ∈ fp, g ∈ blk ao ∧ ∃ cur, w.heap[g]? = some (.cells cur 27 (0, 0)) ∧ cur.size ≠ 1) → (∀ g ∈ blk ao', g ∈ blk ao ∨ w.heap.size ≤ g) → R (.returned (.slice ao' (n + 1) c')) w') :
    Calls Try.prog 113 #[.slice ao n c, .int .i64 0, .slice (some ⟨vb, 0, none⟩) 1 1] w R := by
  have hml : maxLen = 9223372036854775807 := rfl
  have hvc : w.cell? ⟨vb, 0, none⟩ = some x := obj_cell hv 0 rfl
  by_cases h0 : n = 0
  · subst h0
    obtain rfl : vs = [] := List.eq_nil_of_length_eq_zero (by simpa using o.row.1)
    have sx : Sl w 1 (some ⟨vb, 0, none⟩) 1 1 [x] := sl_obj (C := [x]) hv 1 rfl (by decide) (by simpa using hx1)
    obtain ⟨so, sc, hcut, -, -⟩ := run_cut1 TPa o.sl (0 : Int) 0 rfl (by omega)
    obtain rfl := hc0 rfl
    obtain ⟨ao1, cap1, w2, hr, own1, g1, blk1⟩ := run_app0 TPa w 22 o sx (by omega) (by omega)
    have hf := hR _ _ _ own1 ⟨[], Keep.of_grow [] g1, by simp⟩ blk1
    clear hv hvc hR hc0
    go_enter Try.func113, Try.ntmps113
    go_wp2_with (at_builtin; refine wpList_appendR rfl rfl hr ?_)
    exact hf
  obtain ⟨g, off, eg, -⟩ := o.sl.hat (by omega)
  subst eg
  obtain rfl : off = 0 := by
    rcases o.row.2 with ⟨hv, -⟩ | ⟨g', cap', cur, hv, -⟩
    · simp at hv
    · simp only [Value.slice.injEq, Option.some.injEq, Addr.mk.injEq, and_true] at hv
      exact hv.1.2
  have r := o.rowR
  have h1 := o.one
  have hcc := o.sl.hcap
  have hnc := o.sl.hle
  have hvl : vs.length = n := by have := o.row.1; omega
  have hlt := r.lt
  have k0 := fun w' => cutFrom TPa rfl g 0 n c 0 (by omega) (by omega) w'
  simp only [Nat.sub_zero, Nat.add_zero] at k0
  rw [show ((0 : Nat) : Int) = 0 from rfl] at k0
  by_cases hroom : n + 1 ≤ c
  · have hgv : vb ≠ g := fun e => by
      subst e
      obtain ⟨cur, hh, -, -, hcs, -, -⟩ := r.form
      rw [hv] at hh
      have : cur = #[x] := by simpa using hh.symm
      rw [this] at hcs
      simp at hcs
      omega
    have hcur : ∃ cur, w.heap[g]? = some (.cells cur 27 (0, 0)) ∧ cur.size ≠ 1 := by
      obtain ⟨cur, hh, -, -, hcs, -, -⟩ := r.form
      exact ⟨cur, hh, by omega⟩
    obtain ⟨ys, r2, hys⟩ := r.ext hroom (by omega)
    have hov : ∀ w', Keep [] w w' → ∀ lb cb, (callFunc 121 #[.slice (some ⟨vb, 0, none⟩) 1 1, .slice (some ⟨g, 1, none⟩) lb cb]).run Try.prog w' = .ok (.value (.bool false)) w' := fun w' k lb cb => by
      obtain ⟨cur, hh, -, -, hcs, -, -⟩ := (r.keep k (by simp)).form
      have hv' := k.obj hv (by simp)
      rw [run_callFunc_extern Try.func121 (by kernel_rfl) (by kernel_rfl) (by kernel_rfl) (e := Extern.SlicesOverlaps.overlaps #[22, 22] #[4]) (by kernel_rfl),
        Lib.run_overlaps_apart w' 22 4 27 Try.underlying22 1 (fun w => sizeOf_of (by kernel_rfl) w) ⟨vb, 0, none⟩ ⟨g, 1, none⟩ 1 1 lb cb hgv 27 27 1 cur.size (by simp [World.shape?, hv']) (by simp [World.shape?, hh]) (by omega) (obj_free hv' _) (obj_free hv' _)]
      rfl
    have hov0 := hov w (Keep.refl _ _)
    have kTo := fun w' => cutTo TPa g 0 n c (n + 1) hroom w'
    have k1 := fun w' => cutFrom TPa rfl g 0 (n + 1) c 1 (by omega) (by omega) w'
    have k00 := fun w' => cutFrom TPa rfl g 0 (n + 1) c 0 (by omega) (by omega) w'
    simp only [Nat.sub_zero, Nat.add_zero, Nat.zero_add, Nat.add_sub_cancel] at k1 k00 kTo
    rw [show ((0 : Nat) : Int) = 0 from rfl] at k00
    rw [show ((1 : Nat) : Int) = 1 from rfl] at k1
    rw [show ((n + 1 : Nat) : Int) = (n : Int) + 1 by omega] at kTo
    have hy : ∃ y, ys = [y] := by
      match ys, hys with
      | [y], _ => exact ⟨y, rfl⟩
      | [], h => simp at h
      | _ :: _ :: _, h => simp at h
    obtain ⟨y, rfl⟩ := hy
    have copy1 : ∀ W, Keep [] w W → ∀ ty, (Builtin.copy_ #[22, 22] ty #[.slice (some ⟨g, 1, none⟩) n (c - 1), .slice (some ⟨g, 0, none⟩) (n + 1) c]).run Try.prog W = .ok (goInt vs.length) (W.setCells g 1 vs) := fun W k ty => by
      have rr := r2.keep k (by simp)
      refine run_copyR TPa rfl W ty g 1 n (c - 1) g 0 (n + 1) c vs (by rw [hvl]; simp) (fun j v hj => ?_) (fun j hj => rr.there (by omega)) h1
      rw [Nat.zero_add]
      exact rr.cell (by rw [List.getElem?_append_left (List.getElem?_eq_some_iff.1 hj).1]; exact hj)
    have rs1 : ∀ W, Keep [] w W → Row (W.setCells g 1 vs) 27 g (n + 1) c ((vs ++ [y]).take 1 ++ vs) := fun W k => by
      have := Row.sets vs 1 _ W (r2.keep k (by simp)) (by omega)
      unfold spl at this
      rwa [List.drop_eq_nil_of_le (by simp; omega), List.append_nil] at this
    have ks1 := fun W => Keep.setCellsS g vs 1 W
    have hl1 : ((vs ++ [y]).take 1).length = 1 := by simp
    generalize (vs ++ [y]).take 1 = y1 at rs1 hl1
    clear hov r2 hys
    go_enter Try.func113, Try.ntmps113
    go_upto_region 15 with (simp only [hov0])
    refine wp_region_R (segL w) (by kernel_rfl) segL_drew ?_
    unfold segL segK segR
    repeat (first | (refine wpV_skp rfl rfl ?_; simp only [List.set_cons_succ, List.set_cons_zero]) | (refine wpV_look rfl rfl rfl rfl rfl (fun K hK => ?_); go_big_quiet_op; refine hK _ ?_; clear hK K))
    refine wpV_tn rfl rfl (by kernel_rfl) (fun w4 hC hF => ?_)
    obtain ⟨⟨w4, hk4, -⟩, rfl⟩ := hC
    refine yields_run (run_exec_copy (copy1 w4 hk4 _)) ⟨segL (w4.setCells g 1 vs), segL_at, ?_⟩
    have r5 := rs1 w4 hk4
    have k5 := (Keep.of_nil (fp := [g]) hk4).trans (ks1 w4)
    have c5 := k5.cell hvc (by simp; exact hgv)
    clear copy1 rs1 ks1 hF hov0
    unfold segL segK segR
    refine wpV_nil ?_
    intro w5 hC hF
    obtain ⟨⟨w5, hk5, -⟩, rfl⟩ := hC
    clear hF
    have r6 := r5.keep hk5 (by simp)
    have k6 := k5.trans (Keep.of_nil hk5)
    have c6 := hk5.cell c5 (by simp)
    have copy2 : ∀ ty, (Builtin.copy_ #[22, 22] ty #[.slice (some ⟨g, 0, none⟩) (n + 1) c, .slice (some ⟨vb, 0, none⟩) 1 1]).run Try.prog w5 = .ok (goInt 1) (w5.setCells g 0 [x]) := fun ty =>
      run_copyR TPa rfl w5 ty g 0 (n + 1) c vb 0 1 1 [x] (by simp) (fun j v hj => by
        have hj0 : j = 0 := by have := (List.getElem?_eq_some_iff.1 hj).1; simpa using this
        subst hj0
        rw [Nat.zero_add]
        cases hj
        exact c6) (fun j hj => by rw [Nat.zero_add]; exact r6.there (by simp at hj; omega)) (by simpa using hx1)
    have r7 : Row (w5.setCells g 0 [x]) 27 g (n + 1) c (x :: vs) := by
      have := Row.sets [x] 0 _ w5 r6 (by simp)
      have e : spl (y1 ++ vs) 0 [x] = x :: vs := by
        match y1, hl1 with
        | [y2], _ => rfl
      rwa [e] at this
    have k7 := k6.trans (Keep.setCellsS g [x] 0 w5)
    clear r5 r6 k5 k6 c5 c6 hk4 hk5 r
    go_wp2_with (refine wpList_copyR rfl rfl (copy2 _) ?_)
    exact hR _ _ _ (r7.own (by simpa [hx1] using h1)) ⟨[g], k7, fun y hy => by
      obtain rfl : y = g := by simpa using hy
      exact ⟨by simp [blk], hcur⟩⟩ (fun y hy => .inl hy)
  · have hgrow : ∀ ty, ∃ G w1, (Builtin.append_ #[22, 3] ty #[.slice (some ⟨g, 0, none⟩) 0 c, .int .i64 ((n : Int) + 1)]).run Try.prog w = .ok (.slice (some ⟨w.heap.size, 0, none⟩) (n + 1) G) w1 ∧ n + 1 ≤ G ∧ G ≤ maxLen ∧ (∃ ys, Row w1 27 w.heap.size (n + 1) G ys) ∧ Grow w w1 := fun ty => by
      obtain ⟨i0, z0, hi, hz, hs, hby, hzs, hp⟩ := TPa.info
      have hold : (Builtin.firstCells i0.size 0 (.slice (some ⟨g, 0, none⟩) 0 c)).run Try.prog w.drew = .ok ([] : List Value).toArray w.drew := run_firstCells_some w.drew i0.size 0 ⟨g, 0, none⟩ 0 c [] (by simp) (by simp)
      have h := Lib.run_append_grow_zeros w 22 3 ty 27 i0 _ .i64 .i64 TPa.und Try.underlying3 hi hz (some ⟨g, 0, none⟩) 0 c [] hold (n + 1) (by omega) (by omega) (by omega) (by omega) (by rw [hby]; omega) (by rw [hby]; exact growslice_fits (by omega) (by omega))
      rw [show ((n + 1 : Nat) : Int) = (n : Int) + 1 by omega, Nat.zero_add] at h
      refine ⟨_, _, h, grownCap_ge _ _ _ _, grownCap_le_maxLen _ _ _ _ (by omega), ⟨_, Row.mk' (heap_alloc_new w.drew _) (grownCap_ge _ _ _ _) (grownCap_le_maxLen _ _ _ _ (by omega)) ?_⟩, (Grow.drew w).trans (Grow.alloc _ _)⟩
      have := grownCap_ge w (n + 1) c 27
      simp [Builtin.zeroCells, hzs]
      omega
    obtain ⟨G, w1, hrun, hG1, hG2, ⟨ys, r1⟩, g1⟩ := hgrow 22
    obtain ⟨N, hN⟩ : ∃ N, N = w.heap.size := ⟨_, rfl⟩
    rw [← hN] at hrun r1
    have hlN : g < N := by omega
    have hNs : Fr [N] w := fun y hy => by simp at hy; omega
    have hvN : vb < N := by have := (Array.getElem?_eq_some_iff.1 hv).1; omega
    clear hgrow hN hv
    have kT0 := fun w' => cutTo TPa g 0 n c 0 (by omega) w'
    have kF0 := fun w' => cutFrom TPa rfl N 0 (n + 1) G 0 (by omega) (by omega) w'
    have kF1 := fun w' => cutFrom TPa rfl N 0 (n + 1) G 1 (by omega) (by omega) w'
    simp only [Nat.sub_zero, Nat.add_zero, Nat.zero_add, Nat.add_sub_cancel] at kT0 kF0 kF1
    rw [show ((0 : Nat) : Int) = 0 from rfl] at kT0 kF0
    rw [show ((1 : Nat) : Int) = 1 from rfl] at kF1
    have c1 := g1.cell hvc
    have copy1 : ∀ ty, (Builtin.copy_ #[22, 22] ty #[.slice (some ⟨N, 0, none⟩) (n + 1) G, .slice (some ⟨vb, 0, none⟩) 1 1]).run Try.prog w1 = .ok (goInt 1) (w1.setCells N 0 [x]) := fun ty =>
      run_copyR TPa rfl w1 ty N 0 (n + 1) G vb 0 1 1 [x] (by simp) (fun j v hj => by
        have hj0 : j = 0 := by have := (List.getElem?_eq_some_iff.1 hj).1; simpa using this
        subst hj0
        rw [Nat.zero_add]
        cases hj
        exact c1) (fun j hj => by rw [Nat.zero_add]; exact r1.there (by simp at hj; omega)) (by simpa using hx1)
    have r2 := Row.sets [x] 0 ys w1 r1 (by simp)
    have hsp : spl ys 0 [x] = x :: ys.drop 1 := by simp [spl]
    rw [hsp] at r2
    have k2 := Keep.setCellsS N [x] 0 w1
    have rg := (r.keep (Keep.of_grow [] g1) (by simp)).keep k2 (by simp; omega)
    have g2 := g1.then k2 hNs
    clear hsp c1 r1
    have hfin : ∀ W, Keep [] (w1.setCells N 0 [x]) W → (∀ ty, (Builtin.copy_ #[22, 22] ty #[.slice (some ⟨N, 1, none⟩) n (G - 1), .slice (some ⟨g, 0, none⟩) n c]).run Try.prog W = .ok (goInt vs.length) (W.setCells N 1 vs)) ∧ Own (W.setCells N 1 vs) 27 1 (some ⟨N, 0, none⟩) (n + 1) G (x :: vs) ∧ Grow w (W.setCells N 1 vs) := fun W k => by
      have rr := r2.keep k (by simp)
      have rs := rg.keep k (by simp)
      refine ⟨fun ty => run_copyR TPa rfl W ty N 1 n (G - 1) g 0 n c vs (by rw [hvl]; simp) (fun j v hj => by rw [Nat.zero_add]; exact rs.cell hj) (fun j hj => rr.there (by omega)) h1, ?_, (g2.trans k.grow).then (Keep.setCellsS N vs 1 W) hNs⟩
      have h := Row.sets vs 1 _ W rr (by omega)
      have e : spl (x :: ys.drop 1) 1 vs = x :: vs := by
        have h5 : ys.length - 1 = n := by
          have := r2.form.choose_spec.2.2.2.2.2
          simpa using this
        simp [spl, hvl]
        omega
      rw [e] at h
      exact h.own (by simpa [hx1] using h1)
    generalize w1.setCells N 0 [x] = w2 at *
    clear r2 rg k2 r hvc hvl h1
    have hcn : decide ((c : Int) < (n : Int) + 1) = true := by simp; omega
    go_enter Try.func113, Try.ntmps113
    go_upto_region 9 with (fail)
    refine wp_region_lit ?_
    iterate 24 go_step
    refine wpList_appendR rfl rfl hrun ?_
    go_upto_region 10 with (fail)
    refine wp_region_lit ?_
    iterate 12 go_step
    refine wpList_copyL rfl rfl (copy1 _) ?_
    simp only [List.set_cons_succ, List.set_cons_zero]
    clear copy1 hrun
    go_upto_region 11 with (fail)
    refine wp_region_R (segL w2) (by kernel_rfl) segL_drew ?_
    unfold segL segK segR
    repeat (first | (refine wpV_skp rfl rfl ?_; simp only [List.set_cons_succ, List.set_cons_zero]) | (refine wpV_look rfl rfl rfl rfl rfl (fun K hK => ?_); go_big_quiet_op; refine hK _ ?_; clear hK K))
    refine wpV_tn rfl rfl (by kernel_rfl) (fun w4 hC hF => ?_)
    obtain ⟨⟨w4, hk4, -⟩, rfl⟩ := hC
    obtain ⟨hcp, hown, hgr⟩ := hfin w4 hk4
    refine yields_run (run_exec_copy (hcp _)) ⟨segL (w4.setCells N 1 vs), segL_at, ?_⟩
    unfold segL segK segR
    refine wpV_nil ?_
    intro w5 hC hF2
    obtain ⟨⟨w5, hk5, -⟩, rfl⟩ := hC
    have o5 := hown.keep hk5 (by simp)
    have g5 := hgr.trans hk5.grow
    have hs5 := hNs N (by simp)
    clear hF hF2 hfin hown hgr hcp hk4 hk5 g2
    go_wp2_with fail
    exact hR _ _ _ o5 ⟨[], Keep.of_grow [] g5, by simp⟩ (fun y hy => by simp [blk] at hy; subst hy; exact .inr hs5)
end Go.Proofs.Ytfmnkcmicbnfdaa
