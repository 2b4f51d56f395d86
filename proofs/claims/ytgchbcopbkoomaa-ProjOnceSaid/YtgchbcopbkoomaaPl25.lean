/- Areas of a disk: plan.Has, Overlap, counts, Inside, Split, May, Whole. -/
import Derived.Test.YtgchbcopbkoomaaP25
import Derived.Test.YtgchbcopbkoomaaT25
import Derived.Test.YtgchbcopbkoomaaSegB
namespace Go.Proofs.Ytgchbcopbkoomaa
open Go Go.RowKit

structure Ar.ok (a : Ar) : Prop where
  f0 : 0 ≤ a.f
  f1 : a.f ≤ 1000000
  c0 : 0 ≤ a.c
  c1 : a.c ≤ 1000000
def arV (a : Ar) : List Value := [.int .i64 a.f, .int .i64 a.c]
def Ar.ag (a : Ar) : Value := .agg #[.int .i64 a.f, .int .i64 a.c]

set_option maxRecDepth 100000 in
set_option maxHeartbeats 2000000 in
theorem hasAC (a : Ar) (ha : a.ok) (at_ : Int) (h0 : 0 ≤ at_) (h1 : at_ ≤ 1000000) (w : World) (R : Ending → World → Prop) (hR : ∀ w', Grow w w' → R (.returned (.bool (hasS a at_))) w') :
    Calls Try.prog 40 #[.agg #[.int .i64 a.f, .int .i64 a.c], .int .i64 at_] w R := by
  obtain ⟨f, c⟩ := a
  obtain ⟨a1, a2, a3, a4⟩ := ha
  simp only at a1 a2 a3 a4
  have ga := Grow.alloc w (.cells #[.int .i64 f, .int .i64 c] 54)
  by_cases h2 : 0 < c
  · have d1 : decide (0 < c) = true := decide_eq_true h2
    by_cases h3 : f ≤ at_
    · have d2 : decide (f ≤ at_) = true := decide_eq_true h3
      have e : hasS ⟨f, c⟩ at_ = decide (at_ - f < c) := by simp [hasS, h2, h3]
      rw [e] at hR
      have hf := hR _ ga
      clear hR e ga
      go_enter Try.func40, Try.ntmps40
      go_wp2_with fail
      exact hf
    · have d2 : decide (f ≤ at_) = false := decide_eq_false h3
      have e : hasS ⟨f, c⟩ at_ = false := by simp [hasS, h3]
      rw [e] at hR
      have hf := hR _ ga
      clear hR e ga
      go_enter Try.func40, Try.ntmps40
      go_wp2_with fail
      exact hf
  · have d1 : decide (0 < c) = false := decide_eq_false h2
    have e : hasS ⟨f, c⟩ at_ = false := by simp [hasS, h2]
    rw [e] at hR
    have hf := hR _ ga
    clear hR e ga
    go_enter Try.func40, Try.ntmps40
    go_wp2_with fail
    exact hf

set_option maxRecDepth 100000 in
set_option maxHeartbeats 4000000 in
theorem lapC (a b : Ar) (ha : a.ok) (hb : b.ok) (w : World) (R : Ending → World → Prop) (hR : ∀ w', Grow w w' → R (.returned (.bool (lapS a b))) w') :
    Calls Try.prog 37 #[.agg #[.int .i64 a.f, .int .i64 a.c], .agg #[.int .i64 b.f, .int .i64 b.c]] w R := by
  have h1 := fun w => hasAC a ha b.f hb.f0 hb.f1 w
  have h2 := fun w => hasAC b hb a.f ha.f0 ha.f1 w
  have hL : lapS a b = ((decide (0 < b.c) && hasS a b.f) || (decide (0 < a.c) && hasS b a.f)) := rfl
  obtain ⟨u, hu⟩ : ∃ u, u = hasS a b.f := ⟨_, rfl⟩
  obtain ⟨v, hv⟩ : ∃ v, v = hasS b a.f := ⟨_, rfl⟩
  simp only [← hu] at h1
  simp only [← hv] at h2
  rw [← hu, ← hv] at hL
  obtain ⟨f, c⟩ := a
  obtain ⟨f2, c2⟩ := b
  simp only at h1 h2 hL
  clear hu hv ha hb
  have g0 := Grow.alloc w (.cells #[.int .i64 f, .int .i64 c] 54)
  have ga := Grow.alloc (w.alloc (.cells #[.int .i64 f, .int .i64 c] 54)) (.cells #[.int .i64 f2, .int .i64 c2] 54)
  have g1 := g0.trans ga
  have o0 := ga.block (alloc_new w (.cells #[.int .i64 f, .int .i64 c] 54))
  have o1 := alloc_new (w.alloc (.cells #[.int .i64 f, .int .i64 c] 54)) (.cells #[.int .i64 f2, .int .i64 c2] 54)
  rw [sz_al] at o1
  by_cases hc2 : 0 < c2
  · have d1 : decide (0 < c2) = true := decide_eq_true hc2
    rw [d1, Bool.true_and] at hL
    go_enter Try.func37, Try.ntmps37
    go_wp2_with fail
    refine h1 _ _ ?_
    clear h1
    intro w' g'
    have G := g1.trans g'
    have p0 := g'.block o0
    have p1 := g'.block o1
    have c00 := obj_cell p0 0 rfl
    have c01 := obj_cell p0 1 rfl
    have c10 := obj_cell p1 0 rfl
    have c11 := obj_cell p1 1 rfl
    clear o0 o1 g0 ga g1 g' p0 p1
    cases u with
    | true =>
      rw [Bool.true_or] at hL
      have hf := hR w' G
      rw [hL] at hf
      clear hR hL
      go_wp2_with fail
      exact hf
    | false =>
      rw [Bool.false_or] at hL
      by_cases hc : 0 < c
      · have d2 : decide (0 < c) = true := decide_eq_true hc
        rw [d2, Bool.true_and] at hL
        go_wp2_with fail
        refine h2 _ _ ?_
        clear h2
        intro w2 g2
        have hf := hR w2 (G.trans g2)
        rw [hL] at hf
        clear hR hL c00 c01 c10 c11
        go_wp2_with fail
        exact hf
      · have d2 : decide (0 < c) = false := decide_eq_false hc
        rw [d2, Bool.false_and] at hL
        have hf := hR w' G
        rw [hL] at hf
        clear hR hL
        go_wp2_with fail
        exact hf
  · have d1 : decide (0 < c2) = false := decide_eq_false hc2
    rw [d1, Bool.false_and, Bool.false_or] at hL
    by_cases hc : 0 < c
    · have d2 : decide (0 < c) = true := decide_eq_true hc
      rw [d2, Bool.true_and] at hL
      go_enter Try.func37, Try.ntmps37
      go_wp2_with fail
      refine h2 _ _ ?_
      intro w2 g2
      have hf := hR w2 (g1.trans g2)
      rw [hL] at hf
      clear hR hL
      go_wp2_with fail
      exact hf
    · have d2 : decide (0 < c) = false := decide_eq_false hc
      rw [d2, Bool.false_and] at hL
      have hf := hR _ g1
      rw [hL] at hf
      clear hR hL o0 o1
      go_enter Try.func37, Try.ntmps37
      go_wp2_with fail
      exact hf

theorem outD_ok (S : Nat) (h2 : S ≤ 300) : (outD S).ok := by
  unfold outD
  constructor <;> simp only <;> omega
set_option maxRecDepth 100000 in
set_option maxHeartbeats 2000000 in
theorem countsC (a : Ar) (h1 : a.ok) (h2 : 1 ≤ a.c) (w : World) (R : Ending → World → Prop) (hR : ∀ w', Grow w w' → R (.returned (.bool true)) w') :
    Calls Try.prog 39 #[.agg #[.int .i64 a.f, .int .i64 a.c]] w R := by
  obtain ⟨f, c⟩ := a
  obtain ⟨a1, a2, a3, a4⟩ := h1
  simp only at a1 a2 a3 a4 h2
  have ga := Grow.alloc w (.cells #[.int .i64 f, .int .i64 c] 54)
  have d1 : decide (0 ≤ f) = true := decide_eq_true a1
  have d2 : decide (f ≤ 1048576) = true := decide_eq_true (by omega)
  have d3 : decide (1 ≤ c) = true := decide_eq_true h2
  have d4 : decide (c ≤ 1048576) = true := decide_eq_true (by omega)
  have hf := hR _ ga
  clear hR ga
  go_enter Try.func39, Try.ntmps39
  go_wp2_with fail
  exact hf

theorem i2 : (Try.prog.info? 54).map (·.size) = some 2 := by kernel_rfl
set_option maxRecDepth 100000 in
theorem mayC (S : Nat) (h1 : 96 ≤ S) (h2 : S ≤ 300) (w : World) (R : Ending → World → Prop) (hR : R (.returned (.bool true)) w) :
    Calls Try.prog 26 #[.int .i64 (S : Int)] w R := by
  have d1 : decide (96 ≤ (S : Int)) = true := decide_eq_true (by omega)
  have d2 : decide ((S : Int) ≤ 65536) = true := decide_eq_true (by omega)
  go_enter Try.func26, Try.ntmps26
  go_wp2_with fail
  exact hR
set_option maxRecDepth 100000 in
set_option maxHeartbeats 4000000 in
theorem wholeC (S : Nat) (h1 : 96 ≤ S) (h2 : S ≤ 300) (w : World) (R : Ending → World → Prop)
    (hR : ∀ w', Grow w w' → R (.returned (.tuple #[.agg #[.int .i64 8, .int .i64 ((S - 16 : Nat) : Int)], .bool true])) w') :
    Calls Try.prog 21 #[.int .i64 (S : Int)] w R := by
  have hm := fun w => mayC S h1 h2 w
  have hS : (S : Int) - 16 = ((S - 16 : Nat) : Int) := by omega
  obtain ⟨s, hs⟩ : ∃ s, s = S - 16 := ⟨_, rfl⟩
  rw [← hs] at hR hS
  have HR := Lib.hid hR
  clear hs hR
  go_enter Try.func21, Try.ntmps21
  go_wp2_with fail
  refine hm _ _ ?_
  clear hm
  go_wp2_with fail
  exact bodyPost_ret (v := .tuple #[.agg #[.int .i64 8, .int .i64 (s : Int)], .bool true]) (by simp [results, Try.results21, go_sem]) rfl (HR.out _ (Grow.alloc w _))
theorem ret_two {P : Program} {fn : Func} {p q : Tmp} {ty : TypeId} (h : fn.results = #[.cell p ty, .tmp q]) (tmps : Array Value) (w : World) (g : Nat) (cs : List Value) (v : Value) (d : TypeDesc)
    (hp : tmps.getD p undef = .pointer (some ⟨g, 0, none⟩)) (hq : tmps.getD q undef = v) (hc : w.rangeAt g 0 cs) (hu : P.underlying ty = some d) (hd : d.isRow = true) (hi : (P.info? ty).map (·.size) = some cs.length) :
    (results fn tmps).run P w = .ok (.tuple #[.agg cs.toArray, v]) w := by
  have hp' : tmps[p]?.getD undef = .pointer (some ⟨g, 0, none⟩) := by simpa using hp
  have hq' : tmps[q]?.getD undef = v := by simpa using hq
  simp [results, h, hp', hq', asAddr, run_loadVar_mid w g 0 ty cs d hc hu hd hi]
theorem ret_three {P : Program} {fn : Func} {p p2 q : Tmp} {ty : TypeId} (h : fn.results = #[.cell p ty, .cell p2 ty, .tmp q]) (tmps : Array Value) (w : World) (g g2 : Nat) (cs cs2 : List Value) (v : Value) (d : TypeDesc)
    (hp : tmps.getD p undef = .pointer (some ⟨g, 0, none⟩)) (hp2 : tmps.getD p2 undef = .pointer (some ⟨g2, 0, none⟩)) (hq : tmps.getD q undef = v) (hc : w.rangeAt g 0 cs) (hc2 : w.rangeAt g2 0 cs2) (hu : P.underlying ty = some d) (hd : d.isRow = true) (hi : (P.info? ty).map (·.size) = some cs.length) (hi2 : (P.info? ty).map (·.size) = some cs2.length) :
    (results fn tmps).run P w = .ok (.tuple #[.agg cs.toArray, .agg cs2.toArray, v]) w := by
  have hp' : tmps[p]?.getD undef = .pointer (some ⟨g, 0, none⟩) := by simpa using hp
  have hp2' : tmps[p2]?.getD undef = .pointer (some ⟨g2, 0, none⟩) := by simpa using hp2
  have hq' : tmps[q]?.getD undef = v := by simpa using hq
  simp [results, h, hp', hp2', hq', asAddr, run_loadVar_mid w g 0 ty cs d hc hu hd hi, run_loadVar_mid w g2 0 ty cs2 d hc2 hu hd hi2]
theorem own2 {w : World} {g : Nat} {x y a b : Value} (o : Own w 54 1 (some ⟨g, 0, none⟩) 2 2 [x, y]) (ha : a.oneCell' = true) (hb : b.oneCell' = true) : Own ((w.setCell ⟨g, 0, none⟩ a).setCell ⟨g, 1, none⟩ b) 54 1 (some ⟨g, 0, none⟩) 2 2 [a, b] := by
  obtain ⟨g1, v1, e1, -, -, p1⟩ := own_put o (i := 0) (by omega)
  cases e1
  obtain ⟨g2, v2, e2, -, -, p2⟩ := own_put (p1 a ha) (i := 1) (by omega)
  cases e2
  exact p2 b hb

set_option maxRecDepth 100000 in
set_option maxHeartbeats 8000000 in
theorem insideC (S : Nat) (h1 : 96 ≤ S) (h2 : S ≤ 300) (first count : Int) (w : World) (R : Ending → World → Prop)
    (hR : ∀ w', Grow w w' → R (.returned (.tuple #[if insideS S first count = true then .agg #[.int .i64 ((outD S).f + first), .int .i64 count] else .agg #[.int .i64 0, .int .i64 0], .bool (insideS S first count)])) w') :
    Calls Try.prog 35 #[.agg #[.int .i64 (outD S).f, .int .i64 (outD S).c], .int .i64 first, .int .i64 count] w R := by
  have ho := outD_ok S h2
  have hc1 : 1 ≤ (outD S).c := by unfold outD; simp only; omega
  have hI : insideS S first count = (decide (0 ≤ first) && (decide (48 ≤ count) && (decide (count ≤ (outD S).c) && decide (first ≤ (outD S).c - count)))) := rfl
  have hcn := fun w => countsC (outD S) ho hc1 w
  obtain ⟨a1, a2, a3, a4⟩ := ho
  obtain ⟨I, hI0⟩ : ∃ I, I = insideS S first count := ⟨_, rfl⟩
  rw [← hI0] at hI
  simp only [← hI0] at hR
  obtain ⟨D, hD⟩ : ∃ D, D = outD S := ⟨_, rfl⟩
  rw [← hD] at hI a1 a2 a3 a4 hc1 ⊢
  simp only [← hD] at hcn hR
  clear hI0 hD
  obtain ⟨f, c⟩ := D
  simp only at hI hcn hR a1 a2 a3 a4 hc1
  have HR := Lib.hid hR
  clear hR
  have ga := Grow.alloc w (.cells #[.int .i64 f, .int .i64 c] 54)
  have gb := Grow.alloc (w.alloc (.cells #[.int .i64 f, .int .i64 c] 54)) (.cells #[.int .i64 0, .int .i64 0] 54)
  have gg := ga.trans gb
  have o0 := gb.block (alloc_new w (.cells #[.int .i64 f, .int .i64 c] 54))
  have o1 : Own ((w.alloc (.cells #[.int .i64 f, .int .i64 c] 54)).alloc (.cells #[.int .i64 0, .int .i64 0] 54)) 54 1 (some ⟨(w.alloc (.cells #[.int .i64 f, .int .i64 c] 54)).heap.size, 0, none⟩) 2 2 [.int .i64 0, .int .i64 0] := Own.made (n := 2) (sz := 1) (heap_alloc_new _ _) rfl (by decide) (by simp [Value.oneCell'])
  rw [sz_al] at o1
  clear ga gb
  obtain ⟨q, hq⟩ : ∃ q, q = w.heap.size + 1 := ⟨_, rfl⟩
  by_cases e1 : 0 ≤ first
  · have d1 : decide (first < 0) = false := decide_eq_false (by omega)
    by_cases e2 : 48 ≤ count
    · have d2 : decide (count < 48) = false := decide_eq_false (by omega)
      by_cases e3 : count ≤ c
      · have d3 : decide (c < count) = false := decide_eq_false (by omega)
        by_cases e4 : first ≤ c - count
        · have d4 : decide (c - count < first) = false := decide_eq_false (by omega)
          obtain rfl : I = true := by rw [hI]; simp [e1, e2, e3, e4]
          clear hI
          go_enter Try.func35, Try.ntmps35
          go_wp2_with fail
          refine hcn _ _ ?_
          clear hcn
          intro w2 g2
          have p0 := g2.block o0
          have c0 := obj_cell p0 0 rfl
          have c1 := obj_cell p0 1 rfl
          have p1 := o1.grow g2
          have z2 := g2.size
          have G := gg.trans g2
          rw [← hq] at p1 ⊢
          have hqs : w.heap.size < q := by omega
          obtain ⟨_, u1, e5, b0, f1, -⟩ := own_put p1 (i := 0) (by omega)
          cases e5
          obtain ⟨_, u2, e5, b1, f2, -⟩ := own_put p1 (i := 1) (by omega)
          cases e5
          have hgr : ∀ x y : Value, Grow w ((w2.setCell ⟨q, 0, none⟩ x).setCell ⟨q, 1, none⟩ y) := fun x y => G.then ((Keep.setCell (fp := [q]) w2 ⟨q, 0, none⟩ (by simp) x).trans (Keep.setCell (fp := [q]) _ ⟨q, 1, none⟩ (by simp) y)) (fun y hy => by simp at hy; omega)
          clear o0 o1 g2 p0 hq gg
          go_wp2_with fail
          have o3 := own2 p1 (a := .int .i64 (f + first)) (b := .int .i64 count) rfl rfl
          have hf := HR.out _ (hgr (.int .i64 (f + first)) (.int .i64 count))
          clear HR
          simp only [if_true] at hf
          exact bodyPost_ret (v := .tuple #[.agg #[.int .i64 (f + first), .int .i64 count], .bool true]) (ret_two Try.results35 _ _ q [.int .i64 (f + first), .int .i64 count] _ _ rfl rfl (own_range o3 (by decide)) Try.underlying54 rfl i2) rfl hf
        · have d4 : decide (c - count < first) = true := decide_eq_true (by omega)
          obtain rfl : I = false := by rw [hI]; simp [e4]
          clear hI
          go_enter Try.func35, Try.ntmps35
          go_wp2_with fail
          refine hcn _ _ ?_
          clear hcn
          intro w2 g2
          have p0 := g2.block o0
          have c0 := obj_cell p0 0 rfl
          have c1 := obj_cell p0 1 rfl
          have p1 := o1.grow g2
          have z2 := g2.size
          have G := gg.trans g2
          rw [← hq] at p1 ⊢
          have hqs : w.heap.size < q := by omega
          obtain ⟨_, u1, e5, b0, f1, -⟩ := own_put p1 (i := 0) (by omega)
          cases e5
          obtain ⟨_, u2, e5, b1, f2, -⟩ := own_put p1 (i := 1) (by omega)
          cases e5
          have hgr : ∀ x y : Value, Grow w ((w2.setCell ⟨q, 0, none⟩ x).setCell ⟨q, 1, none⟩ y) := fun x y => G.then ((Keep.setCell (fp := [q]) w2 ⟨q, 0, none⟩ (by simp) x).trans (Keep.setCell (fp := [q]) _ ⟨q, 1, none⟩ (by simp) y)) (fun y hy => by simp at hy; omega)
          clear o0 o1 g2 p0 hq gg
          go_wp2_with fail
          have o3 := own2 p1 (a := .int .i64 0) (b := .int .i64 0) rfl rfl
          have hf := HR.out _ (hgr (.int .i64 0) (.int .i64 0))
          clear HR
          simp only [if_false, Bool.false_eq_true] at hf
          exact bodyPost_ret (v := .tuple #[.agg #[.int .i64 0, .int .i64 0], .bool false]) (ret_two Try.results35 _ _ q [.int .i64 0, .int .i64 0] _ _ rfl rfl (own_range o3 (by decide)) Try.underlying54 rfl i2) rfl hf
      · have d3 : decide (c < count) = true := decide_eq_true (by omega)
        obtain rfl : I = false := by rw [hI]; simp [e3]
        clear hI
        go_enter Try.func35, Try.ntmps35
        go_wp2_with fail
        refine hcn _ _ ?_
        clear hcn
        intro w2 g2
        have p0 := g2.block o0
        have c0 := obj_cell p0 0 rfl
        have c1 := obj_cell p0 1 rfl
        have p1 := o1.grow g2
        have z2 := g2.size
        have G := gg.trans g2
        rw [← hq] at p1 ⊢
        have hqs : w.heap.size < q := by omega
        obtain ⟨_, u1, e5, b0, f1, -⟩ := own_put p1 (i := 0) (by omega)
        cases e5
        obtain ⟨_, u2, e5, b1, f2, -⟩ := own_put p1 (i := 1) (by omega)
        cases e5
        have hgr : ∀ x y : Value, Grow w ((w2.setCell ⟨q, 0, none⟩ x).setCell ⟨q, 1, none⟩ y) := fun x y => G.then ((Keep.setCell (fp := [q]) w2 ⟨q, 0, none⟩ (by simp) x).trans (Keep.setCell (fp := [q]) _ ⟨q, 1, none⟩ (by simp) y)) (fun y hy => by simp at hy; omega)
        clear o0 o1 g2 p0 hq gg
        go_wp2_with fail
        have o3 := own2 p1 (a := .int .i64 0) (b := .int .i64 0) rfl rfl
        have hf := HR.out _ (hgr (.int .i64 0) (.int .i64 0))
        clear HR
        simp only [if_false, Bool.false_eq_true] at hf
        exact bodyPost_ret (v := .tuple #[.agg #[.int .i64 0, .int .i64 0], .bool false]) (ret_two Try.results35 _ _ q [.int .i64 0, .int .i64 0] _ _ rfl rfl (own_range o3 (by decide)) Try.underlying54 rfl i2) rfl hf
    · have d2 : decide (count < 48) = true := decide_eq_true (by omega)
      obtain rfl : I = false := by rw [hI]; simp [e2]
      clear hI
      go_enter Try.func35, Try.ntmps35
      go_wp2_with fail
      refine hcn _ _ ?_
      clear hcn
      intro w2 g2
      have p0 := g2.block o0
      have c0 := obj_cell p0 0 rfl
      have c1 := obj_cell p0 1 rfl
      have p1 := o1.grow g2
      have z2 := g2.size
      have G := gg.trans g2
      rw [← hq] at p1 ⊢
      have hqs : w.heap.size < q := by omega
      obtain ⟨_, u1, e5, b0, f1, -⟩ := own_put p1 (i := 0) (by omega)
      cases e5
      obtain ⟨_, u2, e5, b1, f2, -⟩ := own_put p1 (i := 1) (by omega)
      cases e5
      have hgr : ∀ x y : Value, Grow w ((w2.setCell ⟨q, 0, none⟩ x).setCell ⟨q, 1, none⟩ y) := fun x y => G.then ((Keep.setCell (fp := [q]) w2 ⟨q, 0, none⟩ (by simp) x).trans (Keep.setCell (fp := [q]) _ ⟨q, 1, none⟩ (by simp) y)) (fun y hy => by simp at hy; omega)
      clear o0 o1 g2 p0 hq gg
      go_wp2_with fail
      have o3 := own2 p1 (a := .int .i64 0) (b := .int .i64 0) rfl rfl
      have hf := HR.out _ (hgr (.int .i64 0) (.int .i64 0))
      clear HR
      simp only [if_false, Bool.false_eq_true] at hf
      exact bodyPost_ret (v := .tuple #[.agg #[.int .i64 0, .int .i64 0], .bool false]) (ret_two Try.results35 _ _ q [.int .i64 0, .int .i64 0] _ _ rfl rfl (own_range o3 (by decide)) Try.underlying54 rfl i2) rfl hf
  · have d1 : decide (first < 0) = true := decide_eq_true (by omega)
    obtain rfl : I = false := by rw [hI]; simp [e1]
    clear hI
    go_enter Try.func35, Try.ntmps35
    go_wp2_with fail
    refine hcn _ _ ?_
    clear hcn
    intro w2 g2
    have p0 := g2.block o0
    have c0 := obj_cell p0 0 rfl
    have c1 := obj_cell p0 1 rfl
    have p1 := o1.grow g2
    have z2 := g2.size
    have G := gg.trans g2
    rw [← hq] at p1 ⊢
    have hqs : w.heap.size < q := by omega
    obtain ⟨_, u1, e5, b0, f1, -⟩ := own_put p1 (i := 0) (by omega)
    cases e5
    obtain ⟨_, u2, e5, b1, f2, -⟩ := own_put p1 (i := 1) (by omega)
    cases e5
    have hgr : ∀ x y : Value, Grow w ((w2.setCell ⟨q, 0, none⟩ x).setCell ⟨q, 1, none⟩ y) := fun x y => G.then ((Keep.setCell (fp := [q]) w2 ⟨q, 0, none⟩ (by simp) x).trans (Keep.setCell (fp := [q]) _ ⟨q, 1, none⟩ (by simp) y)) (fun y hy => by simp at hy; omega)
    clear o0 o1 g2 p0 hq gg
    go_wp2_with fail
    have o3 := own2 p1 (a := .int .i64 0) (b := .int .i64 0) rfl rfl
    have hf := HR.out _ (hgr (.int .i64 0) (.int .i64 0))
    clear HR
    simp only [if_false, Bool.false_eq_true] at hf
    exact bodyPost_ret (v := .tuple #[.agg #[.int .i64 0, .int .i64 0], .bool false]) (ret_two Try.results35 _ _ q [.int .i64 0, .int .i64 0] _ _ rfl rfl (own_range o3 (by decide)) Try.underlying54 rfl i2) rfl hf


set_option maxRecDepth 100000 in
set_option maxHeartbeats 4000000 in
theorem split5 (q1 q2 q3 : Nat) (n f c m0 m1 : Int) (hf : 0 ≤ f) (hf1 : f ≤ 1000000) (hm : 0 ≤ m1) (hm1 : m1 ≤ 1000000) {c0 c4 c6 c7 c8 c9 c10 c11 c12 c13 c14 c15 c16 c17 c18 c19 c20 c21 c22 c23 c24 c25 c26 c27 c28 c29 c30 c31 c32 c33 c34 c35 c36 c37 c38 c39 c40 c41 c42 c43 : Value} (w : World) (o1 : w.heap[q1]? = some (.cells #[.int .i64 f, .int .i64 c] 54 (0, 0))) (o2 : Own w 54 1 (some ⟨q2, 0, none⟩) 2 2 [.int .i64 m0, .int .i64 m1]) (o3 : Own w 54 1 (some ⟨q3, 0, none⟩) 2 2 [.int .i64 0, .int .i64 0]) (hd : q2 ≠ q3) (hd1 : q1 ≠ q2 ∧ q1 ≠ q3) {Q : Exit → Act → World → Prop}
    (hQ : ∀ w' : World, Own w' 54 1 (some ⟨q2, 0, none⟩) 2 2 [.int .i64 m0, .int .i64 m1] → Own w' 54 1 (some ⟨q3, 0, none⟩) 2 2 [.int .i64 (f + m1), .int .i64 n] → Keep [q2, q3] w w' → ∀ {u36 u37 u38 u39 u40 u41 u42 u43 : Value}, Q .normal ⟨List.toArray (c0 :: .pointer (some ⟨q1, 0, none⟩) :: .pointer (some ⟨q2, 0, none⟩) :: .pointer (some ⟨q3, 0, none⟩) :: .bool true :: .int .i64 n :: c6 :: c7 :: c8 :: c9 :: c10 :: c11 :: c12 :: c13 :: c14 :: c15 :: c16 :: c17 :: c18 :: c19 :: c20 :: c21 :: c22 :: c23 :: c24 :: c25 :: c26 :: c27 :: c28 :: c29 :: c30 :: c31 :: c32 :: c33 :: c34 :: c35 :: u36 :: u37 :: u38 :: u39 :: u40 :: u41 :: u42 :: u43 :: []), []⟩ w') :
    Code.wp Try.prog (regionAt Try.f22 5) Q ⟨List.toArray (c0 :: .pointer (some ⟨q1, 0, none⟩) :: .pointer (some ⟨q2, 0, none⟩) :: .pointer (some ⟨q3, 0, none⟩) :: c4 :: .int .i64 n :: c6 :: c7 :: c8 :: c9 :: c10 :: c11 :: c12 :: c13 :: c14 :: c15 :: c16 :: c17 :: c18 :: c19 :: c20 :: c21 :: c22 :: c23 :: c24 :: c25 :: c26 :: c27 :: c28 :: c29 :: c30 :: c31 :: c32 :: c33 :: c34 :: c35 :: c36 :: c37 :: c38 :: c39 :: c40 :: c41 :: c42 :: c43 :: []), []⟩ w := by
  have hml : maxLen = 9223372036854775807 := rfl
  have k0 := KW.cell (fp := [q2, q3]) (p0 := tt) (obj_cell o1 0 rfl) (by simp; omega)
  obtain ⟨_, u0, e, c20, -, -⟩ := own_put o2 (i := 0) (by omega)
  cases e
  obtain ⟨gl, off, el, hcs⟩ := o2.sl.hat (by omega)
  cases el
  have k1 := KW.cell (fp := []) (p0 := tt) (hcs.at (i := 0) rfl) (by simp)
  have k2 := KW.cell (fp := []) (p0 := tt) (hcs.at (i := 1) rfl) (by simp)
  simp only [Nat.zero_add, Nat.add_zero] at k1 k2
  have ld : ∀ w', Keep [] w w' → (Instr.loadAt 54 (.pointer (some ⟨q2, 0, none⟩))).run Try.prog w' = .ok (.agg #[.int .i64 m0, .int .i64 m1]) w' := fun w' k => load_arr (P := Try.prog) (n := 2) (X := [.int .i64 m0, .int .i64 m1]) (by decide) rfl (o2.keep k (by simp)) Try.underlying54 rfl i2
  have ld3 : ∀ w', Keep [] w w' → (Instr.loadAt 54 (.pointer (some ⟨q3, 0, none⟩))).run Try.prog w' = .ok (.agg #[.int .i64 0, .int .i64 0]) w' := fun w' k => load_arr (P := Try.prog) (n := 2) (X := [.int .i64 0, .int .i64 0]) (by decide) rfl (o3.keep k (by simp)) Try.underlying54 rfl i2
  clear c20 hcs u0
  conv => arg 2; whnf
  refine RC.wp_region_F (C0 := BaseF [q2, q3] w) [1, 2, 5, 6, 7] (segB [q2, q3] w w (Keep.refl _ w) []) (by kernel_rfl) segB_drew ?_
  unfold segB
  repeat (first | (refine RC.wpV_val rfl rfl rfl rfl rfl _ (fun w hC => by obtain ⟨n, rfl⟩ := hC; exact exec_load (ld _ n.h)) ?_; simp only [List.set_cons_succ, List.set_cons_zero]) | (refine RC.wpV_look rfl rfl rfl rfl rfl (fun K hK => ?_); go_big_quiet_op; refine hK _ ?_; clear hK K) | (refine RC.wpV_free rfl rfl rfl rfl (fun K hK => ?_); unfold BaseF; go_big_quiet_op; refine hK _ ?_; clear hK K))
  refine RC.wpV_tn0 rfl rfl (by kernel_rfl) (fun w2 hC hF => ?_)
  obtain ⟨⟨w2, hk2, -⟩, rfl⟩ := hC
  obtain ⟨r1, p2, k3⟩ := store_arr (P := Try.prog) (X := [.int .i64 m0, .int .i64 m1]) rfl (by simp [Value.oneCell']) (o2.keep hk2 (by simp)) i2
  have p3 := (o3.keep hk2 (by simp)).keep k3 (fun y hy hm => by simp [blk] at hy; subst hy; simp at hm; exact hd hm.symm)
  unfold yields
  rw [exec_store r1]
  simp only [yUpon]
  have K3 := (hk2.mono (by simp)).trans (k3.mono (by simp : ∀ y ∈ [q2], y ∈ [q2, q3]))
  refine ⟨segB [q2, q3] w _ K3 [], segB_at, ?_⟩
  generalize w2.setCells q2 0 [.int .i64 m0, .int .i64 m1] = w3 at *
  unfold segB
  repeat (first | (refine RC.wpV_val rfl rfl rfl rfl rfl _ (fun w hC => by obtain ⟨n, rfl⟩ := hC; exact exec_load (ld _ n.h)) ?_; simp only [List.set_cons_succ, List.set_cons_zero]) | (refine RC.wpV_look rfl rfl rfl rfl rfl (fun K hK => ?_); go_big_quiet_op; refine hK _ ?_; clear hK K) | (refine RC.wpV_free rfl rfl rfl rfl (fun K hK => ?_); unfold BaseF; go_big_quiet_op; refine hK _ ?_; clear hK K))
  refine RC.wpV_tn0 rfl rfl (by kernel_rfl) (fun w7 hC hF => ?_)
  obtain ⟨⟨w7, hk7, -⟩, rfl⟩ := hC
  obtain ⟨r2, p4, k4⟩ := store_arr (P := Try.prog) (X := [.int .i64 (f + m1), .int .i64 n]) rfl (by simp [Value.oneCell']) (p3.keep hk7 (by simp)) i2
  have p5 := (p2.keep hk7 (by simp)).keep k4 (fun y hy hm => by simp [blk] at hy; subst hy; simp at hm; exact hd hm)
  unfold yields
  rw [exec_store r2]
  simp only [yUpon]
  have K4 := (K3.trans (hk7.mono (by simp))).trans (k4.mono (by simp : ∀ y ∈ [q3], y ∈ [q2, q3]))
  refine ⟨segB [q2, q3] w _ K4 [], segB_at, ?_⟩
  generalize w7.setCells q3 0 [.int .i64 (f + m1), .int .i64 n] = w8 at *
  unfold segB
  repeat (first | (refine RC.wpV_val rfl rfl rfl rfl rfl _ (fun w hC => by obtain ⟨n, rfl⟩ := hC; exact exec_load (ld _ n.h)) ?_; simp only [List.set_cons_succ, List.set_cons_zero]) | (refine RC.wpV_look rfl rfl rfl rfl rfl (fun K hK => ?_); go_big_quiet_op; refine hK _ ?_; clear hK K) | (refine RC.wpV_free rfl rfl rfl rfl (fun K hK => ?_); unfold BaseF; go_big_quiet_op; refine hK _ ?_; clear hK K))
  refine RC.wpV_nil ?_
  intro w9 hC hF
  obtain ⟨⟨w9, hk9, -⟩, rfl⟩ := hC
  exact hQ _ (p5.keep hk9 (by simp)) (p4.keep hk9 (by simp)) (K4.trans (hk9.mono (by simp)))

set_option maxRecDepth 100000 in
set_option maxHeartbeats 4000000 in
theorem splitC (a : Ar) (h0 : 0 ≤ a.f) (h1 : a.f ≤ 65536) (h2 : 48 ≤ a.c) (h3 : a.c ≤ 65536) (w : World) (R : Ending → World → Prop)
    (hR : ∀ w', Grow w w' → R (.returned (.tuple #[.agg #[.int .i64 a.f, .int .i64 (a.c - a.c / 2)], .agg #[.int .i64 (datS a).f, .int .i64 (datS a).c], .bool true])) w') :
    Calls Try.prog 22 #[.agg #[.int .i64 a.f, .int .i64 a.c]] w R := by
  have hml : maxLen = 9223372036854775807 := rfl
  obtain ⟨f, c⟩ := a
  simp only [datS] at h0 h1 h2 h3 hR
  have HR := Lib.hid hR
  clear hR
  have d1 : decide (f < 0) = false := decide_eq_false (by omega)
  have d2 : decide (65536 < f) = false := decide_eq_false (by omega)
  have d3 : decide (c < 48) = false := decide_eq_false (by omega)
  have d4 : decide (65536 < c) = false := decide_eq_false (by omega)
  have hc0 : 0 ≤ c := by omega
  have hq : 0 ≤ c / 2 ∧ c / 2 ≤ c := by omega
  have ga := Grow.alloc w (.cells #[.int .i64 f, .int .i64 c] 54)
  have gb := Grow.alloc (w.alloc (.cells #[.int .i64 f, .int .i64 c] 54)) (.cells #[.int .i64 f, .int .i64 (c - c / 2)] 54)
  have gc := Grow.alloc ((w.alloc (.cells #[.int .i64 f, .int .i64 c] 54)).alloc (.cells #[.int .i64 f, .int .i64 (c - c / 2)] 54)) (.cells #[.int .i64 0, .int .i64 0] 54)
  have o1 := (gb.trans gc).block (alloc_new w (.cells #[.int .i64 f, .int .i64 c] 54))
  have o2 : Own ((w.alloc (.cells #[.int .i64 f, .int .i64 c] 54)).alloc (.cells #[.int .i64 f, .int .i64 (c - c / 2)] 54)) 54 1 (some ⟨(w.alloc (.cells #[.int .i64 f, .int .i64 c] 54)).heap.size, 0, none⟩) 2 2 [.int .i64 f, .int .i64 (c - c / 2)] := Own.made (n := 2) (sz := 1) (heap_alloc_new _ _) rfl (by decide) (by simp [Value.oneCell'])
  have o3 : Own (((w.alloc (.cells #[.int .i64 f, .int .i64 c] 54)).alloc (.cells #[.int .i64 f, .int .i64 (c - c / 2)] 54)).alloc (.cells #[.int .i64 0, .int .i64 0] 54)) 54 1 (some ⟨((w.alloc (.cells #[.int .i64 f, .int .i64 c] 54)).alloc (.cells #[.int .i64 f, .int .i64 (c - c / 2)] 54)).heap.size, 0, none⟩) 2 2 [.int .i64 0, .int .i64 0] := Own.made (n := 2) (sz := 1) (heap_alloc_new _ _) rfl (by decide) (by simp [Value.oneCell'])
  rw [sz_al] at o2
  rw [sz_al, sz_al] at o3
  have o2' := o2.grow gc
  have G := (ga.trans gb).trans gc
  clear ga gb gc o2
  go_enter Try.func22, Try.ntmps22
  go_upto_region 5 with (fail)
  refine split5 w.heap.size (w.heap.size + 1) (w.heap.size + 1 + 1) (c / 2) f c f (c - c / 2) h0 (by omega) (by omega) (by omega) _ o1 o2' o3 (by omega) (by omega) ?_
  intro w' p2 p3 k
  intros
  have hf := HR.out w' (G.then k (fun y hy => by simp at hy; omega))
  clear HR o1 o2' o3 G k
  go_wp2_with fail
  exact bodyPost_ret (v := .tuple #[.agg #[.int .i64 f, .int .i64 (c - c / 2)], .agg #[.int .i64 (f + (c - c / 2)), .int .i64 (c / 2)], .bool true]) (ret_three Try.results22 _ _ _ _ [.int .i64 f, .int .i64 (c - c / 2)] [.int .i64 (f + (c - c / 2)), .int .i64 (c / 2)] _ _ rfl rfl rfl (own_range p2 (by decide)) (own_range p3 (by decide)) Try.underlying54 rfl i2 i2) rfl hf
end Go.Proofs.Ytgchbcopbkoomaa
