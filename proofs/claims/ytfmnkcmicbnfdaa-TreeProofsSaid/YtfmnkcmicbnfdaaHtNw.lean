/- A new tree. -/
import Derived.Test.YtfmnkcmicbnfdaaGHt5
import Derived.Test.YtfmnkcmicbnfdaaStrP
namespace Go.Proofs.Ytfmnkcmicbnfdaa
open Go Go.RowKit

set_option maxRecDepth 100000 in
set_option maxHeartbeats 1000000 in
theorem newBad (n : Int) (hwf : (Lit.int .i64 n).wf = true) (ko : Option Addr) (kn kc : Nat) (bv : Value) (hb : wide n = [] ∨ kn ≠ 32) (w : World) (R : Ending → World → Prop) (hR : ∀ w', Grow w w' → R (.returned (.tuple #[.pointer none, .int .i64 1])) w') :
    Calls Try.prog 29 #[.int .i64 n, .slice ko kn kc, bv] w R := by
  have hl := levelsC n hwf w
  by_cases h0 : wide n = []
  · rw [h0] at hl
    clear hb
    go_enter Try.func29, Try.ntmps29
    go_wp2_with fail
    refine hl _ ?_
    clear hl
    intro w1 g1
    have hf := hR w1 g1
    clear hR
    go_wp2_with fail
    exact hf
  · have h1 : 0 < (wide n).length := List.length_pos_iff.2 h0
    have hk : kn ≠ 32 := hb.resolve_left h0
    have e1 : (((wide n).length : Int) == 0) = false := by simp; exact h0
    have e2 : ((kn : Int) != 32) = true := by simp; omega
    obtain ⟨L, hL⟩ : ∃ L, L = (wide n).length := ⟨_, rfl⟩
    rw [← hL] at e1 hl
    clear hb h0 h1 hk hL
    go_enter Try.func29, Try.ntmps29
    go_wp2_with fail
    refine hl _ ?_
    clear hl
    intro w1 g1
    have hf := hR w1 g1
    clear hR
    go_wp2_with fail
    exact hf

theorem rowL_B0 (n k : Nat) : rowL n (fun _ _ => B0) k = List.replicate (lw n k) B0 := by
  unfold rowL
  rw [List.map_const', List.length_range]
/-- A level more. -/
theorem Ht.add {w w' : World} {p : Nat} {bv : Value} {ko : Option Addr} {kc : Nat} {key : List UInt8} {lo : Option Addr} {lc m n j : Nat} {g : Nat → Nat} {h : Int → Bool} (a : Ht w ⟨p, bv, ko, kc, key, lo, lc, m, n, j, g⟩ h (fun _ _ => B0))
    {lo' : Option Addr} {lc' gj : Nat} (ho : w'.heap[p]? = some (.cells #[bv, .slice ko 32 kc, .slice lo' (j + 1) lc', .map (some m)] 117 (0, 0)))
    (ol : Own w' 31 1 lo' (j + 1) lc' (((List.range j).map (⟨p, bv, ko, kc, key, lo, lc, m, n, j, g⟩ : Tre).rv) ++ [.slice (some ⟨gj, 0, none⟩) (lw n j) (lw n j)])) (og : Own w' 33 16 (some ⟨gj, 0, none⟩) (lw n j) (lw n j) (bVs (List.replicate (lw n j) B0)))
    (hgl : gj ∉ p :: blk lo') (hg : w.heap.size ≤ gj) (hlo : ∀ x ∈ blk lo', x ∈ blk lo ∨ w.heap.size ≤ x) (kp : Keep (p :: blk lo) w w') (hk : ∀ x ∈ blk ko, x ∉ p :: blk lo) :
    Ht w' ⟨p, bv, ko, kc, key, lo', lc', m, n, j + 1, fun k => if k = j then gj else g k⟩ h (fun _ _ => B0) := by
  have hold : ∀ x ∈ (⟨p, bv, ko, kc, key, lo, lc, m, n, j, g⟩ : Tre).hard, x ∉ p :: blk lo := fun x hx hm => by
    refine a.sp x ?_ hx
    rcases List.mem_cons.1 hm with h | h
    · simp [Tre.soft, h]
    · simp [Tre.soft, h]
  have hmap : (List.range (j + 1)).map (fun k => if k = j then gj else g k) = (List.range j).map g ++ [gj] := by
    rw [List.range_succ, List.map_append]
    congr 1
    · refine List.map_congr_left fun k hk => ?_
      have : k < j := by simpa using hk
      rw [if_neg (by omega)]
    · simp
  have hhard : (⟨p, bv, ko, kc, key, lo', lc', m, n, j + 1, fun k => if k = j then gj else g k⟩ : Tre).hard = (⟨p, bv, ko, kc, key, lo, lc, m, n, j, g⟩ : Tre).hard ++ [gj] := by
    show m :: (List.range (j + 1)).map (fun k => if k = j then gj else g k) = (m :: (List.range j).map g) ++ [gj]
    rw [hmap]
    rfl
  exact {
    obj := ho
    key := a.key.keep kp hk
    lev := by
      have e : (List.range (j + 1)).map (⟨p, bv, ko, kc, key, lo', lc', m, n, j + 1, fun k => if k = j then gj else g k⟩ : Tre).rv = ((List.range j).map (⟨p, bv, ko, kc, key, lo, lc, m, n, j, g⟩ : Tre).rv) ++ [.slice (some ⟨gj, 0, none⟩) (lw n j) (lw n j)] := by
        rw [List.range_succ, List.map_append]
        congr 1
        · refine List.map_congr_left fun k hk => ?_
          have : k < j := by simpa using hk
          simp only [Tre.rv]
          rw [if_neg (by omega)]
        · simp [Tre.rv]
      show Own w' 31 1 lo' (j + 1) lc' ((List.range (j + 1)).map (⟨p, bv, ko, kc, key, lo', lc', m, n, j + 1, fun k => if k = j then gj else g k⟩ : Tre).rv)
      rw [e]
      exact ol
    row := fun k hk => by
      show Own w' 33 16 (some ⟨if k = j then gj else g k, 0, none⟩) (lw n k) (lw n k) (bVs (rowL n (fun _ _ => B0) k))
      by_cases e : k = j
      · subst e
        rw [if_pos rfl, rowL_B0]
        exact og
      · rw [if_neg e]
        have hk' : k < j := by have : k < j + 1 := hk; omega
        exact (a.row k hk').keep kp fun y hy => by
          have e2 : y = g k := by simpa [blk] using hy
          subst e2
          exact hold _ (Tre.ghard hk')
    mp := a.mp.keep kp (hold m (by simp [Tre.hard]))
    nd := by
      rw [hhard, List.nodup_append]
      refine ⟨a.nd, by simp, fun x hx y hy e => ?_⟩
      have e2 : y = gj := by simpa using hy
      have := a.lt x (.inl hx)
      omega
    sp := fun x hx hm => by
      rw [hhard] at hm
      rcases List.mem_append.1 hm with hm | hm
      · rcases List.mem_cons.1 hx with hx | hx
        · exact a.sp x (by simp [Tre.soft, hx]) hm
        · rcases List.mem_append.1 hx with hx | hx
          · exact a.sp x (by simp [Tre.soft]; exact .inr (.inl hx)) hm
          · rcases hlo x hx with h | h
            · exact a.sp x (by simp [Tre.soft]; exact .inr (.inr h)) hm
            · have := a.lt x (.inl hm); omega
      · have e : x = gj := by simpa using hm
        rw [e] at hx
        rcases List.mem_cons.1 hx with hx | hx
        · exact hgl (by rw [show gj = p from hx]; simp)
        · rcases List.mem_append.1 hx with hx | hx
          · have := a.klt gj hx; omega
          · exact hgl (List.mem_cons_of_mem _ hx)
    klt := fun x hx => Nat.lt_of_lt_of_le (a.klt x hx) kp.size }

set_option maxRecDepth 100000 in
set_option maxHeartbeats 2000000 in
theorem newTC (n : Nat) (hn1 : 1 ≤ n) (hn2 : n ≤ 40) (k0 : Option Addr) (kc0 : Nat) (key : List UInt8) (hkey : key.length = 32) (bv : Value) {FP : List Nat} {cs : List Clm} (hcs : cs.length ≤ 70000) (w : World) (sk : Sl w 1 k0 32 kc0 (key.map B)) (bk : BkO w bv FP cs) (R : Ending → World → Prop)
    (hR : ∀ (t : Tre) (FP' : List Nat) (ds : List Clm) (T' : Nat → Nat → B16) (w' : World), HB w' t (fun _ => false) T' FP' (cs ++ ds) → t.bv = bv → t.key = key → t.n = n → t.L = (wl n).length → Agr key n t.L (fun _ => B0) T' → (∀ d ∈ ds, NodeC key d) → ds.length ≤ 2000 → Keep FP w w' → (∀ x, x ∈ t.hard ∨ x ∈ t.soft → w.heap.size ≤ x) → (∀ g ∈ FP', g ∈ FP ∨ w.heap.size ≤ g) → R (.returned (.tuple #[.pointer (some ⟨t.p, 0, none⟩), .int .i64 0])) w') :
    Calls Try.prog 29 #[.int .i64 (n : Int), .slice k0 32 kc0, bv] w R := by
  have hml : maxLen = 9223372036854775807 := rfl
  obtain ⟨bp, rfl⟩ : ∃ bp, bv = .pointer bp := by
    rcases bk with ⟨rfl, -⟩ | ⟨p, ao, n, c, rfl, -⟩
    · exact ⟨_, rfl⟩
    · exact ⟨_, rfl⟩
  have hwf : (Lit.int .i64 (n : Int)).wf = true := by simp [Lit.wf, IntKind.min, IntKind.max, IntKind.signed, IntKind.bits]; omega
  have hwd : wide (n : Int) = wl n := by unfold wide; rw [if_neg (by omega)]; rfl
  have hl := fun w => levelsC n hwf w
  have hwl := wl_len n
  have hw0 : 0 < (wl n).length := by
    by_cases h : n ≤ 1
    · rw [wl_one h]; simp
    · rw [wl_more h]; simp
  have hwc := fun (j : Nat) (w : World) (R : Ending → World → Prop) => widthC n j hwf w R
  rw [hwd] at hl
  simp only [wid_lw n _ hn1 (show n ≤ 65536 by omega)] at hwc
  obtain ⟨L, hL⟩ : ∃ L, L = (wl n).length := ⟨_, rfl⟩
  rw [← hL] at hw0
  simp only [← hL] at hl hwl hR
  have e1 : ((L : Int) == 0) = false := by simp; omega
  have hlt := bk.lt
  have HL := Lib.hid hL
  have hmm := @run_makeMap Try.prog
  have hcl := fun w s => cloneB k0 32 kc0 (key.map B) w s (by omega)
  clear hL hwd
  go_enter Try.func29, Try.ntmps29
  go_wp2_with fail
  refine hl w _ ?_
  intro w1 g1
  go_wp2_with fail
  refine hcl w1 (sk.grow g1) _ ?_
  clear hcl
  intro ko kc w2 ok g2 fk
  have hkl := ok.lt
  have g12 := g1.trans g2
  have ga := Grow.alloc w2 (.map #[] 0)
  have ma := MI.new w2
  have gb := Grow.alloc (w2.alloc (.map #[] 0)) (.cells #[.pointer bp, .slice ko 32 kc, .slice none 0 0, .map (some w2.heap.size)] 117)
  have ho := heap_alloc_new (w2.alloc (.map #[] 0)) (.cells #[.pointer bp, .slice ko 32 kc, .slice none 0 0, .map (some w2.heap.size)] 117)
  have zb : (w2.alloc (.map #[] 0)).heap.size = w2.heap.size + 1 := by simp
  rw [zb] at ho
  go_wp2_with fail
  obtain ⟨m, hm⟩ : ∃ m, m = w2.heap.size := ⟨_, rfl⟩
  have hmz := Nat.le_of_eq hm.symm
  rw [← hm] at ma gb ho zb ⊢
  generalize w2.alloc (.map #[] 0) = w3 at *
  obtain ⟨p, hp⟩ : ∃ p, p = m + 1 := ⟨_, rfl⟩
  rw [← hp] at ho ⊢
  generalize w3.alloc (.cells #[.pointer bp, .slice ko 32 kc, .slice none 0 0, .map (some m)] 117) = w4 at *
  have g24 := ga.trans gb
  have g04 := g12.trans g24
  have hfko : ∀ g ∈ blk ko, w.heap.size ≤ g ∧ g < m := fun g hg => ⟨Nat.le_trans g1.size (fk g hg), by rw [hm]; exact hkl g hg⟩
  have hwm : w.heap.size ≤ m := by have := g12.size; omega
  have hpm : p = m + 1 := hp
  have hpz : m < w4.heap.size ∧ p < w4.heap.size := by have := gb.size; have := lt_of_block ho; omega
  have ht0 : Ht w4 ⟨p, .pointer bp, ko, kc, key, none, 0, m, n, 0, fun _ => 0⟩ (fun _ => false) (fun _ _ => B0) := {
    obj := ho
    key := ok.sl.grow g24
    lev := Own.none _ _ _
    row := fun k hk => absurd hk (by simp)
    mp := ma.grow gb
    nd := by simp [Tre.hard]
    sp := fun x hx hm => by
      have e : x = m := by simpa [Tre.hard] using hm
      subst e
      simp [Tre.soft, blk] at hx
      rcases hx with h | h
      · omega
      · have := (hfko x h).2; omega
    klt := fun x hx => by have := (hfko x hx).2; omega }
  have hf0 : Hid (∀ x, x ∈ (⟨p, .pointer bp, ko, kc, key, none, 0, m, n, 0, fun _ => 0⟩ : Tre).hard ∨ x ∈ (⟨p, .pointer bp, ko, kc, key, none, 0, m, n, 0, fun _ => 0⟩ : Tre).soft → w.heap.size ≤ x) := Lib.hid (fun x hx => by
    rcases hx with hx | hx
    · have e : x = m := by simpa [Tre.hard] using hx
      omega
    · simp [Tre.soft, blk] at hx
      rcases hx with h | h
      · omega
      · exact (hfko x h).1)
  have Hpm := Lib.hid hpm
  have hmp1 : m < p := by omega
  clear hm hp hpm ho ok ma ga gb zb g1 g2 fk hkl hmz g12 sk hmm
  refine hl w4 _ ?_
  intro w5 g5
  have g45 := g04.trans g5
  have ht5 := ht0.grow g5
  have z5 := g5.size
  clear ht0 hl
  go_wp2_with fail
  go_loopw [29] (fun vi wr => ∃ (j : Nat) (lo : Option Addr) (lc : Nat) (g : Nat → Nat), vi = .int .i64 (j : Int) ∧ j ≤ L ∧ Ht wr ⟨p, .pointer bp, ko, kc, key, lo, lc, m, n, j, g⟩ (fun _ => false) (fun _ _ => B0) ∧ Hid (∀ x, x ∈ (⟨p, .pointer bp, ko, kc, key, lo, lc, m, n, j, g⟩ : Tre).hard ∨ x ∈ (⟨p, .pointer bp, ko, kc, key, lo, lc, m, n, j, g⟩ : Tre).soft → w.heap.size ≤ x) ∧ Hid (∀ x ∈ blk lo, p < x ∧ x ∉ blk ko) ∧ Grow w wr ∧ Keep [] w wr) (fun vi _ => L - (intOf vi).toNat)
  case atStart => exact ⟨0, none, 0, _, rfl, by omega, ht5, hf0, Lib.hid (by simp [blk]), g45, Keep.of_grow _ g45⟩
  case round =>
    clear ht5 hf0
    obtain ⟨j, lo, lc, g, rfl, hj, ht, hf, hlk, hg, hk⟩ := hrel
    by_cases hlt2 : j < L
    · have hpl : p ∉ blk lo := fun hm => by have := (hlk.out p hm).1; omega
      have hkl : ∀ x ∈ blk ko, x ∉ p :: blk lo := fun x hx hm => by
        rcases List.mem_cons.1 hm with h | h
        · have := (hfko x hx).2; omega
        · exact (hlk.out x h).2 hx
      have hwle := lw_le n j
      go_upto_region 7 with (fail)
      refine new7 p n j lc (lw n j) _ _ _ lo _ (by omega) (by omega) (hwc j) wr ht.obj ht.lev hpl ?_
      intro lo' lc' gj w7 o7 l7 r7 h1 h2 h3 h4 k7
      intros
      have ht7 := ht.add o7 l7 r7 h1 h2 h4 k7 hkl
      have hgj : w.heap.size ≤ gj := Nat.le_trans hk.size h2
      have hpw : p < wr.heap.size := ht.lt p (.inr (by simp [Tre.soft]))
      have hf7 : Hid (∀ x, x ∈ (⟨p, .pointer bp, ko, kc, key, lo', lc', m, n, j + 1, fun k => if k = j then gj else g k⟩ : Tre).hard ∨ x ∈ (⟨p, .pointer bp, ko, kc, key, lo', lc', m, n, j + 1, fun k => if k = j then gj else g k⟩ : Tre).soft → w.heap.size ≤ x) := Lib.hid (fun x hx => by
        rcases hx with hx | hx
        · rcases List.mem_cons.1 hx with hx | hx
          · exact hf.out x (.inl (by simp [Tre.hard, hx]))
          · obtain ⟨k, hk1, rfl⟩ := List.mem_map.1 hx
            have hk2 : k < j + 1 := by simpa using hk1
            show w.heap.size ≤ if k = j then gj else g k
            split
            · exact hgj
            · exact hf.out _ (.inl (Tre.ghard (t := ⟨p, .pointer bp, ko, kc, key, lo, lc, m, n, j, g⟩) (show k < j by omega)))
        · rcases List.mem_cons.1 hx with hx | hx
          · exact hf.out x (.inr (by simp [Tre.soft, hx]))
          · rcases List.mem_append.1 hx with hx | hx
            · exact hf.out x (.inr (by simp [Tre.soft]; exact .inr (.inl hx)))
            · rcases h4 x hx with h | h
              · exact hf.out x (.inr (by simp [Tre.soft]; exact .inr (.inr h)))
              · exact Nat.le_trans hk.size h)
      have hlk7 : Hid (∀ x ∈ blk lo', p < x ∧ x ∉ blk ko) := Lib.hid (fun x hx => by
        rcases h4 x hx with h | h
        · exact hlk.out x h
        · exact ⟨by omega, fun hm => by have := ht.klt x hm; omega⟩)
      have hg7 : Grow w w7 := hg.then k7 (fun x hx => by
        rcases List.mem_cons.1 hx with h | h
        · subst h; exact hf.out _ (.inr (by simp [Tre.soft]))
        · exact hf.out x (.inr (by simp [Tre.soft]; exact .inr (.inr h))))
      clear hf hlk o7 l7 r7 h1 h2 h3 h4 k7 ht hk hg hpl hkl
      go_wp2_with fail
      go_roundw
      case rel => exact ⟨j + 1, lo', lc', _, by go_num, by omega, ht7, hf7, hlk7, hg7, Keep.of_grow _ hg7⟩
      case measure => simp [intOf]; omega
    · have ej : j = L := by omega
      obtain ⟨t, hte⟩ : ∃ t : Tre, t = ⟨p, .pointer bp, ko, kc, key, lo, lc, m, n, j, g⟩ := ⟨_, rfl⟩
      rw [← hte] at ht hf
      have tp : p = t.p := by rw [hte]
      have tb : t.bv = .pointer bp := by rw [hte]
      have tk : t.key = key := by rw [hte]
      have tn : t.n = n := by rw [hte]
      have tL : L = t.L := by rw [hte]; exact ej.symm
      clear hte hlk hwc hfko hwm hpz Hpm hmp1 g5 g45 z5 g04 g24 e1
      subst tp ej tn tk tL
      have hb : HB wr t (fun _ => false) (fun _ _ => B0) FP cs := ⟨ht, by rw [tb]; exact bk.grow hg, fun x hx => ⟨fun hm => by have := hf.out x (.inl hm); have := hlt x hx; omega, fun hm => by have := hf.out x (.inr hm); have := hlt x hx; omega⟩⟩
      have hN : Hid (NewI t.key t.n t.L 0 0 (fun _ _ => B0)) := Lib.hid (NewI.start fun _ _ _ _ => rfl)
      have c2 := obj_cell ht.obj 2 rfl
      obtain ⟨gl, off, hlo, -, -⟩ := ht.level (k := 0) hw0
      have hs1 := ht.lev.sl.hle
      have hs2 := ht.lev.sl.hcap
      have hlw : ∀ l, lw t.n l ≤ 40 := fun l => Nat.le_trans (lw_le t.n l) hn2
      have hkf : Keep FP w wr := Keep.of_grow _ hg
      rw [hlo] at c2
      have Tb := Lib.hid tb
      clear ht bk hk hlt2 hj tb
      obtain ⟨w6, e6⟩ : ∃ x, x = wr := ⟨_, rfl⟩
      subst e6
      go_wp2_with fail
      clear c2
      go_loopw [51] (fun vi w7 => ∃ (l : Nat) (FP' : List Nat) (ds : List Clm) (T' : Nat → Nat → B16), vi = .int .i64 (l : Int) ∧ l ≤ t.L ∧ HB w7 t (fun _ => false) T' FP' (cs ++ ds) ∧ Hid (NewI t.key t.n t.L l 0 T') ∧ Hid (∀ d ∈ ds, NodeC t.key d) ∧ ds.length ≤ 40 * l ∧ Keep (t.hard ++ FP) w6 w7 ∧ Hid (∀ g ∈ FP', g ∈ FP ∨ w6.heap.size ≤ g)) (fun vi _ => t.L - (intOf vi).toNat)
      case atStart => exact ⟨0, FP, [], _, rfl, by omega, by simpa using hb, hN, Lib.hid (by simp), by simp, Keep.refl _ _, Lib.hid (fun g hg => .inl hg)⟩
      case round =>
        clear hb hN
        obtain ⟨l, FP', ds, T', rfl, hl, a, hN, hds, hdl, k3, in3⟩ := hrel
        by_cases hlt3 : l < t.L
        · obtain ⟨gl2, off2, hlo2, hcl, -⟩ := a.ht.level hlt3
          rw [hlo] at hlo2
          obtain ⟨rfl, rfl⟩ : gl = gl2 ∧ off = off2 := by simpa using hlo2
          unfold Tre.rv at hcl
          have hwl2 := hlw l
          have HlW := Lib.hid (rfl : lw t.n l = lw t.n l)
          obtain ⟨W, hW⟩ : ∃ W, W = lw t.n l := ⟨_, rfl⟩
          rw [← hW] at hcl hwl2
          have HW := Lib.hid hW
          clear hW hlo2
          go_wp2_with fail
          clear hcl
          go_loopw [58] (fun vi w8 => ∃ (i : Nat) (FP5 : List Nat) (ds5 : List Clm) (T5 : Nat → Nat → B16), vi = .int .i64 (i : Int) ∧ i ≤ W ∧ HB w8 t (fun _ => false) T5 FP5 (cs ++ ds5) ∧ Hid (NewI t.key t.n t.L l i T5) ∧ Hid (∀ d ∈ ds5, NodeC t.key d) ∧ ds5.length ≤ 40 * l + i ∧ Keep (t.hard ++ FP) w6 w8 ∧ Hid (∀ g ∈ FP5, g ∈ FP ∨ w6.heap.size ≤ g)) (fun vi _ => W - (intOf vi).toNat)
          case atStart => exact ⟨0, FP', ds, T', rfl, by omega, a, hN, hds, by omega, k3, in3⟩
          case round =>
            clear a hN hds hdl k3 in3
            obtain ⟨i, FP5, ds5, T5, rfl, hi, a, hN, hds, hdl, k3, in3⟩ := hrel
            by_cases hlt4 : i < W
            · by_cases hl0 : l = 0
              · subst hl0
                have hN2 := Lib.hid hN.out.leaves
                go_wp2_with fail
                go_roundw
                case rel => exact ⟨i + 1, FP5, ds5, T5, by go_num, by omega, a, hN2, hds, by omega, k3, in3⟩
                case measure => simp [intOf]; omega
              · obtain ⟨l', hl'⟩ : ∃ l', l = l' + 1 := ⟨l - 1, by omega⟩
                have Hl := Lib.hid hl'
                have hlp : decide ((0 : Int) < (l : Int)) = true := decide_eq_true (by omega)
                clear hl'
                go_wp2_with fail
                refine renewC t l l' i Hl hlt3 (by rw [← HW.out]; exact hlt4) (by omega) (by omega) hkey (by rw [List.length_append]; omega) _ a _ ?_
                intro FP6 w9 a6 k6 in6
                have hp := hN.out
                rw [Hl.out] at hp
                have hp2 := hp.step (by rw [← Hl.out]; exact hlt3)
                rw [← Hl.out] at hp2
                have Hp := Lib.hid hp2
                have k7 := keep_step k3 in3.out k6
                have in7 := Lib.hid (inn_step in3.out k3.size in6)
                rw [List.append_assoc] at a6
                have Hd2 : Hid (∀ e ∈ ds5 ++ [clmS t.key (framS (nodeP l i (kidsB t.n T5 l' i))) true], NodeC t.key e) := Lib.hid (fun e he => by
                  rcases List.mem_append.1 he with h | h
                  · exact hds.out e h
                  · simp at h; exact ⟨_, _, _, by rw [kidsB_len]; exact kn_le _ _ _, h⟩)
                have hdl2 : (ds5 ++ [clmS t.key (framS (nodeP l i (kidsB t.n T5 l' i))) true]).length ≤ 40 * l + (i + 1) := by rw [List.length_append]; simp; omega
                clear a k3 k6 in6 hp hp2 hN hds hdl in3
                go_wp2_with fail
                go_roundw
                case rel => exact ⟨i + 1, FP6, _, _, by go_num, by omega, a6, Hp, Hd2, hdl2, k7, in7⟩
                case measure => simp [intOf]; omega
            · have hiW : i = W := by omega
              have hN2 : Hid (NewI t.key t.n t.L (l + 1) 0 T5) := Lib.hid (NewI.next (by rw [← HW.out, ← hiW]; exact hN.out))
              go_wp2_with fail
              go_roundw
              case rel => exact ⟨l + 1, FP5, ds5, T5, by go_num, by omega, a, hN2, hds, by omega, k3, in3⟩
              case measure => simp [intOf]; omega
        · obtain rfl : l = t.L := by omega
          have hfin := hR t FP' ds T' _ a Tb.out rfl rfl rfl hN.out.done hds.out (by omega) (Keep.trans' hkf k3 (fun i hi => by
            rcases List.mem_append.1 hi with h | h
            · exact .inr (hf.out i (.inl h))
            · exact .inl h)) hf.out (inn_step (fun g hg => .inl hg) hkf.size in3.out)
          clear hR
          go_wp2_with fail
          exact hfin
end Go.Proofs.Ytfmnkcmicbnfdaa
