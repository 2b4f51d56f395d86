/- Is a text told right by a proof? The walk. -/
import Derived.Test.YtfmnkcmicbnfdaaGHt5
namespace Go.Proofs.Ytfmnkcmicbnfdaa
open Go Go.RowKit

theorem own_tyH {w : World} {e : TypeId} {sz : Nat} {ao : Option Addr} {n c g : Nat} {xs : List Value} (o : Own w e sz ao n c xs) (h : g ∈ blk ao) : ∃ cur, w.heap[g]? = some (.cells cur e (0, 0)) := by
  rcases o.row.2 with ⟨hv, _⟩ | ⟨g1, k1, u1, e1, _, h1, _⟩
  · obtain ⟨rfl, -⟩ : ao = Option.none ∧ _ := by simpa using hv
    simp [blk] at h
  · obtain ⟨rfl, rfl⟩ : ao = some ⟨g1, 0, Option.none⟩ ∧ c = k1 := by simpa using e1
    simp [blk] at h
    subst h
    exact ⟨u1, h1⟩

set_option maxRecDepth 100000 in
set_option maxHeartbeats 1000000 in
theorem verifyBad (n leaf : Int) (hwf : (Lit.int .i64 n).wf = true) (ko : Option Addr) (kn kc : Nat) (bp : Option Addr) (root : Array Value) (ta po : Option Addr) (tn tc pn pc : Nat) (hb : way n leaf = [] ∨ kn ≠ 32) (w : World) (R : Ending → World → Prop) (hR : ∀ w', Grow w w' → R (.returned (.bool false)) w') :
    Calls Try.prog 36 #[.int .i64 n, .slice ko kn kc, .pointer bp, .agg root, .int .i64 leaf, .slice ta tn tc, .slice po pn pc] w R := by
  have hl := wayC n leaf hwf (w.alloc (.cells root 33))
  have ga := Grow.alloc w (.cells root 33)
  by_cases h0 : way n leaf = []
  · rw [h0] at hl
    clear hb h0
    go_enter Try.func36, Try.ntmps36
    go_wp2_with fail
    refine hl _ ?_
    clear hl
    intro ao c w1 o1 g1 f1
    have hf := hR w1 (ga.trans g1)
    clear hR
    go_wp2_with fail
    exact hf
  · have h1 : 0 < (way n leaf).length := List.length_pos_iff.2 h0
    have hk : kn ≠ 32 := hb.resolve_left h0
    have e1 : (((way n leaf).length : Int) == 0) = false := by simp; exact h0
    have e2 : ((kn : Int) != 32) = true := by simp; omega
    obtain ⟨P, hP⟩ : ∃ P, P = pk (way n leaf) := ⟨_, rfl⟩
    simp only [← hP] at hl
    obtain ⟨L, hL⟩ : ∃ L, L = (way n leaf).length := ⟨_, rfl⟩
    rw [← hL] at e1 hl
    clear hb h0 h1 hk hL hP
    go_enter Try.func36, Try.ntmps36
    go_wp2_with fail
    refine hl _ ?_
    clear hl
    intro ao c w1 o1 g1 f1
    have hf := hR w1 (ga.trans g1)
    clear hR
    go_wp2_with fail
    exact hf

theorem way_drop {w : World} {g off f k : Nat} (h : Cells w g off ((pk (wayN f k)).drop (1 * 2))) (j jv : Nat) (hjv : jv = j + 1) (hj : jv < k) : w.cell? ⟨g, off + j * 2, none⟩ = some (.int .i64 (jv : Int)) ∧ w.cell? ⟨g, off + j * 2 + 1, none⟩ = some (.int .i64 ((upN f jv : Nat) : Int)) := by
  subst hjv
  have := pk_at (wayN f k) (j + 1) (by rw [wayN_len]; exact hj)
  simp only [wayN, List.getElem_map, List.getElem_range] at this
  have e1 : ((pk (wayN f k)).drop (1 * 2))[j * 2]? = some (.int .i64 ((j + 1 : Nat) : Int)) := by rw [List.getElem?_drop, show 1 * 2 + j * 2 = (j + 1) * 2 by omega]; exact this.1
  have e2 : ((pk (wayN f k)).drop (1 * 2))[j * 2 + 1]? = some (.int .i64 ((upN f (j + 1) : Nat) : Int)) := by rw [List.getElem?_drop, show 1 * 2 + (j * 2 + 1) = (j + 1) * 2 + 1 by omega]; exact this.2
  exact ⟨h.at e1, by rw [Nat.add_assoc]; exact h.at e2⟩

set_option maxRecDepth 100000 in
set_option maxHeartbeats 4000000 in
theorem verifyC (n leaf : Nat) (hn2 : n ≤ 1000) (hl : leaf < n) (ko : Option Addr) (kc : Nat) (key : List UInt8) (hkey : key.length = 32) (bp : Option Addr) {FP : List Nat} {cs : List Clm} (hcs : cs.length ≤ 80000) (root : B16) (a0 : Option Addr) (tn tc : Nat) (text : List UInt8) (htl : text.length ≤ 1000) (po : Option Addr) (pm pc : Nat) (P : List B16) (hpm : pm = P.length) (_ : pm ≤ 100000) (w : World) (sk : Sl w 1 ko 32 kc (key.map B)) (st : Sl w 1 a0 tn tc (text.map B)) (sp : Sl w 16 po pm pc (bVs P)) (b : BkO w (.pointer bp) FP cs)
    (hd : ∀ y ∈ blk ko ++ (bz tn a0 ++ blk po), y ∉ FP ∧ y < w.heap.size) (R : Ending → World → Prop)
    (hR : ∀ (FP' : List Nat) (ds : List Clm) (w' : World), BkO w' (.pointer bp) FP' (cs ++ ds) → ds.length ≤ 1001 → (verS key n leaf text root P = true → ∃ ds', ds = clmS key (framS (leafP leaf text)) false :: ds' ∧ ∀ d ∈ ds', d.key = key ∧ d.text.length ≤ 1000) → Keep FP w w' → (∀ g ∈ FP', g ∈ FP ∨ w.heap.size ≤ g) → R (.returned (.bool (verS key n leaf text root P))) w') :
    Calls Try.prog 36 #[.int .i64 (n : Int), .slice ko 32 kc, .pointer bp, .agg (root.b.map B).toArray, .int .i64 (leaf : Int), .slice a0 tn tc, .slice po pm pc] w R := by
  have hml : maxLen = 9223372036854775807 := rfl
  have hwf : (Lit.int .i64 (n : Int)).wf = true := by simp [Lit.wf, IntKind.min, IntKind.max, IntKind.signed, IntKind.bits]; omega
  have hwl := wl_len n
  have hw0 : 0 < (wl n).length := by
    by_cases h : n ≤ 1
    · rw [wl_one h]; simp
    · rw [wl_more h]; simp
  have hway := fun w R hR => wayC n leaf hwf w R hR
  have hbes := fun w R hR => besideC n leaf hwf w R hR
  rw [way_at n leaf (by omega) (by omega) hl, wayN_len] at hway
  have hbl : (beside n leaf).length = (wl n).length - 1 := by rw [beside_at n leaf (by omega) (by omega) hl, besideN_len]
  have hup := up_in n leaf hl
  obtain ⟨rows, hrows⟩ : ∃ rows, rows = beside n leaf := ⟨_, rfl⟩
  have hbk : ∀ j (h : j < rows.length), rows[j].length = lnV n leaf j := by subst hrows; exact beside_lens n leaf (by omega) (by omega) hl
  simp only [← hrows] at hbes hbl
  rw [hbl] at hbes
  obtain ⟨L, hL⟩ : ∃ L, L = (wl n).length := ⟨_, rfl⟩
  rw [← hL] at hw0 hwl hbl hup
  simp only [← hL] at hway hbes
  have hver : verS key n leaf text root P = (decide (P.length = sumV n leaf (L - 1)) && (okL key leaf text (cksV n leaf P (L - 1)) root && (List.range (L - 1)).all fun j => okN key leaf (cksV n leaf P (L - 1)) root (ckV n leaf P j) j)) := by rw [hL]; rfl
  obtain ⟨N, hN⟩ : ∃ N, N = L - 1 := ⟨_, rfl⟩
  rw [← hN] at hver
  rw [← hN] at hbl
  simp only [← hN] at hbes
  have HN : Hid (L = N + 1) := Lib.hid (by omega)
  have hN1 : N ≤ 1000 := by omega
  have hbt := b.lt
  have HV := Lib.hid hver
  have Hpm := Lib.hid hpm
  have HBL := Lib.hid hbl
  have hbpos : decide ((0 : Int) < (L : Int)) = true := decide_eq_true (by omega)
  have hLne : ((L : Int) == 0) = false := by simp; omega
  have or0 : Own (w.alloc (.cells (root.b.map B).toArray 33)) 33 1 (some ⟨w.heap.size, 0, none⟩) 16 16 (root.b.map B) := Own.made (n := 16) (sz := 1) (heap_alloc_new w (.cells (root.b.map B).toArray 33)) (by simp [root.h]) (by omega) (by simpa using B_one root.b)
  have ga := Grow.alloc w (.cells (root.b.map B).toArray 33)
  obtain ⟨VR, hVR⟩ : ∃ VR, VR = (root.b.map B).toArray := ⟨_, rfl⟩
  rw [← hVR] at or0 ga ⊢
  clear hver hN hL hrows hpm hbl hVR hwf
  go_enter Try.func36, Try.ntmps36
  go_wp2_with fail
  obtain ⟨q10, hq10⟩ : ∃ q, q = w.heap.size := ⟨_, rfl⟩
  have hq10z := Nat.le_of_eq hq10.symm
  generalize w.alloc (.cells VR 33) = w1 at *
  rw [← hq10] at or0 ⊢
  clear hq10
  refine hway w1 _ ?_
  clear hway
  intro wo wc w2 ow g2 fw
  have g02 := ga.trans g2
  have or2 := or0.grow g2
  have ha := alloc_new w2 (.cells #[.slice none 0 0] 115)
  have ga2 := Grow.alloc w2 (.cells #[.slice none 0 0] 115)
  have hwo := ow.lt
  clear or0 g2
  go_wp2_with fail
  obtain ⟨q16, hq16⟩ : ∃ q, q = w2.heap.size := ⟨_, rfl⟩
  have hq16z : w.heap.size ≤ q16 := by have := g02.size; omega
  generalize w2.alloc (.cells #[.slice none 0 0] 115) = w3 at *
  rw [← hq16] at ha ⊢
  have Hq16 := Lib.hid hq16
  clear hq16
  refine hbes w3 _ ?_
  clear hbes
  intro bo bc vs w4 ob rw4 g4
  have g24 := ga2.trans g4
  have g04 := g02.trans g24
  have o16 := g4.block ha
  have h16 := lt_of_block ha
  have hz4 := g4.size
  have hbo := ob.lt
  have hL0 : Lvs w4 q16 none 0 [] [] (blk po) := ⟨o16, Own.none _ _ _, fun j hj => by simp at hj⟩
  have b4 := b.grow g04
  have sk4 := sk.grow g04
  have st4 := st.grow g04
  have sp4 := sp.grow g04
  have ow4 := ow.grow g24
  have or4 := or2.grow g24
  have hws := ow.sl.hle
  have hws2 := ow.sl.hcap
  have hbs1 := ob.sl.hle
  have hbs2 := ob.sl.hcap
  have hps := sp.hle
  have hps2 := sp.hcap
  have hq1016 : q10 < q16 := by have := or2.lt q10 (by simp [blk]); have := Hq16.out; omega
  have hwoq : Hid (∀ y ∈ blk wo, y < q16 ∧ w.heap.size ≤ y) := Lib.hid (fun y hy => ⟨by have := hwo y hy; have := Hq16.out; omega, by have := fw y hy; have := ga.size; omega⟩)
  have hpoz : Hid (∀ y ∈ blk po, y < w.heap.size) := Lib.hid (fun y hy => (hd y (by simp [hy])).2)
  have hbog : Hid (∀ y ∈ blk bo, y ≠ q16) := Lib.hid (fun y hy e => by
    subst e
    obtain ⟨cur, hcur⟩ := own_tyH ob hy
    rw [o16] at hcur
    have : (115 : Nat) = 130 := by simpa using (Obj.cells.inj (Option.some.inj hcur)).2.1
    exact absurd this (by decide))
  clear ha g4 ga2 b sk st sp ow or2 o16 hwo fw ga g02
  have hko : Hid (∀ y ∈ blk ko, y ∉ FP ∧ y < w.heap.size) := Lib.hid (fun y hy => hd y (by simp [hy]))
  have ha0 : Hid (∀ y ∈ bz tn a0, y ∉ FP ∧ y < w.heap.size) := Lib.hid (fun y hy => hd y (by simp [hy]))
  have hp0 : Hid (∀ y ∈ blk po, y ∉ FP ∧ y < w.heap.size) := Lib.hid (fun y hy => hd y (by simp [hy]))
  have hz04 := g04.size
  have hnF : ∀ y, w.heap.size ≤ y → y ∉ FP := fun y hy hm => by have := hbt y hm; omega
  clear hd
  go_wp2_with fail
  go_loopw [6, 37] (fun pv vi wr => ∃ (i : Nat) (po' : Option Addr) (mm pc' : Nat) (lo : Option Addr) (lc : Nat) (lv : List Value), vi = .int .i64 (i : Int) ∧ i ≤ N ∧ pv = .slice po' mm pc' ∧ Hid (mm + sumV n leaf i = pm) ∧ mm ≤ pm ∧ Hid (blk po' = blk po) ∧ Sl wr 16 po' mm pc' (bVs (P.drop (sumV n leaf i))) ∧ Lvs wr q16 lo lc lv (cksV n leaf P i) (blk po) ∧ Hid (∀ y ∈ blk lo, w4.heap.size ≤ y) ∧ Keep [q16] w4 wr) (fun _ vi _ => N - (intOf vi).toNat)
  case atStart => exact ⟨0, po, pm, pc, none, 0, [], rfl, by omega, rfl, Lib.hid rfl, by omega, Lib.hid rfl, sp4, hL0, Lib.hid (by simp [blk]), Keep.refl _ _⟩
  case round =>
    clear sp4 hL0
    obtain ⟨i, po', mm, pc', lo, lc, lv, rfl, hi, rfl, hmm, hmp, hpo', sp, hLv, hlo, k4⟩ := hrel
    have hq : ∀ y, y < w.heap.size → y ∉ [q16] := fun y hy hm => by simp at hm; omega
    by_cases hlt : i < N
    · have hir : i < rows.length := by rw [HBL.out]; exact hlt
      have hbq : ∀ y ∈ blk bo, y ∉ [q16] := fun y hy hm => by
        simp at hm
        exact hbog.out y hy hm
      obtain ⟨gb, offb, eb, hcb⟩ := (ob.sl.keep k4 hbq).hat (by omega)
      subst eb
      obtain ⟨ro, rc, hv, -⟩ := rows_at rw4 i hir
      have c1 := hcb.at hv
      rw [hbk i hir] at c1
      have hK4 := lnV_le n leaf i
      have hsn : sumV n leaf (i + 1) = sumV n leaf i + lnV n leaf i := rfl
      obtain ⟨K, hK⟩ : ∃ K, K = lnV n leaf i := ⟨_, rfl⟩
      rw [← hK] at c1 hK4 hsn
      have Hsn := Lib.hid hsn
      have HK := Lib.hid hK
      clear hcb hv hir hbq hK hsn
      by_cases hcut : mm < K
      · have hvf : verS key n leaf text root P = false := by
          have h1 := sumV_mono n leaf (i := i + 1) (k := N) (by omega)
          have h2 := hmm.out
          have h3 := Hsn.out
          have h4 := Hpm.out
          rw [HV.out, decide_eq_false (by omega)]
          rfl
        have hfin := hR FP [] wr (by rw [List.append_nil]; exact b4.keep k4 (fun y hy => hq y (hbt y hy))) (by simp) (fun h => by rw [hvf] at h; cases h) ((Keep.of_grow _ g04).trans' k4 (fun y hy => .inr (by simp at hy; omega))) (fun g hg => .inl hg)
        rw [hvf] at hfin
        clear hR hvf
        go_wp2_with fail
        exact hfin
      · have hPl : Hid (mm = (P.drop (sumV n leaf i)).length) := Lib.hid (by rw [List.length_drop]; have := hmm.out; have := Hpm.out; omega)
        have hq16lo : q16 ∉ blk lo := fun hm => by have := hlo.out _ hm; omega
        have hgp : ∀ y ∈ blk po, y ∉ q16 :: blk lo := fun y hy hm => by
          have h1 := hpoz.out y hy
          rcases List.mem_cons.1 hm with h | h
          · omega
          · have := hlo.out y h; omega
        go_upto_region 10 with (fail)
        refine ver10 q16 po' mm pc' (P.drop (sumV n leaf i)) hPl.out ro K rc (by omega) (by rw [cksV_len]; omega) wr hLv sp hq16lo (fun y hy => by rw [← hpo'.out]; exact hy) hgp ?_
        intro lo5 lc5 lv5 so5 sc5 w5 hL5 sp5 hso5 k5 in5
        intros
        have e1 : cksV n leaf P i ++ [(P.drop (sumV n leaf i)).take K] = cksV n leaf P (i + 1) := by rw [cksV_succ, HK.out]; rfl
        rw [e1] at hL5
        rw [List.drop_drop, ← Hsn.out] at sp5
        have hmm5 : Hid (mm - K + sumV n leaf (i + 1) = pm) := Lib.hid (by rw [Hsn.out]; have := hmm.out; omega)
        have hpo5 : Hid (blk so5 = blk po) := Lib.hid (hso5.trans hpo'.out)
        have hlo5 : Hid (∀ y ∈ blk lo5, w4.heap.size ≤ y) := Lib.hid (fun y hy => by
          rcases in5 y hy with h | h
          · exact hlo.out y h
          · exact Nat.le_trans k4.size h)
        have k45 : Keep [q16] w4 w5 := k4.trans' k5 (fun y hy => by
          rcases List.mem_cons.1 hy with h | h
          · exact .inl (by simp [h])
          · exact .inr (hlo.out y h))
        clear hLv sp hq16lo hgp hPl e1 hmm hpo' hso5 k5 in5 hlo k4 c1
        go_wp2_with fail
        go_roundw
        case rel => exact ⟨i + 1, so5, mm - K, sc5, lo5, lc5, lv5, by go_num, by omega, rfl, hmm5, by omega, hpo5, sp5, hL5, hlo5, k45⟩
        case measure => simp [intOf]; omega
    · obtain rfl : i = N := by omega
      have hgw : Grow w wr := (Keep.trans' (fp := []) (Keep.of_grow [] g04) k4 (fun y hy => .inr (by simp at hy; omega))).grow
      have b5 := b4.keep k4 (fun y hy => hq y (hbt y hy))
      by_cases hz : 0 < mm
      · have hvf : verS key n leaf text root P = false := by
          have h2 := hmm.out
          have h4 := Hpm.out
          rw [HV.out, decide_eq_false (by omega)]
          rfl
        have hfin := hR FP [] wr (by rw [List.append_nil]; exact b5) (by simp) (fun h => by rw [hvf] at h; cases h) (Keep.of_grow _ hgw) (fun g hg => .inl hg)
        rw [hvf] at hfin
        clear hR hvf
        go_wp2_with fail
        exact hfin
      · obtain rfl : mm = 0 := by omega
        have hPS : P.length = sumV n leaf i := by have := hmm.out; have := Hpm.out; omega
        have hver2 : verS key n leaf text root P = (okL key leaf text (cksV n leaf P i) root && (List.range i).all fun j => okN key leaf (cksV n leaf P i) root (ckV n leaf P j) j) := by rw [HV.out, decide_eq_true hPS]; rfl
        have HV2 := Lib.hid hver2
        have sk5 := sk4.keep k4 (fun y hy => hq y (hko.out y hy).2)
        have st5 := st4.keepZ k4 (fun y hy => hq y (ha0.out y hy).2)
        have ow5 := ow4.sl.keep k4 (fun y hy hm => by have := (hwoq.out y hy).1; simp at hm; omega)
        have or5 := or4.keep k4 (fun y hy hm => by simp [blk] at hy hm; omega)
        have hck : ∀ j (h : j < (cksV n leaf P i).length), (cksV n leaf P i)[j].length = lnV n leaf j := fun j h => by
          rw [cksV_len] at h
          rw [cksV_at, ckV_len]
          rw [hPS]
          exact sumV_mono n leaf (by omega)
        have hcin : ∀ j (h : j < (cksV n leaf P i).length), upN leaf j % 4 < (cksV n leaf P i)[j].length := fun j h => by
          rw [hck j h]
          rw [cksV_len] at h
          exact hup j (by have := HN.out; omega)
        have o10 := own_cellsB or5 (by omega)
        have hlp := leafPartsC leaf (by omega) a0 tn tc text
        have h00 : upN leaf 0 = leaf := by simp [upN]
        have htag0 : ∀ w', Grow wr w' → ∀ R : Ending → World → Prop, (∀ w2, Grow w' w2 → R (.returned (.agg ((tagAt (cksV n leaf P i) root 0 leaf).b.map B).toArray)) w2) → Calls Try.prog 70 #[.agg #[.int .i64 0, .int .i64 (leaf : Int)], .pointer (some ⟨q16, 0, none⟩), .pointer (some ⟨q10, 0, none⟩)] w' R := fun w' g R hR =>
          vtagC (hLv.grow g) root (o10.keep (Keep.of_grow [] g) (by simp)) 0 leaf (by omega) (fun h => by have := hcin 0 h; rwa [h00] at this) (by omega) R hR
        have hfl := leafP_len leaf text
        obtain ⟨c, hc⟩ : ∃ c, c = okL key leaf text (cksV n leaf P i) root := ⟨_, rfl⟩
        have hck0 : ∀ w', BkO w' (.pointer bp) FP cs → Sl w' 1 ko 32 kc (key.map B) → ∀ lo vs, Sl w' 1 lo 3 3 vs → Pt w' vs (leafP leaf text) → ∀ R : Ending → World → Prop, (∀ fp' w'', BkO w'' (.pointer bp) fp' (cs ++ if c then [clmS key (framS (leafP leaf text)) false] else []) → Keep FP w' w'' → (∀ g ∈ fp', g ∈ FP ∨ w'.heap.size ≤ g) → R (.returned (.bool c)) w'') → Calls Try.prog 71 #[.pointer bp, .slice ko 32 kc, .agg ((tagAt (cksV n leaf P i) root 0 leaf).b.map B).toArray, .slice lo 3 3] w' R :=
          fun w' b sk lo vs s pt R hR => by
            refine checkO b (by omega) ko 32 kc key (tagAt (cksV n leaf P i) root 0 leaf).b hkey (tagAt (cksV n leaf P i) root 0 leaf).h lo 3 3 vs (leafP leaf text) rfl sk (by omega) s pt (by omega) (by omega) R ?_
            rw [show (shortS (macS key (framS (leafP leaf text))) == (tagAt (cksV n leaf P i) root 0 leaf).b) = c from hc.symm]
            exact hR
        obtain ⟨V, hV⟩ : ∃ V, V = ((tagAt (cksV n leaf P i) root 0 leaf).b.map B).toArray := ⟨_, rfl⟩
        simp only [← hV] at htag0 hck0
        have Hc := Lib.hid hc
        have hHck := Lib.hid hck
        have hHcin := Lib.hid hcin
        obtain ⟨gw, offw, ew, hcw⟩ := ow5.hat (by omega)
        obtain ⟨d0, d1⟩ := way_cells hcw 0 hw0
        have d0' : wr.cell? ⟨gw, offw, none⟩ = some (.int .i64 0) := by simpa using d0
        have d1' : wr.cell? ⟨gw, offw + 1, none⟩ = some (.int .i64 (leaf : Int)) := by simpa using d1
        subst ew
        clear hV hc hck hcin hfl d0 d1 hcw hPS hver2 hmm hpo' sp b4 sk4 st4 ow4 or4 k4
        go_wp2_with fail
        refine htag0 wr (Grow.refl wr) _ ?_
        clear htag0
        intro w6 g6
        go_wp2_with fail
        refine hlp w6 (st5.grow g6) _ ?_
        clear hlp
        intro plo pvs w7 s7 p7 g7 _
        have g67 := g6.trans g7
        go_wp2_with fail
        refine hck0 w7 (b5.grow g67) (sk5.grow g67) plo pvs s7 p7 _ ?_
        clear hck0 s7 p7 d0' d1'
        intro FP8 w8 b8 k8 in8
        have hz5 := hgw.size
        have hz6 := g67.size
        have k08 : Keep FP w w8 := (Keep.of_grow _ (hgw.trans g67)).trans k8
        have in08 : ∀ g ∈ FP8, g ∈ FP ∨ w.heap.size ≤ g := fun g hg => (in8 g hg).imp id fun h => by omega
        have hz7 := k8.size
        have hout : ∀ y, y < wr.heap.size → y ∉ FP → y ∉ FP8 := fun y h1 h2 hm => by
          rcases in8 y hm with h | h
          · exact h2 h
          · omega
        cases c with
        | false =>
          have hvf : verS key n leaf text root P = false := by rw [HV2.out, ← Hc.out]; rfl
          rw [hvf] at hR
          have hfin := hR FP8 [] w8 (by rw [List.append_nil]; simpa using b8) (by simp) (by simp) k08 in08
          clear hR hvf
          go_wp2_with fail
          exact hfin
        | true =>
          simp only [if_true] at b8
          have ow8 := (ow5.grow g67).keep k8 (fun y hy => hnF y (hwoq.out y hy).2)
          have hLv8 := (hLv.grow g67).keep k8 (fun y hy => by
            rcases List.mem_cons.1 hy with h | h
            · rw [h]; exact hnF _ hq16z
            · rcases List.mem_append.1 h with h | h
              · exact hnF y (Nat.le_trans hz04 (hlo.out y h))
              · exact (hp0.out y h).1)
          have o108 : Cells w8 q10 0 (root.b.map B) := (o10.keep (Keep.of_grow [] g67) (by simp)).keep k8 (hnF _ hq10z)
          have sk8 := (sk5.grow g67).keep k8 (fun y hy => (hko.out y hy).1)
          have hdl : ∀ y ∈ q16 :: (blk lo ++ blk po), y ∉ FP8 ∧ y < w8.heap.size := fun y hy => by
            have h1 : y < wr.heap.size ∧ y ∉ FP := by
              rcases List.mem_cons.1 hy with h | h
              · rw [h]; exact ⟨lt_of_block hLv.obj, hnF _ hq16z⟩
              · rcases List.mem_append.1 h with h | h
                · exact ⟨hLv.lev.lt y h, hnF y (Nat.le_trans hz04 (hlo.out y h))⟩
                · exact ⟨by have := hpoz.out y h; omega, (hp0.out y h).1⟩
            exact ⟨hout y h1.1 h1.2, by omega⟩
          have hd10 : q10 ∉ FP8 ∧ q10 < w8.heap.size := ⟨hout q10 (by have := or5.lt q10 (by simp [blk]); omega) (hnF _ hq10z), by have := or5.lt q10 (by simp [blk]); omega⟩
          have hdk : ∀ y ∈ blk ko, y ∉ FP8 ∧ y < w8.heap.size := fun y hy => ⟨hout y (by have := (hko.out y hy).2; omega) (hko.out y hy).1, by have := (hko.out y hy).2; omega⟩
          have hdw : ∀ y ∈ blk (some (⟨gw, offw, none⟩ : Addr)), y ∉ FP8 ∧ y < w8.heap.size := fun y hy => by
            have h1 := hwoq.out y hy
            have h2 := lt_of_block hLv.obj
            exact ⟨hout y (by omega) (hnF _ h1.2), by omega⟩
          obtain ⟨so, sc, hcutw, sw, hso⟩ := run_cut1 TP ow8 (1 : Int) 1 rfl hw0
          have hLN : L - 1 = i := by have := HN.out; omega
          rw [hLN] at sw hcutw
          rw [← hso] at hdw
          clear ow5 ow8 hLv or5 o10 sk5 st5 b5 g6 g7 g67 hgw k8 hpoz hp0 ha0 hko hlo hwoq hLN hso
          go_wp2_with (refine wpList_exec rfl (exec_sliceT (hcutw _)) ?_)
          clear hcutw
          have hsw1 := sw.hle
          have hsw2 := sw.hcap
          go_loopw [79] (fun vi w9 => ∃ (j : Nat) (FP9 : List Nat) (ds : List Clm), vi = .int .i64 (j : Int) ∧ j ≤ i ∧ BkO w9 (.pointer bp) FP9 (cs ++ clmS key (framS (leafP leaf text)) false :: ds) ∧ ds.length ≤ j ∧ Hid (∀ m, m < j → okN key leaf (cksV n leaf P i) root (ckV n leaf P m) m = true) ∧ Keep FP8 w8 w9 ∧ Hid (∀ g ∈ FP9, g ∈ FP8 ∨ w8.heap.size ≤ g) ∧ Hid (∀ d ∈ ds, d.key = key ∧ d.text.length ≤ 1000)) (fun vi _ => i - (intOf vi).toNat)
          case atStart => exact ⟨0, FP8, [], rfl, by omega, by simpa using b8, by simp, Lib.hid (fun m hm => by omega), Keep.refl _ _, Lib.hid (fun g hg => .inl hg), Lib.hid (by simp)⟩
          case round =>
            clear b8
            obtain ⟨j, FP9, ds, rfl, hj, b9, hdl9, hall, k9, in9, hfit⟩ := hrel
            have hz9 := k9.size
            have hno : ∀ y, (y ∉ FP8 ∧ y < w8.heap.size) → y ∉ FP9 := fun y hy hm => by
              rcases in9.out y hm with h | h
              · exact hy.1 h
              · omega
            by_cases hltj : j < i
            · obtain ⟨gs, offs, es, hcs⟩ := (sw.keep k9 (fun y hy => (hdw y hy).1)).hat (by omega)
              subst es
              obtain ⟨jv, hjv⟩ : ∃ jv, jv = j + 1 := ⟨_, rfl⟩
              have Hjv := Lib.hid hjv
              have hjL : jv < L := by have := HN.out; omega
              obtain ⟨d0, d1⟩ := way_drop hcs j jv hjv hjL
              have hidl := upN_le leaf jv
              have hjc : j < (cksV n leaf P i).length := by rw [cksV_len]; exact hltj
              have hckl := hHck.out j hjc
              have hin := hHcin.out jv
              have hln4 := lnV_le n leaf j
              obtain ⟨c2, hc2⟩ : ∃ c2, c2 = okN key leaf (cksV n leaf P i) root (ckV n leaf P j) j := ⟨_, rfl⟩
              have hc3 : c2 = (shortS (macS key (framS (nodeP jv (upN leaf jv) ((cksV n leaf P i)[j]'hjc)))) == (tagAt (cksV n leaf P i) root jv (upN leaf jv)).b) := by rw [hc2, cksV_at, hjv]; rfl
              have hNc : clmS key (framS (nodeP jv (upN leaf jv) ((cksV n leaf P i)[j]'hjc))) false = clmS key (framS (nodeP jv (upN leaf jv) ((cksV n leaf P i)[j]'hjc))) false := rfl
              obtain ⟨idx, hidx⟩ : ∃ x, x = upN leaf jv := ⟨_, rfl⟩
              rw [← hidx] at d1 hidl hc3
              simp only [← hidx] at hin
              have Hc2 := Lib.hid hc2
              have hlen9 : (cs ++ clmS key (framS (leafP leaf text)) false :: ds).length ≤ 100000 := by rw [List.length_append, List.length_cons]; omega
              clear hjv hcs hidx hc2 hNc
              go_upto_region 18 with (fail)
              have g10 := Grow.alloc wr (.cells #[.int .i64 (jv : Int), .int .i64 (idx : Int)] 76)
              have o21 := alloc_new wr (.cells #[.int .i64 (jv : Int), .int .i64 (idx : Int)] 76)
              have hb9 := b9.lt
              refine ver18 q16 q10 wr.heap.size j jv idx Hjv (by omega) ko kc key hkey bp hlen9 (by rw [cksV_len]; omega) hjc (by rw [hckl]; exact hln4) hin root c2 hc3 _ ((hLv8.keep k9 (fun y hy => (hdl y hy).1)).grow g10) ((o108.keep k9 hd10.1).keep (Keep.of_grow [] g10) (by simp)) o21 ((sk8.keep k9 (fun y hy => (hdk y hy).1)).grow g10) (b9.grow g10) (fun y hy => hno y (hdl y hy)) ⟨hno q10 hd10, fun hm => by have := hb9 _ hm; omega⟩ (fun y hy => hno y (hdk y hy)) ?_
              intro FP11 w11 b11 k11 in11
              intros
              have k911 : Keep FP8 w8 w11 := (k9.trans (Keep.of_grow _ g10)).trans' k11 in9.out
              have in911 := inn_step in9.out (Nat.le_trans k9.size g10.size) in11
              rw [List.append_assoc] at b11
              clear g10 o21 hb9 k11 in11 k9 b9 in9 d0 d1
              cases c2 with
              | false =>
                have hvf : verS key n leaf text root P = false := by
                  rw [HV2.out, ← Hc.out, Bool.true_and, List.all_eq_false]
                  exact ⟨j, by simpa using hltj, by rw [← Hc2.out]; simp⟩
                rw [hvf] at hR
                have hfin := hR FP11 _ w11 b11 (by simp; omega) (by simp) (k08.trans' k911 in08) (inn_step in08 k08.size in911)
                clear hR hvf
                go_wp2_with fail
                exact hfin
              | true =>
                simp only [if_true, List.cons_append] at b11
                have hall2 : Hid (∀ m, m < j + 1 → okN key leaf (cksV n leaf P i) root (ckV n leaf P m) m = true) := Lib.hid (fun m hm => by
                  by_cases e : m = j
                  · subst e; exact Hc2.out.symm
                  · exact hall.out m (by omega))
                have IN := Lib.hid in911
                have hfit2 : Hid (∀ d ∈ ds ++ [clmS key (framS (nodeP jv idx ((cksV n leaf P i)[j]'hjc))) false], d.key = key ∧ d.text.length ≤ 1000) := Lib.hid (fun d hd => by
                  rcases List.mem_append.1 hd with h | h
                  · exact hfit.out d h
                  · rw [List.mem_singleton.1 h]
                    refine ⟨rfl, ?_⟩
                    show (framS _).length ≤ 1000
                    rw [framS_len, nodeP_len, show (nodeP jv idx ((cksV n leaf P i)[j]'hjc)).length = 4 from rfl]
                    omega)
                clear hall in911 hfit
                simp only [Bool.not_true]
                go_wp2_with fail
                refine ⟨?_, ?measure⟩
                (repeat apply Exists.intro)
                refine ⟨?rel, rfl⟩
                case rel => exact ⟨j + 1, FP11, _, by go_num, by omega, b11, by rw [List.length_append]; simp; omega, hall2, k911, IN, hfit2⟩
                case measure => simp [intOf]; omega
            · obtain rfl : j = i := by omega
              have hvt : verS key n leaf text root P = true := by
                rw [HV2.out, ← Hc.out, Bool.true_and, List.all_eq_true]
                intro m hm
                exact hall.out m (by simpa using hm)
              rw [hvt] at hR
              have hfin := hR FP9 _ _ b9 (by rw [List.length_cons]; omega) (fun _ => ⟨ds, rfl, hfit.out⟩) (k08.trans' k9 in08) (inn_step in08 k08.size in9.out)
              clear hR hvt
              go_wp2_with fail
              exact hfin
end Go.Proofs.Ytfmnkcmicbnfdaa
