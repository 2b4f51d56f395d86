/- The document's Verify: the walk. -/
import Derived.Test.YtfmnkcmicbnfdaaHtDv
import Derived.Test.YtfmnkcmicbnfdaaHtVh
namespace Go.Proofs.Ytfmnkcmicbnfdaa
open Go Go.RowKit

theorem rows_at2 {w : World} {av : List Nat} : ∀ {vs : List Value} {ls : List (List Pl)}, RowsOf w av vs ls → ∀ i (h : i < ls.length), ∃ ao c, vs[i]? = some (.slice ao ls[i].length c) ∧ Sl w 2 ao ls[i].length c (pk ls[i]) ∧ ∀ y ∈ blk ao, y < w.heap.size
  | [], [], _, i, h => by simp at h
  | _ :: _, _ :: _, ⟨⟨ao, c, e, s, hb⟩, h⟩, i, hi => by
    cases i with
    | zero => exact ⟨ao, c, by simp [e], s, fun y hy => (hb y hy).1⟩
    | succ i => simpa using rows_at2 h i (by simpa using hi)
  | [], _ :: _, h, _, _ => h.elim
  | _ :: _, [], h, _, _ => h.elim
/-- The kid beside a way that is on it. -/
theorem kid_is (leaf i k : Nat) : (4 * upN leaf (i + 1) + k = upN leaf i ∧ k < 4) ↔ k = upN leaf i % 4 := by
  unfold upN
  rw [Nat.pow_succ, ← Nat.div_div_eq_div_mul]
  omega
theorem rows_kids (n leaf : Nat) (h1 : 1 ≤ n) (h2 : n ≤ 65536) (hl : leaf < n) (j : Nat) (h : j < (beside n leaf).length) : pk ((beside n leaf)[j]) = plV j (upN leaf (j + 1)) (lnV n leaf j) := by
  have e := beside_at n leaf h1 h2 hl
  have hj : j < (wl n).length - 1 := by rw [e, besideN_len] at h; exact h
  have e2 : (beside n leaf)[j] = kids n ((j + 1 : Nat) : Int) ((leaf / 4 ^ j / 4 : Nat) : Int) := by
    have : ∀ (l : List (List Pl)) (hh : j < l.length), l = besideN n leaf ((wl n).length - 1) → l[j] = kids n ((j + 1 : Nat) : Int) ((leaf / 4 ^ j / 4 : Nat) : Int) := fun l hh el => by subst el; simp [besideN]
    exact this _ h e
  have hu : leaf / 4 ^ j / 4 = upN leaf (j + 1) := by unfold upN; rw [Nat.pow_succ, ← Nat.div_div_eq_div_mul]
  rw [e2, hu, kids_eq n j _ h1 h2 (by
    have := way_in n leaf hl (j + 1) (by omega)
    exact this)]
  rfl

theorem cnd_at (key : List UInt8) (n leaf : Nat) (text : List UInt8) (root : B16) (P : List B16) (i : Nat) (hi : i < (wl n).length - 1) (hr : upN leaf i % 4 < lnV n leaf i) :
    cndS key n leaf text root P i = ((P.getD (sumV n leaf i + upN leaf i % 4) B0).b == (nowS key n leaf text P i).b) := by
  have e1 : tagAt (cksV n leaf P ((wl n).length - 1)) root i (upN leaf i) = P.getD (sumV n leaf i + upN leaf i % 4) B0 := by
    unfold tagAt
    rw [if_neg (by rw [cksV_len]; omega)]
    have e2 : (cksV n leaf P ((wl n).length - 1)).getD i [] = ckV n leaf P i := by
      rw [List.getD_eq_getElem?_getD, List.getElem?_eq_getElem (by rw [cksV_len]; exact hi), Option.getD_some, cksV_at]
    rw [e2]
    unfold ckV
    rw [List.getD_eq_getElem?_getD, List.getD_eq_getElem?_getD, List.getElem?_take, if_pos hr, List.getElem?_drop]
  unfold cndS
  rw [e1, Bool.eq_iff_iff]
  simp only [beq_iff_eq]
  exact eq_comm

set_option maxRecDepth 100000 in
set_option maxHeartbeats 4000000 in
theorem rVerifyC (ph n leaf : Nat) (hn2 : n ≤ 1000) (hl : leaf < n) (ko : Option Addr) (kc : Nat) (key : List UInt8) (hkey : key.length = 32) (root : B16) (a0 : Option Addr) (tn tc : Nat) (text : List UInt8) (htl : text.length ≤ 1000) (po : Option Addr) (pm pc : Nat) (P : List B16) (hpm : pm = P.length) (hpl : pm ≤ 100000) (w : World) (sm : Sm w ph Hs Ks) (sk : Sl w 1 ko 32 kc (key.map B)) (st : Sl w 1 a0 tn tc (text.map B)) (sp : Sl w 16 po pm pc (bVs P)) (R : Ending → World → Prop)
    (hd : ph < w.heap.size ∧ ∀ y ∈ blk ko ++ blk po, y < w.heap.size) (hR : ∀ w', Grow w w' → R (.returned (.bool (verS key n leaf text root P))) w') :
    Calls Try.prog 38 #[.pointer (some ⟨ph, 0, none⟩), .int .i64 (n : Int), .slice ko 32 kc, .agg (root.b.map B).toArray, .int .i64 (leaf : Int), .slice a0 tn tc, .slice po pm pc] w R := by
  have hml : maxLen = 9223372036854775807 := rfl
  have hwf : (Lit.int .i64 (n : Int)).wf = true := by simp [Lit.wf, IntKind.min, IntKind.max, IntKind.signed, IntKind.bits]; omega
  have hwl := wl_len n
  have hw0 : 0 < (wl n).length := by
    by_cases h : n ≤ 1
    · rw [wl_one h]; simp
    · rw [wl_more h]; simp
  have hway := fun w R hR => rWayC n leaf hwf w R hR
  have hbes := fun w R hR => rBesideC n leaf hwf w R hR
  rw [way_at n leaf (by omega) (by omega) hl, wayN_len] at hway
  have hbl : (beside n leaf).length = (wl n).length - 1 := by rw [beside_at n leaf (by omega) (by omega) hl, besideN_len]
  have hup := up_in n leaf hl
  obtain ⟨rows, hrows⟩ : ∃ rows, rows = beside n leaf := ⟨_, rfl⟩
  have hbk : ∀ j (h : j < rows.length), rows[j].length = lnV n leaf j := by subst hrows; exact beside_lens n leaf (by omega) (by omega) hl
  have hbp : ∀ j (h : j < rows.length), pk rows[j] = plV j (upN leaf (j + 1)) (lnV n leaf j) := by subst hrows; exact rows_kids n leaf (by omega) (by omega) hl
  simp only [← hrows] at hbes hbl
  rw [hbl] at hbes
  have hver := verS_eq key n leaf text root P
  obtain ⟨L, hL⟩ : ∃ L, L = (wl n).length := ⟨_, rfl⟩
  rw [← hL] at hw0 hwl hbl hup hver
  simp only [← hL] at hway hbes
  obtain ⟨N, hN⟩ : ∃ N, N = L - 1 := ⟨_, rfl⟩
  rw [← hN] at hver hbl
  simp only [← hN] at hbes
  have HN : Hid (L = N + 1) := Lib.hid (by omega)
  have HLw : Hid ((wl n).length - 1 = N) := Lib.hid (by omega)
  have hN1 : N ≤ 1000 := by omega
  have HV := Lib.hid hver
  have Hpm := Lib.hid hpm
  have HBL := Lib.hid hbl
  have g1 : decide ((n : Int) < 1) = false := decide_eq_false (by omega)
  have g2 : decide ((65536 : Int) < (n : Int)) = false := decide_eq_false (by omega)
  have g3 : decide ((leaf : Int) < 0) = false := decide_eq_false (by omega)
  have g4 : decide (n ≤ leaf) = false := decide_eq_false (by omega)
  have or0 : Own (w.alloc (.cells (root.b.map B).toArray 33)) 33 1 (some ⟨w.heap.size, 0, none⟩) 16 16 (root.b.map B) := Own.made (n := 16) (sz := 1) (heap_alloc_new w (.cells (root.b.map B).toArray 33)) (by simp [root.h]) (by omega) (by simpa using B_one root.b)
  have ga := Grow.alloc w (.cells (root.b.map B).toArray 33)
  have ot := alloc_new (w.alloc (.cells (root.b.map B).toArray 33)) (.cells #[.pointer (some ⟨ph, 0, none⟩), .slice ko 32 kc, .slice none 0 0, .slice none 0 0] 61)
  have gb := Grow.alloc (w.alloc (.cells (root.b.map B).toArray 33)) (.cells #[.pointer (some ⟨ph, 0, none⟩), .slice ko 32 kc, .slice none 0 0, .slice none 0 0] 61)
  rw [sz_al] at ot
  obtain ⟨VR, hVR⟩ : ∃ VR, VR = (root.b.map B).toArray := ⟨_, rfl⟩
  rw [← hVR] at or0 ga ot gb ⊢
  clear hver hN hL hrows hpm hbl hVR hwf
  go_enter Try.func38, Try.ntmps38
  go_wp2_with fail
  obtain ⟨q10, hq10⟩ : ∃ q, q = w.heap.size := ⟨_, rfl⟩
  obtain ⟨q15, hq15⟩ : ∃ q, q = w.heap.size + 1 := ⟨_, rfl⟩
  have or1 := or0.grow gb
  have g02 := ga.trans gb
  have hq15z : q15 < ((w.alloc (.cells VR 33)).alloc (.cells #[.pointer (some ⟨ph, 0, none⟩), .slice ko 32 kc, .slice none 0 0, .slice none 0 0] 61)).heap.size := by rw [sz_al, sz_al]; omega
  generalize (w.alloc (.cells VR 33)).alloc (.cells #[.pointer (some ⟨ph, 0, none⟩), .slice ko 32 kc, .slice none 0 0, .slice none 0 0] 61) = w2 at *
  rw [← hq10] at or1
  rw [← hq15] at ot
  rw [show w.heap.size = q10 from hq10.symm, show q10 + 1 = q15 by omega]
  have hz10 : w.heap.size ≤ q10 ∧ w.heap.size ≤ q15 ∧ q10 < q15 := by omega
  clear hq10 hq15 or0 ga gb
  refine hbes w2 _ ?_
  clear hbes
  intro bo bc vs w3 ob rw3 g23
  go_wp2_with fail
  refine hway w3 _ ?_
  clear hway
  intro wo wc w4 ow g34 fw
  have g24 := g23.trans g34
  have g04 := g02.trans g24
  have ot4 := g24.block ot
  have hlt := leafTextC q15 ph ko kc key hkey leaf (by omega) a0 tn tc text htl w4 (obj_cell ot4 0 rfl) (obj_cell ot4 1 rfl) (sm.grow g04) (sk.grow g04) (st.grow g04)
  have hVl := bV_len (leafT key leaf text)
  have hV1 := B_one (leafT key leaf text).b
  obtain ⟨V, hV⟩ : ∃ V, V = (leafT key leaf text).b.map B := ⟨_, rfl⟩
  rw [← hV] at hVl hV1
  simp only [← hV] at hlt
  have HVV := Lib.hid hV
  clear hV
  go_wp2_with fail
  refine hlt _ ?_
  clear hlt
  intro w5 g45
  obtain ⟨o18, ga1, th1, al1⟩ := newvar (t := 33) w5 (.int .u8 0) rfl (by omega) hVl hV1
  have hszF : (Try.prog.info? 33).map (·.size) = some V.toArray.size := by rw [List.size_toArray, hVl]; exact i16
  go_upto_region 7 with (refine wpList_store_mid rfl 33 _ _ rfl w5.heap.size 0 V.toArray rfl rfl th1 hszF al1 ?_)
  change Code.wp _ _ _ ⟨_, _⟩ ((w5.alloc (.cells (List.replicate 16 (.int .u8 0)).toArray 33)).setCells w5.heap.size 0 V)
  have g46 := g45.trans ga1
  have g06 := g04.trans g46
  obtain ⟨q18, hq18⟩ : ∃ q, q = w5.heap.size := ⟨_, rfl⟩
  have hlt5 : ∀ y, y < w4.heap.size → y < q18 := fun y hy => by have := g45.size; omega
  generalize (w5.alloc (.cells (List.replicate 16 (.int .u8 0)).toArray 33)).setCells w5.heap.size 0 V = w6 at *
  rw [← hq18] at o18 ⊢
  have g36 := g34.trans g46
  have ob6 := ob.grow g36
  have rw6 : ∀ i (h : i < rows.length), ∃ ao c, vs[i]? = some (.slice ao rows[i].length c) ∧ Sl w6 2 ao rows[i].length c (pk rows[i]) ∧ ∀ y ∈ blk ao, y ≠ q18 := fun i h => by
    obtain ⟨ao, c, h1, h2, h3⟩ := rows_at2 rw3 i h
    exact ⟨ao, c, h1, h2.grow g36, fun y hy e => by have := hlt5 y (Nat.lt_of_lt_of_le (h3 y hy) g34.size); omega⟩
  have ow6 := ow.grow g46
  have or6 := or1.grow (g24.trans g46)
  have ot6 := g46.block ot4
  have sm6 := sm.grow g06
  have sk6 := sk.grow g06
  have sp6 := sp.grow g06
  have hbo : ∀ y ∈ blk bo, y ≠ q18 := fun y hy e => by have := hlt5 y (Nat.lt_of_lt_of_le (ob.lt y hy) g34.size); omega
  have hwo : ∀ y ∈ blk wo, y ≠ q18 := fun y hy e => by have := hlt5 y (ow.lt y hy); omega
  have hzz : q10 ≠ q18 ∧ q15 ≠ q18 ∧ w.heap.size ≤ q18 := by
    have h1 := hlt5 q15 (by have := g24.size; omega)
    omega
  have hold : ∀ y, y < w.heap.size → y ≠ q18 := fun y hy e => by omega
  have hbs1 := ob.sl.hle
  have hbs2 := ob.sl.hcap
  have hws := ow.sl.hle
  have hws2 := ow.sl.hcap
  have hps := sp.hle
  have hps2 := sp.hcap
  rw [HVV.out] at o18
  clear ob rw3 ow or1 ot ot4 sm sk sp st g23 g34 g24 g45 ga1 th1 al1 hszF g46 g36 hq18 hlt5 hq15z g02 g04 fw hVl hV1 HVV
  go_wp2_with fail
  go_loopw [19, 20] (fun va vi wr => ∃ (i S : Nat), vi = .int .i64 (i : Int) ∧ i ≤ N ∧ va = .int .i64 (S : Int) ∧ Hid (S = sumV n leaf i) ∧ S ≤ pm ∧ Own wr 33 1 (some ⟨q18, 0, none⟩) 16 16 ((nowS key n leaf text P i).b.map B) ∧ Hid (∀ j, j < i → cndS key n leaf text root P j = true) ∧ Keep [q18] w6 wr) (fun _ vi _ => N - (intOf vi).toNat)
  case atStart => exact ⟨0, 0, rfl, by omega, rfl, Lib.hid rfl, by omega, o18, Lib.hid (fun j hj => by omega), Keep.refl _ _⟩
  case round =>
    clear o18
    obtain ⟨i, S, rfl, hi, rfl, hS, hSp, o18, hall, k6⟩ := hrel
    have kb : ∀ y ∈ blk bo, y ∉ [q18] := fun y hy => by simpa using hbo y hy
    have kw : ∀ y ∈ blk wo, y ∉ [q18] := fun y hy => by simpa using hwo y hy
    have ko' : ∀ y, y < w.heap.size → y ∉ [q18] := fun y hy => by simpa using hold y hy
    by_cases hlt : i < N
    · have hir : i < rows.length := by rw [HBL.out]; exact hlt
      obtain ⟨gb, offb, eb, hcb⟩ := (ob6.sl.keep k6 kb).hat (by omega)
      obtain ⟨ro, rc, hv, sr, hro⟩ := rw6 i hir
      have c1 := hcb.at hv
      rw [hbk i hir, hbp i hir] at sr
      rw [hbk i hir] at c1
      have hK4 := lnV_le n leaf i
      have hsn : sumV n leaf (i + 1) = sumV n leaf i + lnV n leaf i := rfl
      have hinK := hup i (by have := HN.out; omega)
      obtain ⟨K, hK⟩ : ∃ K, K = lnV n leaf i := ⟨_, rfl⟩
      rw [← hK] at c1 hK4 hsn sr hinK
      have Hsn := Lib.hid hsn
      have HK := Lib.hid hK
      subst eb
      have hSub : (pm : Int) - (S : Int) = ((pm - S : Nat) : Int) := by omega
      clear hcb hv hir hK hsn
      by_cases hcut : pm - S < K
      · have hvf : verS key n leaf text root P = false := by
          have h1 := sumV_mono n leaf (i := i + 1) (k := N) (by omega)
          have h2 := hS.out
          have h3 := Hsn.out
          have h4 := Hpm.out
          rw [HV.out, decide_eq_false (by omega)]
          rfl
        rw [hvf] at hR
        have hfin := hR wr (g06.then k6 (fun y hy => by simp at hy; omega))
        have hcd : decide (((pm - S : Nat) : Int) < (K : Int)) = true := decide_eq_true (by omega)
        clear hR hvf
        go_wp2_with fail
        exact hfin
      · have hcd : decide (((pm - S : Nat) : Int) < (K : Int)) = false := decide_eq_false (by omega)
        go_wp2_with fail
        obtain ⟨w7, e7⟩ : ∃ x, x = wr := ⟨_, rfl⟩
        subst e7
        obtain ⟨now, hnow⟩ : ∃ x, x = nowS key n leaf text P i := ⟨_, rfl⟩
        rw [← hnow] at o18
        have Hnow := Lib.hid hnow
        have hVn := bV_len now
        obtain ⟨r, hr⟩ : ∃ r, r = upN leaf i % 4 := ⟨_, rfl⟩
        rw [← hr] at hinK
        have Hr := Lib.hid hr
        obtain ⟨e, he⟩ : ∃ e, e = ((P.getD (S + r) B0).b == now.b) := ⟨_, rfl⟩
        have He := Lib.hid he
        obtain ⟨gp, offp, ep, hcp⟩ := (sp6.keep k6 (fun y hy => ko' y (hd.2 y (by simp [hy])))).hat (by omega)
        subst ep
        obtain ⟨gw, offw, ew, hcw⟩ := (ow6.sl.keep k6 kw).hat (by have := HN.out; omega)
        subst ew
        obtain ⟨u0, u1⟩ := way_cells hcw i (by have := HN.out; omega)
        have hiL : i < L := by have := HN.out; omega
        have hN1' : N ≤ 1001 := by omega
        have hL1 : L ≤ 1001 := by have := HN.out; omega
        have hsr := sr.keep k6 (fun y hy => by simpa using hro y hy)
        have hPl : pm = P.length := Hpm.out
        have HPl := Lib.hid hPl
        clear hnow hr he hPl
        go_loopw [21, 22, 23] (fun va vr vk w9 => ∃ (k : Nat) (ao : Option Addr) (na cap : Nat) (rb : Bool), vk = .int .i64 (k : Int) ∧ k ≤ K ∧ va = .slice ao na cap ∧ Hid (na = 16 * k) ∧ na ≤ 64 ∧ vr = .bool rb ∧ Hid (rb = (decide (r < k) && e)) ∧ Own w9 5 1 ao na cap ((((P.drop S).take k).flatMap (·.b)).map B) ∧ Grow w7 w9 ∧ Fr (blk ao) w7) (fun _ _ vk _ => K - (intOf vk).toNat)
        case atStart => exact ⟨0, none, 0, 0, false, rfl, by omega, rfl, Lib.hid rfl, by omega, rfl, Lib.hid (by simp), Own.none _ _ _, Grow.refl _, by simp [Fr, blk]⟩
        case round =>
          obtain ⟨k, ao, na, cap, rb, rfl, hk, rfl, hna, hna2, rfl, hrb, oa, g7, fa⟩ := hrel
          by_cases hlk : k < K
          · obtain ⟨gr, offr, er, hcr⟩ := (hsr.grow g7).hat (by omega)
            subst er
            obtain ⟨d0, d1⟩ := plV_at hcr k hlk
            have hrs := sr.hle
            have hrs2 := sr.hcap
            obtain ⟨ix, hix⟩ : ∃ ix, ix = S + k := ⟨_, rfl⟩
            have hixl : ix < P.length := by rw [← HPl.out]; omega
            have hixI : (S : Int) + (k : Int) = (ix : Int) := by omega
            have hcx : Cells wr gp (offp + ix * 16) (P[ix].b.map B) := (cells_blk hcp ix hixl).keep (Keep.of_grow [] g7) (by simp)
            have htk : ((P.drop S).take (k + 1)).flatMap (·.b) = ((P.drop S).take k).flatMap (·.b) ++ P[ix].b := by
              rw [List.take_add_one, List.flatMap_append, List.getElem?_drop, ← hix, List.getElem?_eq_getElem hixl]
              simp
            have hgd : P.getD ix B0 = P[ix] := by rw [List.getD_eq_getElem?_getD, List.getElem?_eq_getElem hixl]; rfl
            obtain ⟨x, hx⟩ : ∃ x, x = P[ix] := ⟨_, rfl⟩
            rw [← hx] at hcx htk hgd
            have Hix := Lib.hid hix
            have hVl := bV_len x
            have hV1 := B_one x.b
            have heq : ∀ w, (Op.equalIn 10000 33 (.agg (x.b.map B).toArray) (.agg (now.b.map B).toArray)).run Try.prog w = .ok (x.b == now.b) w := fun w => eq_blk x.b now.b x.h now.h w
            obtain ⟨X, hX⟩ : ∃ X, X = x.b.map B := ⟨_, rfl⟩
            obtain ⟨Y, hY⟩ : ∃ Y, Y = now.b.map B := ⟨_, rfl⟩
            obtain ⟨e2, he2⟩ : ∃ e2, e2 = (x.b == now.b) := ⟨_, rfl⟩
            rw [← hX] at hcx hVl hV1
            simp only [← hX, ← hY, ← he2] at heq
            have o18' := o18.grow g7
            rw [← hY] at o18'
            have HX := Lib.hid hX
            have He2 := Lib.hid he2
            have hVn' := hVn
            rw [← hY] at hVn'
            obtain ⟨px, hpx⟩ : ∃ px, px = 4 * upN leaf (i + 1) + k := ⟨_, rfl⟩
            rw [← hpx] at d1
            have Hpx := Lib.hid hpx
            have hrg : wr.rangeAt gp (offp + ix * 16) X := fun j v hj => hcx.at hj
            have hszX : (Try.prog.info? 33).map (·.size) = some X.length := by rw [hVl]; exact i16
            obtain ⟨o24, ga1, th1, al1⟩ := newvar (t := 33) wr (.int .u8 0) rfl (by omega) hVl hV1
            have hszF : (Try.prog.info? 33).map (·.size) = some X.toArray.size := by rw [List.size_toArray, hVl]; exact i16
            have c1' := g7.cell c1
            have u0' := g7.cell u0
            have u1' := g7.cell u1
            clear hX hY hx hix he2 hpx hcr hcx
            go_upto_region 19 with (first | refine wpList_load_mid rfl 33 _ rfl gp (offp + ix * 16) rfl X _ hrg Try.underlying33 rfl hszX ?_ | refine wpList_store_mid rfl 33 _ _ rfl wr.heap.size 0 X.toArray rfl rfl th1 hszF al1 ?_)
            refine rver19 gb offb N bc gw offw L wc i k K gr offr rc px (upN leaf i) hlt hN1' hiL hL1 hlk hK4 _ rfl _ (ga1.cell c1') (ga1.cell d0) (ga1.cell d1) (ga1.cell u0') (ga1.cell u1') hbs1 hbs2 hws hws2 hrs hrs2 ?_
            intro w10 g10
            intros
            have g1x := ga1.trans g10
            obtain ⟨q24, hq24⟩ : ∃ q, q = wr.heap.size := ⟨_, rfl⟩
            have o24x := o24.grow g10
            rw [← hq24] at o24x ⊢
            have o18x := o18'.grow g1x
            have oax := oa.grow g1x
            have sv := o24x.sl
            have g7x := g7.trans g1x
            have hx16 : 16 * (k + 1) = na + 16 := by have := hna.out; omega
            have hx17 : na + 16 ≤ 64 := by omega
            have Hx := Lib.hid hx16
            have hkr := kid_is leaf i k
            have hszY : (Try.prog.info? 33).map (·.size) = some Y.length := by rw [hVn']; exact i16
            have hrgX := own_range o24x (by omega)
            have hrgY := own_range o18x (by omega)
            clear o24 o18' oa hx16 d0 d1 c1' u0' u1' hrg th1 al1 hszF g10 ga1 g1x hq24 o18x hixI
            by_cases hpu : px = upN leaf i
            · have hkr2 : k = r := by rw [Hr.out]; exact hkr.1 ⟨by rw [← Hpx.out]; exact hpu, by omega⟩
              have hrb2 : Hid (e2 = (decide (r < k + 1) && e)) := Lib.hid (by
                rw [decide_eq_true (by omega), Bool.true_and, He.out, ← hkr2, ← Hix.out, hgd]
                exact He2.out)
              rw [decide_eq_true hpu]
              clear hpu hkr hkr2 hgd
              go_wp2_with (first | refine wpList_load_mid rfl 33 _ rfl q24 0 rfl X _ hrgX Try.underlying33 rfl hszX ?_ | refine wpList_load_mid rfl 33 _ rfl q18 0 rfl Y _ hrgY Try.underlying33 rfl hszY ?_ | (at_builtin; refine wpList_app TBy rfl rfl oax sv (by omega) (by omega) ?_; intro ao' cap' w11 hown _ hkeep hblk))
              rw [HX.out, ← List.map_append, ← htk] at hown
              have fa9 : Fr (blk ao') w7 := fun y hy => by
                rcases hblk y hy with h | h
                · exact fa y h
                · have := g7x.size; omega
              have g9 := g7x.then hkeep fa
              clear hkeep hblk oax sv g7x heq
              go_roundw
              case rel => exact ⟨k + 1, ao', na + 16, cap', e2, by go_num, by omega, rfl, Lib.hid Hx.out.symm, hx17, rfl, hrb2, hown, g9, fa9⟩
              case measure => simp [intOf]; omega
            · have hkr2 : k ≠ r := fun h => hpu (by rw [Hpx.out]; exact (hkr.2 (by rw [h]; exact Hr.out)).1)
              have hrb2 : Hid (rb = (decide (r < k + 1) && e)) := Lib.hid (by
                rw [hrb.out]
                congr 1
                exact decide_eq_decide.2 (by omega))
              rw [decide_eq_false hpu]
              clear hpu hkr hkr2 hgd hrgX hrgY
              go_wp2_with (at_builtin; refine wpList_app TBy rfl rfl oax sv (by omega) (by omega) ?_; intro ao' cap' w11 hown _ hkeep hblk)
              rw [HX.out, ← List.map_append, ← htk] at hown
              have fa9 : Fr (blk ao') w7 := fun y hy => by
                rcases hblk y hy with h | h
                · exact fa y h
                · have := g7x.size; omega
              have g9 := g7x.then hkeep fa
              clear hkeep hblk oax sv g7x heq
              go_roundw
              case rel => exact ⟨k + 1, ao', na + 16, cap', rb, by go_num, by omega, rfl, Lib.hid Hx.out.symm, hx17, rfl, hrb2, hown, g9, fa9⟩
              case measure => simp [intOf]; omega
          · obtain rfl : k = K := by omega
            have hcn : cndS key n leaf text root P i = e := by
              rw [cnd_at key n leaf text root P i (by rw [HLw.out]; exact hlt) (by rw [← HK.out, ← Hr.out]; exact hinK), He.out, Hnow.out, ← hS.out, ← Hr.out]
            have hrbe : rb = e := by rw [hrb.out, decide_eq_true hinK, Bool.true_and]
            have Hcn := Lib.hid hcn
            subst hrbe
            clear hcn
            cases rb with
            | false =>
              have hvf : verS key n leaf text root P = false := by
                rw [HV.out, Bool.and_eq_false_iff]
                right
                rw [List.all_eq_false]
                exact ⟨i, by simp; omega, by rw [Hcn.out]; simp⟩
              rw [hvf] at hR
              have hfin := hR _ ((g06.then k6 (fun y hy => by simp at hy; omega)).trans g7)
              have c1' := g7.cell c1
              clear hR hvf
              go_wp2_with fail
              exact hfin
            | true =>
              obtain ⟨jv, hjv⟩ : ∃ jv, jv = i + 1 := ⟨_, rfl⟩
              have hjI : (i : Int) + 1 = (jv : Int) := by omega
              have hjL : jv < L := by have := HN.out; omega
              obtain ⟨v0, v1⟩ := way_cells hcw jv hjL
              have hupl := upN_le leaf jv
              have e5 : leaf / 4 ^ jv = upN leaf jv := rfl
              rw [e5] at v1
              obtain ⟨up, hupe⟩ : ∃ x, x = upN leaf jv := ⟨_, rfl⟩
              rw [← hupe] at v1 hupl
              have Hup := Lib.hid hupe
              have Hjv := Lib.hid hjv
              have c1' := g7.cell c1
              obtain ⟨S2, hS2e⟩ : ∃ S2, S2 = S + k := ⟨_, rfl⟩
              have hSK : (S : Int) + (k : Int) = (S2 : Int) := by omega
              have hS2l : S2 ≤ pm := by omega
              have HS2 := Lib.hid hS2e
              have hbsl : ((P.drop S).take k).length ≤ 100 := by rw [List.length_take]; omega
              clear hupe hjv e5 hS2e
              go_upto_region 25 with (fail)
              have ot7 := (g7.block (k6.obj ot6 (by simpa using hzz.2.1)))
              have sm7 : Sm wr ph Hs Ks := ⟨(sm6.1.keep k6 (ko' ph hd.1)).keep (Keep.of_grow [] g7) (by simp), sm6.2⟩
              refine rver25 q15 ph q18 gw offw L wc i jv up hjI hjL hL1 (by omega) ko kc key hkey ao na cap ((P.drop S).take k) hbsl _ wr (g7.cell v0) (g7.cell v1) hws hws2 (obj_cell ot7 0 rfl) (obj_cell ot7 1 rfl) sm7 ((sk6.keep k6 (fun y hy => ko' y (hd.2 y (by simp [hy])))).grow g7) oa.sl (o18.grow g7) ?_
              intro w11 o11 k11
              intros
              have eno : nodeT key jv up ((P.drop S).take k) = nowS key n leaf text P (i + 1) := by
                rw [Hup.out, Hjv.out, HK.out, hS.out]
                rfl
              rw [eno] at o11
              have hS2 : Hid (S2 = sumV n leaf (i + 1)) := Lib.hid (by rw [HS2.out, Hsn.out, hS.out])
              have hall2 : Hid (∀ j, j < i + 1 → cndS key n leaf text root P j = true) := Lib.hid (fun j hj => by
                by_cases ej : j = i
                · subst ej; exact Hcn.out
                · exact hall.out j (by omega))
              have k61 : Keep [q18] w6 w11 := (k6.trans (Keep.of_grow _ g7)).trans k11
              clear ot7 sm7 k11 eno v0 v1 c1' hjI hcp hcw u0 u1 c1 hsr oa
              go_wp2_with fail
              go_roundw
              case rel => exact ⟨i + 1, S2, by go_num, by omega, rfl, hS2, hS2l, o11, hall2, k61⟩
              case measure => simp [intOf]; omega
    · obtain rfl : i = N := by omega
      have hgw := g06.then k6 (fun y hy => by simp at hy; omega)
      obtain ⟨now, hnow⟩ : ∃ x, x = nowS key n leaf text P i := ⟨_, rfl⟩
      rw [← hnow] at o18
      have hcN : cndS key n leaf text root P i = (now.b == root.b) := by
        unfold cndS tagAt
        rw [if_pos (by rw [cksV_len, HLw.out]), hnow]
      have hvr : verS key n leaf text root P = (decide (S = pm) && (now.b == root.b)) := by
        have h1 : (List.range (i + 1)).all (cndS key n leaf text root P) = (now.b == root.b) := by
          rw [List.range_succ, List.all_append, List.all_cons, List.all_nil, hcN, Bool.and_true]
          have : (List.range i).all (cndS key n leaf text root P) = true := by
            rw [List.all_eq_true]
            intro j hj
            exact hall.out j (by simpa using hj)
          rw [this, Bool.true_and]
        rw [HV.out, h1]
        congr 1
        have := hS.out
        have := Hpm.out
        exact decide_eq_decide.2 (by omega)
      rw [hvr] at hR
      by_cases hSe : S = pm
      · rw [decide_eq_true hSe, Bool.true_and] at hR
        have hf := hR _ hgw
        have heq : ∀ w, (Op.equalIn 10000 33 (.agg (now.b.map B).toArray) (.agg (root.b.map B).toArray)).run Try.prog w = .ok (now.b == root.b) w := fun w => eq_blk now.b root.b now.h root.h w
        have hVn := bV_len now
        have hVr := bV_len root
        have or7 := or6.keep k6 (by simpa [blk] using hzz.1)
        obtain ⟨X, hX⟩ : ∃ X, X = now.b.map B := ⟨_, rfl⟩
        obtain ⟨Y, hY⟩ : ∃ Y, Y = root.b.map B := ⟨_, rfl⟩
        obtain ⟨e, he⟩ : ∃ e, e = (now.b == root.b) := ⟨_, rfl⟩
        rw [← hX] at hVn o18
        rw [← hY] at hVr or7
        simp only [← hX, ← hY, ← he] at heq
        rw [← he] at hf
        have hrgX := own_range o18 (by omega)
        have hrgY := own_range or7 (by omega)
        have hszX : (Try.prog.info? 33).map (·.size) = some X.length := by rw [hVn]; exact i16
        have hszY : (Try.prog.info? 33).map (·.size) = some Y.length := by rw [hVr]; exact i16
        have hSI : ((S : Int) == (pm : Int)) = true := by simp [hSe]
        clear hR hvr hcN hnow hX hY he hSe o18 or7
        go_wp2_with (first | refine wpList_load_G 33 _ rfl rfl q18 0 rfl X _ hrgX Try.underlying33 rfl hszX ?_ | refine wpList_load_G 33 _ rfl rfl q10 0 rfl Y _ hrgY Try.underlying33 rfl hszY ?_)
        exact hf
      · rw [decide_eq_false hSe, Bool.false_and] at hR
        have hf := hR _ hgw
        have hSI : ((S : Int) == (pm : Int)) = false := by simp; omega
        clear hR hvr hcN hnow hSe o18
        go_wp2_with fail
        exact hf
end Go.Proofs.Ytfmnkcmicbnfdaa
