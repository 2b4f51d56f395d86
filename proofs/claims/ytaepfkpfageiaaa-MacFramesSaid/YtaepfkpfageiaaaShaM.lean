/- sha: (*Summer).mix. -/
import Derived.Test.YtaepfkpfageiaaaShaW
namespace Go.Proofs.Ytaepfkpfageiaaa
open Go Go.RowKit

def S1 (e : Nat) : Nat := rotr e 6 ^^^ rotr e 11 ^^^ rotr e 25
def S0 (a : Nat) : Nat := rotr a 2 ^^^ rotr a 13 ^^^ rotr a 22
def ch (e f g : Nat) : Nat := (e &&& f) ^^^ ((4294967295 - e) &&& g)
def mj (a b c : Nat) : Nat := (a &&& b) ^^^ (a &&& c) ^^^ (b &&& c)
theorem S1_lt {x : Nat} (h : x < 4294967296) : S1 x < 4294967296 := xor3_lt (rotr_lt _ _ h) (rotr_lt _ _ h) (rotr_lt _ _ h)
theorem S0_lt {x : Nat} (h : x < 4294967296) : S0 x < 4294967296 := xor3_lt (rotr_lt _ _ h) (rotr_lt _ _ h) (rotr_lt _ _ h)
theorem and_lt32 {a b : Nat} (h : a < 4294967296) : a &&& b < 4294967296 := Nat.lt_of_le_of_lt Nat.and_le_left h
theorem ch_lt {e f g : Nat} (h : e < 4294967296) : ch e f g < 4294967296 := Nat.xor_lt_two_pow (n := 32) (and_lt32 h) (and_lt32 (by omega))
theorem mj_lt {a b c : Nat} (h : a < 4294967296) (h2 : b < 4294967296) : mj a b c < 4294967296 := xor3_lt (and_lt32 h) (and_lt32 h) (and_lt32 h2)
theorem mj_val (a b c : Nat) (ha : a < 4294967296) (hb : b < 4294967296) (hc : c < 4294967296) :
    bits BinOp.xor IntKind.u32 (bits BinOp.xor IntKind.u32 (bits BinOp.and IntKind.u32 (a : Int) (b : Int)) (bits BinOp.and IntKind.u32 (a : Int) (c : Int))) (bits BinOp.and IntKind.u32 (b : Int) (c : Int)) = ((mj a b c : Nat) : Int) := by
  rw [u32_and_nat _ _ ha hb, u32_and_nat _ _ ha hc, u32_and_nat _ _ hb hc, xor3_val _ _ _ (and_lt32 ha) (and_lt32 ha) (and_lt32 hb)]
  rfl
theorem ch_val (e f g : Nat) (he : e < 4294967296) (hf : f < 4294967296) (hg : g < 4294967296) :
    bits BinOp.xor IntKind.u32 (bits BinOp.and IntKind.u32 (e : Int) (f : Int)) (bits BinOp.and IntKind.u32 ((4294967295 - e : Nat) : Int) (g : Int)) = ((ch e f g : Nat) : Int) := by
  rw [u32_and_nat _ _ he hf, u32_and_nat _ _ (by omega) hg, u32_xor_nat _ _ (and_lt32 he) (and_lt32 (by omega))]
  rfl

theorem not_val (e : Nat) (he : e < 4294967296) : bits BinOp.xor IntKind.u32 (if IntKind.u32.signed = true then -1 else IntKind.u32.max) (e : Int) = ((4294967295 - e : Nat) : Int) := by
  rw [show (if IntKind.u32.signed = true then (-1 : Int) else IntKind.u32.max) = ((4294967295 : Nat) : Int) from rfl, u32_xor_nat _ _ (by decide) he]
  congr 1
  refine Nat.eq_of_testBit_eq fun i => ?_
  rw [show 4294967295 - e = 2 ^ 32 - (e + 1) by omega, Nat.testBit_two_pow_sub_succ he, Nat.testBit_xor, show 4294967295 = 2 ^ 32 - 1 by decide, Nat.testBit_two_pow_sub_one]
  by_cases h : i < 32
  · simp [h]
  · have : e.testBit i = false := Nat.testBit_lt_two_pow (Nat.lt_of_lt_of_le he (Nat.pow_le_pow_right (n := 2) (by omega) (by omega : 32 ≤ i)))
    simp [h, this]

/-- The eight words. -/
structure St where
  a : Nat
  b : Nat
  c : Nat
  d : Nat
  e : Nat
  f : Nat
  g : Nat
  h : Nat
def rd (K W : Nat) (s : St) : St :=
  ⟨((s.h + S1 s.e + ch s.e s.f s.g + K + W) % 4294967296 + (S0 s.a + mj s.a s.b s.c) % 4294967296) % 4294967296, s.a, s.b, s.c, (s.d + (s.h + S1 s.e + ch s.e s.f s.g + K + W) % 4294967296) % 4294967296, s.e, s.f, s.g⟩
def rds (K W : List Nat) (s : St) : Nat → St
  | 0 => s
  | i + 1 => rd (K.getD i 0) (W.getD i 0) (rds K W s i)
def St.ok (s : St) : Prop := s.a < 4294967296 ∧ s.b < 4294967296 ∧ s.c < 4294967296 ∧ s.d < 4294967296 ∧ s.e < 4294967296 ∧ s.f < 4294967296 ∧ s.g < 4294967296 ∧ s.h < 4294967296
theorem rds_ok (K W : List Nat) (s : St) (h : s.ok) : ∀ i, (rds K W s i).ok
  | 0 => h
  | i + 1 => by
    obtain ⟨h1, h2, h3, h4, h5, h6, h7, h8⟩ := rds_ok K W s h i
    exact ⟨Nat.mod_lt _ (by decide), h1, h2, h3, Nat.mod_lt _ (by decide), h5, h6, h7⟩
def St.list (s : St) : List Nat := [s.a, s.b, s.c, s.d, s.e, s.f, s.g, s.h]
def St.add (s t : St) : St := ⟨(s.a + t.a) % 4294967296, (s.b + t.b) % 4294967296, (s.c + t.c) % 4294967296, (s.d + t.d) % 4294967296, (s.e + t.e) % 4294967296, (s.f + t.f) % 4294967296, (s.g + t.g) % 4294967296, (s.h + t.h) % 4294967296⟩
/-- A block mixed in. -/
def mixS (K : List Nat) (s : St) (l : List UInt8) : St := s.add (rds K (wOf l 64) s 64)

/-- The first j of eight sums. -/
def addN (A X : List Nat) (j : Nat) : List Nat := (List.range 8).map fun i => if i < j then (A.getD i 0 + X.getD i 0) % 4294967296 else A.getD i 0
theorem addN_len (A X : List Nat) (j : Nat) : (addN A X j).length = 8 := by simp [addN]
theorem addN_at (A X : List Nat) (j i : Nat) (h : i < 8) : ((addN A X j).map U)[i]? = some (U (if i < j then (A.getD i 0 + X.getD i 0) % 4294967296 else A.getD i 0)) := by
  simp [addN, h]
theorem addN_succ (A X : List Nat) (j : Nat) (h : j < 8) : (addN A X (j + 1)).map U = ((addN A X j).map U).set j (U ((A.getD j 0 + X.getD j 0) % 4294967296)) := by
  refine List.ext_getElem? fun i => ?_
  by_cases hi : i < 8
  · rw [addN_at _ _ _ _ hi, List.getElem?_set]
    by_cases e : j = i
    · subst e; rw [if_pos rfl, if_pos (by omega), if_pos (by rw [List.length_map, addN_len]; exact h)]
    · rw [if_neg e, addN_at _ _ _ _ hi]
      by_cases h2 : i < j
      · rw [if_pos h2, if_pos (by omega)]
      · rw [if_neg h2, if_neg (by omega)]
  · rw [List.getElem?_eq_none (by simp [addN_len]; omega), List.getElem?_eq_none (by simp [addN_len]; omega)]
/-- A summer: what it begins with, and what its rounds add. -/
def Sm (w : World) (p : Nat) (H K : List Nat) : Prop := Cells w p 0 ((H ++ K).map U) ∧ H.length = 8 ∧ K.length = 64 ∧ (∀ x ∈ K, x < 4294967296)

set_option maxRecDepth 100000 in
set_option maxHeartbeats 4000000 in
theorem mixC (p : Nat) (H K : List Nat) (s : St) (hs : s.ok) (bo : Option Addr) (cap : Nat) (l : List UInt8) (hl : l.length = 64) (w : World) (sm : Sm w p H K) (sl : Sl w 1 bo 64 cap (l.map B)) (R : Ending → World → Prop) (hR : ∀ w', Grow w w' → R (.returned (.agg ((mixS K s l).list.map U).toArray)) w') :
    Calls Try.prog 80 #[.pointer (some ⟨p, 0, none⟩), .agg (s.list.map U).toArray, .slice bo 64 cap] w R := by
  obtain ⟨a, b, c, d, e, f, g, h⟩ := s
  obtain ⟨h1, h2, h3, h4, h5, h6, h7, h8⟩ := hs
  simp only at h1 h2 h3 h4 h5 h6 h7 h8
  simp only [mixS] at hR
  simp only [St.list, List.map_cons, List.map_nil, U]
  have hwc := wordsC bo cap l hl
  have hWl := wOf_len l 64
  have hWlt := wOf_lt l 64
  obtain ⟨Wl, hWe⟩ : ∃ x, x = wOf l 64 := ⟨_, rfl⟩
  rw [← hWe] at hR hWl hWlt
  simp only [← hWe] at hwc
  clear hWe
  have oh : Own (w.alloc (.cells ([a, b, c, d, e, f, g, h].map U).toArray 77)) 77 1 (some ⟨w.heap.size, 0, none⟩) 8 8 ([a, b, c, d, e, f, g, h].map U) := Own.made (n := 8) (heap_alloc_new w _) rfl (by decide) (by simp [U, Value.oneCell'])
  have oh1 := oh.grow (Grow.alloc _ (.cells (List.replicate 8 (U 0)).toArray 77))
  have oz : Own ((w.alloc (.cells ([a, b, c, d, e, f, g, h].map U).toArray 77)).alloc (.cells (List.replicate 8 (U 0)).toArray 77)) 77 1 (some ⟨w.heap.size + 1, 0, none⟩) 8 8 (List.replicate 8 (U 0)) := by
    have := Own.made (n := 8) (sz := 1) (heap_alloc_new (w.alloc (.cells ([a, b, c, d, e, f, g, h].map U).toArray 77)) (.cells (List.replicate 8 (U 0)).toArray 77)) rfl (by decide) (by simp [U, Value.oneCell'])
    rwa [show (w.alloc (.cells ([a, b, c, d, e, f, g, h].map U).toArray 77)).heap.size = w.heap.size + 1 from Array.size_push _] at this
  have g1 : Grow w ((w.alloc (.cells ([a, b, c, d, e, f, g, h].map U).toArray 77)).alloc (.cells (List.replicate 8 (U 0)).toArray 77)) := (Grow.alloc w _).trans (Grow.alloc _ _)
  have hsz1 : ((w.alloc (.cells ([a, b, c, d, e, f, g, h].map U).toArray 77)).alloc (.cells (List.replicate 8 (U 0)).toArray 77)).heap.size = w.heap.size + 2 := by
    rw [show ∀ (w' : World) (o : Obj), (w'.alloc o).heap.size = w'.heap.size + 1 from fun w' o => Array.size_push _, show ∀ (w' : World) (o : Obj), (w'.alloc o).heap.size = w'.heap.size + 1 from fun w' o => Array.size_push _]
  obtain ⟨q, hq⟩ : ∃ q, q = w.heap.size := ⟨_, rfl⟩
  have hpq : p < w.heap.size := World.block_lt_of_cell? w _ (sm.1 0 (by simp [sm.2.1]; omega))
  clear oh
  go_enter Try.func80, Try.ntmps80
  go_wp2_with fail
  change Calls _ _ _ ((w.alloc (.cells ([a, b, c, d, e, f, g, h].map U).toArray 77)).alloc (.cells (List.replicate 8 (U 0)).toArray 77)) _
  generalize ((w.alloc (.cells ([a, b, c, d, e, f, g, h].map U).toArray 77)).alloc (.cells (List.replicate 8 (U 0)).toArray 77)) = w1 at *
  rw [← hq] at oh1 oz hpq hsz1 ⊢
  have Hq := Lib.hid hq
  clear hq
  refine hwc w1 (sl.grow g1) _ ?_
  intro w2 g2
  have oh2 := oh1.grow g2
  have oz2 := oz.grow g2
  have z2 := g2.size
  have o7 : Own (w2.alloc (.cells (List.replicate 64 (U 0)).toArray 79)) 79 1 (some ⟨w2.heap.size, 0, none⟩) 64 64 (List.replicate 64 (U 0)) := Own.made (n := 64) (heap_alloc_new w2 _) rfl (by decide) (by simp [U, Value.oneCell'])
  have hth : (w2.alloc (.cells (List.replicate 64 (U 0)).toArray 79)).there w2.heap.size 0 (Wl.map U).toArray.size := fun j hj => by
    have hj' : j < 64 := by simpa [hWl] using hj
    obtain ⟨g3, v, eg, hv, hfz, -⟩ := own_put o7 (i := j) (by omega)
    cases eg
    rw [Nat.zero_add]
    exact ⟨by rw [hv]; rfl, hfz⟩
  have hsz : (Try.prog.info? 79).map (·.size) = some (Wl.map U).length := by rw [List.length_map, hWl]; kernel_rfl
  have hall : (Wl.map U).toArray.all (·.oneCell') = true := by
    rw [Array.all_eq_true_iff_forall_mem]
    intro v hv
    obtain ⟨x, -, rfl⟩ := List.mem_map.1 (by simpa using hv)
    rfl
  have crg := World.rangeAt_setCells_same (w2.alloc (.cells (List.replicate 64 (U 0)).toArray 79)) w2.heap.size 0 (Wl.map U) (by simpa using hth)
  have kk : Keep [w2.heap.size] w2 ((w2.alloc (.cells (List.replicate 64 (U 0)).toArray 79)).setCells w2.heap.size 0 (Wl.map U)) := (Keep.alloc _ w2 _).trans (Keep.setCells _ _ _ _)
  have gk : Grow w2 ((w2.alloc (.cells (List.replicate 64 (U 0)).toArray 79)).setCells w2.heap.size 0 (Wl.map U)) := (Grow.refl w2).then kk (fun x hx => by simp at hx; omega)
  go_wp2_with (refine wpList_store_mid rfl 79 _ _ rfl w2.heap.size 0 (Wl.map U).toArray rfl rfl hth (by simpa using hsz) hall ?_)
  change Code.wp _ _ _ _ ((w2.alloc (.cells (List.replicate 64 (U 0)).toArray 79)).setCells w2.heap.size 0 (Wl.map U))
  generalize ((w2.alloc (.cells (List.replicate 64 (U 0)).toArray 79)).setCells w2.heap.size 0 (Wl.map U)) = w3 at *
  obtain ⟨q7, hq7⟩ : ∃ q7, q7 = w2.heap.size := ⟨_, rfl⟩
  rw [← hq7] at crg kk z2 ⊢
  have oh3 := oh2.grow gk
  have oz3 := oz2.grow gk
  have g3 := (g1.trans g2).trans gk
  have sm3 : Cells w3 p 0 ((H ++ K).map U) := sm.1.keep (Keep.of_grow [] g3) (by simp)
  have cU : ∀ j (hj : j < 8), w3.cell? ⟨q, j, none⟩ = some (([a, b, c, d, e, f, g, h].map U)[j]'(by simpa using hj)) := fun j hj => by
    obtain ⟨g', off', eg, hca⟩ := oh3.sl.hat (by omega)
    cases eg
    have := hca j (by simpa using hj)
    rwa [Nat.zero_add] at this
  have e0 := KW.cell (fp := []) (p0 := tt) (cU 0 (by omega)) (by simp)
  have e1 := KW.cell (fp := []) (p0 := tt) (cU 1 (by omega)) (by simp)
  have e2 := KW.cell (fp := []) (p0 := tt) (cU 2 (by omega)) (by simp)
  have e3 := KW.cell (fp := []) (p0 := tt) (cU 3 (by omega)) (by simp)
  have e4 := KW.cell (fp := []) (p0 := tt) (cU 4 (by omega)) (by simp)
  have e5 := KW.cell (fp := []) (p0 := tt) (cU 5 (by omega)) (by simp)
  have e6 := KW.cell (fp := []) (p0 := tt) (cU 6 (by omega)) (by simp)
  have e7 := KW.cell (fp := []) (p0 := tt) (cU 7 (by omega)) (by simp)
  simp only [List.map_cons, List.map_nil, List.getElem_cons_zero, List.getElem_cons_succ, U] at e0 e1 e2 e3 e4 e5 e6 e7
  simp only [Act.put]
  clear hth kk hq7 cU oh1 oh2 oz oz2 o7 gk
  refine wp_region_R (segL w3) (by kernel_rfl) segL_drew ?_
  unfold segL segK segR
  repeat (first | (refine wpV_skp rfl rfl ?_; simp only [List.set_cons_succ, List.set_cons_zero]) | (refine wpV_look rfl rfl rfl rfl rfl (fun K hK => ?_); go_big_quiet_op; refine hK _ ?_; clear hK K))
  refine wpV_nil ?_
  intro w4 hC _
  obtain ⟨⟨w4, hk4, -⟩, rfl⟩ := hC
  have sm4 := sm3.keep hk4 (by simp)
  have crg4 : Cells w4 q7 0 (Wl.map U) := Cells.keep (fun i hi => by have := crg i _ (List.getElem?_eq_getElem hi); exact this) hk4 (by simp)
  have oh4 := oh3.keep hk4 (by simp)
  have oz4 := oz3.keep hk4 (by simp)
  have g4 := g3.trans hk4.grow
  clear e0 e1 e2 e3 e4 e5 e6 e7 sm3 crg oh3 oz3 g3
  go_wp2_with fail
  have hs0 : St.ok ⟨a, b, c, d, e, f, g, h⟩ := ⟨h1, h2, h3, h4, h5, h6, h7, h8⟩
  clear hwc
  go_loopw [8, 9, 10, 11, 12, 13, 14, 15, 41] (fun va vb vc vd ve vf vg vh vk wr => ∃ (k : Nat) (s : St), rds K Wl ⟨a, b, c, d, e, f, g, h⟩ k = s ∧ va = U s.a ∧ vb = U s.b ∧ vc = U s.c ∧ vd = U s.d ∧ ve = U s.e ∧ vf = U s.f ∧ vg = U s.g ∧ vh = U s.h ∧ vk = .int .i64 (k : Int) ∧ k ≤ 64 ∧ s.ok ∧ Grow w4 wr) (fun _ _ _ _ _ _ _ _ vk _ => 64 - (intOf vk).toNat)
  case atStart => exact ⟨0, ⟨a, b, c, d, e, f, g, h⟩, rfl, rfl, rfl, rfl, rfl, rfl, rfl, rfl, rfl, by simp, by omega, hs0, Grow.refl _⟩
  case round =>
    obtain ⟨k, s, hrd, rfl, rfl, rfl, rfl, rfl, rfl, rfl, rfl, rfl, hk, hok, hg⟩ := hrel
    by_cases h64 : k < 64
    · obtain ⟨sa, sb, sc, sd, se, sf, sg, sh⟩ := s
      obtain ⟨i1, i2, i3, i4, i5, i6, i7, i8⟩ := hok
      simp only at i1 i2 i3 i4 i5 i6 i7 i8
      simp only [U]
      have hkl : k < K.length := by rw [sm.2.2.1]; exact h64
      have cK : wr.cell? ⟨p, 8 + k, none⟩ = some (.int .u32 ((K.getD k 0 : Nat) : Int)) := by
        have := hg.cell (sm4.at (i := 8 + k) (v := U (K.getD k 0)) (by rw [List.map_append, List.getElem?_append_right (by simp [sm.2.1])]; simp [sm.2.1, hkl]))
        rwa [Nat.zero_add] at this
      have cW : wr.cell? ⟨q7, k, none⟩ = some (.int .u32 ((Wl.getD k 0 : Nat) : Int)) := by
        have := hg.cell (crg4.at (i := k) (v := U (Wl.getD k 0)) (by simp [hWl, h64]))
        rwa [Nat.zero_add] at this
      have hKk : K.getD k 0 < 4294967296 := by
        rw [List.getD_eq_getElem?_getD, List.getElem?_eq_getElem hkl]; exact sm.2.2.2 _ (List.getElem_mem hkl)
      have hWk : Wl.getD k 0 < 4294967296 := by
        rw [List.getD_eq_getElem?_getD, List.getElem?_eq_getElem (by omega)]; exact hWlt _ (List.getElem_mem (by omega))
      have hnext : rds K Wl ⟨a, b, c, d, e, f, g, h⟩ (k + 1) = rd (K.getD k 0) (Wl.getD k 0) ⟨sa, sb, sc, sd, se, sf, sg, sh⟩ := by rw [rds, hrd]
      obtain ⟨Kk, eK⟩ : ∃ x, x = K.getD k 0 := ⟨_, rfl⟩
      obtain ⟨Wk, eW⟩ : ∃ x, x = Wl.getD k 0 := ⟨_, rfl⟩
      rw [← eK] at cK hKk hnext
      rw [← eW] at cW hWk hnext
      have Hn := Lib.hid hnext
      have eK1 := KW.cell (fp := []) (p0 := tt) cK (by simp)
      have eW1 := KW.cell (fp := []) (p0 := tt) cW (by simp)
      clear eK eW hrd hnext cK cW
      have r1 := rotC se 6 i5 (by decide)
      have r2 := rotC se 11 i5 (by decide)
      have r3 := rotC se 25 i5 (by decide)
      have r4 := rotC sa 2 i1 (by decide)
      have r5 := rotC sa 13 i1 (by decide)
      have r6 := rotC sa 22 i1 (by decide)
      have v1 := xor3_val _ _ _ (rotr_lt se 6 i5) (rotr_lt se 11 i5) (rotr_lt se 25 i5)
      have v0 := xor3_val _ _ _ (rotr_lt sa 2 i1) (rotr_lt sa 13 i1) (rotr_lt sa 22 i1)
      rw [show rotr se 6 ^^^ rotr se 11 ^^^ rotr se 25 = S1 se from rfl] at v1
      rw [show rotr sa 2 ^^^ rotr sa 13 ^^^ rotr sa 22 = S0 sa from rfl] at v0
      have vc := ch_val se sf sg i5 i6 i7
      have vm := mj_val sa sb sc i1 i2 i3
      have t1 := S1_lt i5
      have t0 := S0_lt i1
      have tc := ch_lt (f := sf) (g := sg) i5
      have tm := mj_lt (c := sc) i1 i2
      go_wp2_with fail
      refine r1 _ _ ?_
      go_wp2_with fail
      refine r2 _ _ ?_
      go_wp2_with fail
      refine r3 _ _ ?_
      go_wp2_with fail
      refine wp_region_R (segL wr) (by kernel_rfl) segL_drew ?_
      unfold segL segK segR
      repeat (first | (refine wpV_skp rfl rfl ?_; simp only [List.set_cons_succ, List.set_cons_zero]) | (refine wpV_look rfl rfl rfl rfl rfl (fun K hK => ?_); go_big_quiet_op; refine hK _ ?_; clear hK K))
      refine wpV_nil ?_
      intro w5 hC _
      obtain ⟨⟨w5, hk5, -⟩, rfl⟩ := hC
      have g5 := hg.trans hk5.grow
      obtain ⟨T1, hT1⟩ : ∃ x, x = (sh + S1 se + ch se sf sg + Kk + Wk) % 4294967296 := ⟨_, rfl⟩
      have hT1l : T1 < 4294967296 := by rw [hT1]; exact Nat.mod_lt _ (by decide)
      have ev : ((((sh : Int) + (S1 se : Nat) + (ch se sf sg : Nat) + (Kk : Int)) % 4294967296 + (Wk : Int)) % 4294967296) = ((T1 : Nat) : Int) := by omega
      simp only [not_val se i5, vc, ev]
      have HT1 := Lib.hid hT1
      clear eK1 eW1 vc ev v1 r1 r2 r3 hT1
      go_wp2_with fail
      refine r4 _ _ ?_
      go_wp2_with fail
      refine r5 _ _ ?_
      go_wp2_with fail
      refine r6 _ _ ?_
      go_wp2_with fail
      go_roundw
      case rel =>
        have e := Hn.out
        simp only [rd] at e
        rw [← HT1.out] at e
        exact ⟨k + 1, _, e, by simp, rfl, rfl, rfl, by simp, rfl, rfl, rfl, by go_num, by omega, ⟨Nat.mod_lt _ (by decide), i1, i2, i3, Nat.mod_lt _ (by decide), i5, i6, i7⟩, g5⟩
      case measure => simp [intOf]; omega
    · obtain rfl : k = 64 := by omega
      obtain ⟨sa, sb, sc, sd, se, sf, sg, sh⟩ := s
      obtain ⟨i1, i2, i3, i4, i5, i6, i7, i8⟩ := hok
      simp only at i1 i2 i3 i4 i5 i6 i7 i8
      simp only [U]
      rw [hrd] at hR
      have o9 : Own (wr.alloc (.cells ([sa, sb, sc, sd, se, sf, sg, sh].map U).toArray 76)) 76 1 (some ⟨wr.heap.size, 0, none⟩) 8 8 ([sa, sb, sc, sd, se, sf, sg, sh].map U) := Own.made (n := 8) (heap_alloc_new wr _) rfl (by decide) (by simp [U, Value.oneCell'])
      have oh5 := (oh4.grow hg).grow (Grow.alloc wr (.cells ([sa, sb, sc, sd, se, sf, sg, sh].map U).toArray 76))
      have oz5 := (oz4.grow hg).grow (Grow.alloc wr (.cells ([sa, sb, sc, sd, se, sf, sg, sh].map U).toArray 76))
      have g5 := (g4.trans hg).trans (Grow.alloc wr (.cells ([sa, sb, sc, sd, se, sf, sg, sh].map U).toArray 76))
      have zq := (oh4.grow hg).lt q (by simp [blk])
      obtain ⟨q9, hq9⟩ : ∃ q9, q9 = wr.heap.size := ⟨_, rfl⟩
      go_wp2_with fail
      change Code.wp _ _ _ _ (wr.alloc (.cells ([sa, sb, sc, sd, se, sf, sg, sh].map U).toArray 76))
      generalize (wr.alloc (.cells ([sa, sb, sc, sd, se, sf, sg, sh].map U).toArray 76)) = w6 at *
      rw [← hq9] at o9 zq ⊢
      clear hq9
      obtain ⟨A, hA⟩ : ∃ A, A = [a, b, c, d, e, f, g, h] := ⟨_, rfl⟩
      obtain ⟨X, hX⟩ : ∃ X, X = [sa, sb, sc, sd, se, sf, sg, sh] := ⟨_, rfl⟩
      have hAl : A.length = 8 := by rw [hA]; rfl
      have hXl : X.length = 8 := by rw [hX]; rfl
      have hA0 : addN A X 0 = A := by rw [hA]; rfl
      have hA8 : addN A X 8 = (St.add ⟨a, b, c, d, e, f, g, h⟩ ⟨sa, sb, sc, sd, se, sf, sg, sh⟩).list := by rw [hA, hX]; rfl
      have hAlt : ∀ j, A.getD j 0 < 4294967296 := fun j => by
        rw [hA]
        match j with
        | 0 | 1 | 2 | 3 | 4 | 5 | 6 | 7 => assumption
        | j + 8 => exact (by decide : 0 < 4294967296)
      have hXlt : ∀ j, X.getD j 0 < 4294967296 := fun j => by
        rw [hX]
        match j with
        | 0 | 1 | 2 | 3 | 4 | 5 | 6 | 7 => assumption
        | j + 8 => exact (by decide : 0 < 4294967296)
      rw [← hA] at oh5
      rw [← hX] at o9
      rw [← hA0] at oh5
      rw [← hA8] at hR
      clear hA0 hA8
      have HA := Lib.hid hA
      have HX := Lib.hid hX
      clear hA hX
      go_loopw [119] (fun vk wr => ∃ j : Nat, vk = .int .i64 (j : Int) ∧ j ≤ 8 ∧ Own wr 77 1 (some ⟨q, 0, none⟩) 8 8 ((addN A X j).map U) ∧ Keep [q] w6 wr) (fun vk _ => 8 - (intOf vk).toNat)
      case atStart => exact ⟨0, by simp, by omega, oh5, Keep.refl _ _⟩
      case round =>
        obtain ⟨j, rfl, hj, oj, kj⟩ := hrel
        by_cases hj8 : j < 8
        · obtain ⟨g', off', eg, hcx⟩ := (o9.keep kj (by simp [blk]; omega)).sl.hat (by omega)
          cases eg
          have cx := hcx.at (i := j) (v := U (X.getD j 0)) (by simp [hXl, hj8])
          rw [Nat.zero_add] at cx
          obtain ⟨g3, v, eg, hv, hfz, hs'⟩ := own_put oj (i := j) (by omega)
          cases eg
          obtain ⟨g4', off4, eg, hcj⟩ := oj.sl.hat (by omega)
          cases eg
          have cj := hcj.at (addN_at A X j j hj8)
          rw [Nat.zero_add, if_neg (by omega)] at cj
          have ha := hAlt j
          have hx := hXlt j
          have hnx := addN_succ A X j hj8
          obtain ⟨aj, eaj⟩ : ∃ x, x = A.getD j 0 := ⟨_, rfl⟩
          obtain ⟨xj, exj⟩ : ∃ x, x = X.getD j 0 := ⟨_, rfl⟩
          rw [← eaj] at cj ha hnx
          rw [← exj] at cx hx hnx
          have eU : U ((aj + xj) % 4294967296) = .int .u32 (((aj : Int) + (xj : Int)) % 4294967296) := by simp [U]
          rw [eU] at hnx
          have hs2 := hs' (.int .u32 (((aj : Int) + (xj : Int)) % 4294967296)) rfl
          rw [← hnx] at hs2
          have kj2 := kj.trans (Keep.setCell (fp := [q]) wr ⟨q, j, none⟩ (by simp) (.int .u32 (((aj : Int) + (xj : Int)) % 4294967296)))
          simp only [U] at cx cj
          clear eU
          clear eaj exj hnx hs' hcx hcj hv
          go_wp2_with fail
          go_roundw
          case rel => exact ⟨j + 1, by go_num, by omega, hs2, kj2⟩
          case measure => simp [intOf]; omega
        · obtain rfl : j = 8 := by omega
          have hNl := addN_len A X 8
          obtain ⟨N8, hN8⟩ : ∃ N, N = addN A X 8 := ⟨_, rfl⟩
          rw [← hN8] at oj hR hNl
          clear hN8
          obtain ⟨g4', off4, eg, hcj⟩ := oj.sl.hat (by omega)
          cases eg
          have hrg : wr.rangeAt q 0 (N8.map U) := fun j v hj => hcj.at hj
          have oz6 := oz5.keep kj (by simp [blk])
          have hth8 : wr.there (q + 1) 0 (N8.map U).toArray.size := fun j hj => by
            have hj' : j < 8 := by simpa [hNl] using hj
            obtain ⟨g3, v, eg, hv, hfz, -⟩ := own_put oz6 (i := j) (by omega)
            cases eg
            rw [Nat.zero_add]
            exact ⟨by rw [hv]; rfl, hfz⟩
          have hsz8 : (Try.prog.info? 77).map (·.size) = some (N8.map U).length := by rw [List.length_map, hNl]; kernel_rfl
          have hall8 : (N8.map U).toArray.all (·.oneCell') = true := by
            rw [Array.all_eq_true_iff_forall_mem]
            intro v hv
            obtain ⟨x, -, rfl⟩ := List.mem_map.1 (by simpa using hv)
            rfl
          have hrg2 := World.rangeAt_setCells_same wr (q + 1) 0 (N8.map U) (by simpa using hth8)
          have gg := (g5.then kj (fun x hx => by simp at hx; have := Hq.out; omega)).then (Keep.setCells (q + 1) (N8.map U) 0 wr) (fun x hx => by simp at hx; have := Hq.out; omega)
          go_wp2_with (first | refine wpList_load_mid rfl 77 _ rfl q 0 rfl (N8.map U) _ hrg Try.underlying77 rfl hsz8 ?_ | refine wpList_store_mid rfl 77 _ _ rfl (q + 1) 0 (N8.map U).toArray rfl rfl hth8 (by simpa using hsz8) hall8 ?_)
          exact bodyPost_ret (v := .agg (N8.map U).toArray) (results_mid Try.results80 _ _ (q + 1) _ _ rfl hrg2 Try.underlying77 rfl hsz8) rfl (hR _ gg)
end Go.Proofs.Ytaepfkpfageiaaa
