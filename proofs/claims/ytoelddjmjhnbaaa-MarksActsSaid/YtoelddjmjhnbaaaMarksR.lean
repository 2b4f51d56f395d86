/- The document's marks: Bytes, Any, Free. -/
import Derived.Test.YtoelddjmjhnbaaaMarksRu
namespace Go.Proofs.Ytoelddjmjhnbaaa
open Go Go.RowKit

/-- The first k bits; the others not marked. -/
def pre (b : List Bool) (k : Nat) : List Bool := (List.range b.length).map fun j => decide (j < k) && bt b j
theorem pre_len (b : List Bool) (k : Nat) : (pre b k).length = b.length := by simp [pre]
theorem bt_pre (b : List Bool) (k i : Nat) : bt (pre b k) i = (decide (i < k) && bt b i) := by
  by_cases h : i < b.length
  · have : (pre b k)[i]? = some (decide (i < k) && bt b i) := by simp [pre, h]
    unfold bt at this ⊢
    rw [List.getD_eq_getElem?_getD, this, Option.getD_some]
  · rw [bt_out _ _ (by rw [pre_len]; omega), bt_out b i (by omega)]; simp
theorem pre_all (b : List Bool) : pre b b.length = b := bt_ext (pre_len _ _) fun i hi => by rw [pre_len] at hi; rw [bt_pre]; simp [hi]
theorem pre_skip (b : List Bool) (k : Nat) (h : bt b k = false) : pre b (k + 1) = pre b k := bt_ext (by rw [pre_len, pre_len]) fun i _ => by
  rw [bt_pre, bt_pre]
  by_cases e : i = k
  · subst e; rw [h]; simp
  · rw [show (decide (i < k + 1)) = decide (i < k) by simp only [decide_eq_decide]; omega]
theorem pre_take (b : List Bool) (k : Nat) (h : bt b k = true) (j : Nat) : bt (pre b (k + 1)) j = if j = k then true else bt (pre b k) j := by
  rw [bt_pre, bt_pre]
  by_cases e : j = k
  · subst e; rw [h]; simp
  · rw [if_neg e, show (decide (j < k + 1)) = decide (j < k) by simp only [decide_eq_decide]; omega]
theorem pack_zero (b : List Bool) : (pack (pre b 0)).map B = List.replicate ((b.length + 7) / 8) (.int .u8 0) := by
  refine List.ext_getElem? fun i => ?_
  by_cases h : i < (b.length + 7) / 8
  · rw [pack_at _ _ (by rw [pre_len]; exact h), List.getElem?_replicate, if_pos h]
    have : by8 (bt (pre b 0)) i = 0 := by
      have e : ∀ j, bt (pre b 0) j = false := fun j => by rw [bt_pre]; simp
      unfold by8
      simp [e]
    rw [this]
    rfl
  · rw [List.getElem?_eq_none (by simpa [pack_len, pre_len] using h), List.getElem?_eq_none (by simpa using h)]

set_option maxRecDepth 100000 in
theorem rBytesC (bo : Option Addr) (cap : Nat) (b : List Bool) (w : World) (s : Sl w 1 bo b.length cap (b.map Value.bool)) (h1 : 1 ≤ b.length) (h2 : b.length ≤ 65536) (R : Ending → World → Prop)
    (hR : ∀ h' c' w', Own w' 5 1 (some ⟨h', 0, none⟩) ((b.length + 7) / 8) c' ((pack b).map B) → Grow w w' → w.heap.size ≤ h' → R (.returned (.slice (some ⟨h', 0, none⟩) ((b.length + 7) / 8) c')) w') :
    Calls Try.prog 53 #[.slice bo b.length cap] w R := by
  have hmk := makeB w (((b.length : Int) + 7) / 8) (by omega) (by omega)
  rw [show (((b.length : Int) + 7) / 8).toNat = (b.length + 7) / 8 by omega] at hmk
  have ow : Own (w.alloc (.cells (madeCells #[.int .u8 0] ((b.length + 7) / 8)) 5)) 5 1 (some ⟨w.heap.size, 0, none⟩) ((b.length + 7) / 8) ((b.length + 7) / 8) ((pack (pre b 0)).map B) := by
    have := Own.made (sz := 1) (n := (b.length + 7) / 8) (heap_alloc_new w (.cells (madeCells #[.int .u8 0] ((b.length + 7) / 8)) 5)) (by simp [size_madeCells]) (by unfold maxLen; omega) (by rw [madeB]; intro u hu; rw [List.eq_of_mem_replicate hu]; rfl)
    rw [madeB] at this
    rw [pack_zero]
    exact this
  obtain ⟨g, off, e, hcs⟩ := s.hat (by omega)
  subst e
  have gA := Grow.alloc w (.cells (madeCells #[.int .u8 0] ((b.length + 7) / 8)) 5)
  have hgl : g < w.heap.size := World.block_lt_of_cell? w _ (hcs.at (map_at b 0 (by omega)))
  obtain ⟨L, hL⟩ : ∃ L, L = (b.length + 7) / 8 := ⟨_, rfl⟩
  obtain ⟨q, hq⟩ : ∃ q, q = w.heap.size := ⟨_, rfl⟩
  have HL := Lib.hid hL
  have hq8 : ∀ i, i < b.length → i / 8 < L := fun i hi => by omega
  rw [← hq] at hgl ow hmk
  have Hq := Lib.hid hq
  clear hL hq
  go_enter Try.func53, Try.ntmps53
  go_wp2_with fail
  generalize w.alloc (.cells (madeCells #[.int .u8 0] ((b.length + 7) / 8)) 5) = w2 at *
  rw [← HL.out] at ow ⊢
  clear hmk
  go_loopw [4] (fun a wr => ∃ i : Nat, a = .int .i64 (i : Int) ∧ i ≤ b.length ∧ Own wr 5 1 (some ⟨q, 0, none⟩) L L ((pack (pre b i)).map B) ∧ Keep [q] w2 wr) (fun a _ => b.length - (intOf a).toNat)
  case atStart => exact ⟨0, by simp, by omega, ow, Keep.refl _ _⟩
  case round =>
    obtain ⟨i, rfl, hi, oi, ki⟩ := hrel
    by_cases hil : i < b.length
    · have hcs2 := ((hcs.keep (Keep.of_grow [] gA) (by simp)).keep ki (by simp; omega)).at (map_at b i hil)
      cases hbt : bt b i
      · rw [hbt] at hcs2
        have hps := pre_skip b i hbt
        go_wp2_with fail
        go_roundw
        case rel => exact ⟨i + 1, by go_num, by omega, by rw [hps]; exact oi, ki⟩
        case measure => simp [intOf]; omega
      · rw [hbt] at hcs2
        have hpl := pre_len b i
        have hiL := hq8 i hil
        have hput := pack_put (pre b i) (pre b (i + 1)) i (by omega) (by rw [pre_len, pre_len]) (pre_take b i hbt)
        have c2 := oi.sl.hat (by omega)
        obtain ⟨g', off', e, hcq⟩ := c2
        cases e
        have c2 := hcq.at (pack_at (pre b i) (i / 8) (by omega))
        rw [Nat.zero_add] at c2
        have hx8 := by8_lt (bt (pre b i)) (i / 8)
        have e2 := KW.cell (fp := []) (p0 := tt) c2 (by simp)
        clear hcq
        go_wp2_with fail
        refine wp_region_R (segL wr) (by kernel_rfl) segL_drew ?_
        unfold segL segK segR
        repeat (first | (refine wpV_skp rfl rfl ?_; simp only [List.set_cons_succ, List.set_cons_zero]) | (refine wpV_look rfl rfl rfl rfl rfl (fun K hK => ?_); go_big_quiet_op; refine hK _ ?_; clear hK K))
        refine wpV_end0 rfl rfl (by kernel_rfl) (fun w4 hC hF => ?_)
        obtain ⟨⟨w4, hk4, -⟩, rfl⟩ := hC
        clear hF e2 c2 hcs2
        have o4 := oi.keep hk4 (by simp)
        obtain ⟨g3, v, eg, hv, hfz, hs⟩ := own_put o4 (i := i / 8) (by omega)
        cases eg
        have hs2 := hs (.int .u8 ((by8 (bt (pre b i)) (i / 8) ||| 2 ^ (i % 8) : Nat) : Int)) rfl
        rw [← hput] at hs2
        unfold yields
        go_simp
        rw [or_val _ _ hx8 (by omega)]
        simp only [yUpon]
        have hk2 := (ki.trans (Keep.of_nil hk4)).trans (Keep.setCell (fp := [q]) w4 ⟨q, i / 8, none⟩ (by simp) (.int .u8 ((by8 (bt (pre b i)) (i / 8) ||| 2 ^ (i % 8) : Nat) : Int)))
        clear hv hfz o4 oi hput hs
        go_wp2_with fail
        go_roundw
        case rel => exact ⟨i + 1, by go_num, by omega, hs2, hk2⟩
        case measure => simp [intOf]; omega
    · obtain rfl : i = b.length := by omega
      rw [pre_all] at oi
      have hg := gA.then ki (fun g hg => by simp at hg; have := Hq.out; omega)
      go_wp2_with fail
      have hRR := hR q L wr (by rw [← HL.out]; exact oi) hg (by have := Hq.out; omega)
      rw [← HL.out] at hRR
      exact hRR

set_option maxRecDepth 100000 in
theorem rAnyC (bo : Option Addr) (cap : Nat) (b : List Bool) (first count : Int) (w : World) (s : Sl w 1 bo b.length cap (b.map Value.bool)) (hn : b.length ≤ 65536) (hf : (Lit.int .i64 first).wf = true) (hc : (Lit.int .i64 count).wf = true) (R : Ending → World → Prop)
    (hR : ∀ w', Grow w w' → R (.returned (.bool (anyS b first count))) w') :
    Calls Try.prog 54 #[.slice bo b.length cap, .int .i64 first, .int .i64 count] w R := by
  have hfb := wf_bounds hf
  have hcb := wf_bounds hc
  go_enter Try.func54, Try.ntmps54
  go_wp2_with fail
  go_loopw [7] (fun a wr => ∃ k : Nat, a = .int .i64 (k : Int) ∧ k ≤ b.length ∧ Grow w wr ∧ ∀ i, i < k → hit b first count i = false) (fun a _ => b.length - (intOf a).toNat)
  case atStart => exact ⟨0, by simp, by omega, Grow.refl w, fun i hi => by omega⟩
  case round =>
    obtain ⟨k, rfl, hk, hg, hno⟩ := hrel
    by_cases hlt : k < b.length
    · obtain ⟨g, off, e, hcs⟩ := (s.grow hg).hat (by omega)
      subst e
      have c1 := hcs.at (map_at b k hlt)
      clear hcs
      cases hh : hit b first count k
      · have hno2 : ∀ i, i < k + 1 → hit b first count i = false := fun i hi => by
          by_cases e : i = k
          · subst e; exact hh
          · exact hno i (by omega)
        clear hno
        cases hb : bt b k
        · rw [hb] at c1
          clear hh
          go_wp2_with fail
          go_roundw
          case rel => exact ⟨k + 1, by go_num, by omega, hg, hno2⟩
          case measure => simp [intOf]; omega
        · rw [hb] at c1
          have hh2 : ¬ (first ≤ (k : Int) ∧ (k : Int) - first < count) := fun ⟨h1, h2⟩ => by simp [hit, hb, h1, h2] at hh
          clear hh
          by_cases hf0 : first < 0
          · by_cases hc0 : 0 < count
            · have hd : decide ((k : Int) < first + count) = false := by simp; omega
              have hd2 : ¬ ((k : Int) < first + count) := by omega
              clear hh2
              go_wp2_with fail
              go_roundw
              case rel => exact ⟨k + 1, by go_num, by omega, hg, hno2⟩
              case measure => simp [intOf]; omega
            · have hd : decide (0 < count) = false := by simp; omega
              clear hh2
              go_wp2_with fail
              go_roundw
              case rel => exact ⟨k + 1, by go_num, by omega, hg, hno2⟩
              case measure => simp [intOf]; omega
          · have hd0 : decide (first < 0) = false := by simp; omega
            by_cases hfk : first ≤ k
            · have hd : decide ((k : Int) - first < count) = false := by simp; omega
              have hd2 : ¬ ((k : Int) - first < count) := by omega
              clear hh2
              go_wp2_with fail
              go_roundw
              case rel => exact ⟨k + 1, by go_num, by omega, hg, hno2⟩
              case measure => simp [intOf]; omega
            · have hd : decide (first ≤ (k : Int)) = false := by simp; omega
              clear hh2
              go_wp2_with fail
              go_roundw
              case rel => exact ⟨k + 1, by go_num, by omega, hg, hno2⟩
              case measure => simp [intOf]; omega
      · have hany : anyS b first count = true := by
          unfold anyS
          rw [List.any_eq_true]
          exact ⟨k, List.mem_range.2 hlt, hh⟩
        simp only [hit, Bool.and_eq_true, decide_eq_true_eq] at hh
        obtain ⟨hb, hfk, hd⟩ := hh
        rw [hb] at c1
        clear hno
        rw [hany] at hR
        by_cases hf0 : first < 0
        · have hc0 : 0 < count := by omega
          have hd2 : (k : Int) < first + count := by omega
          go_wp2
          all_goals exact hg
        · have hd2 : (k : Int) - first < count := hd
          go_wp2
          all_goals exact hg
    · obtain rfl : k = b.length := by omega
      have hany : anyS b first count = false := by
        unfold anyS
        rw [List.any_eq_false]
        intro i hi
        rw [hno i (List.mem_range.1 hi)]
        simp
      rw [hany] at hR
      clear hno
      go_wp2
      exact hg

set_option maxRecDepth 100000 in
theorem rFreeC (bo : Option Addr) (cap : Nat) (b : List Bool) (count : Int) (w : World) (s : Sl w 1 bo b.length cap (b.map Value.bool)) (hn : b.length ≤ 65536) (hc : (Lit.int .i64 count).wf = true) (R : Ending → World → Prop)
    (hR : ∀ w', Grow w w' → R (.returned (freeV (freeS b count))) w') :
    Calls Try.prog 55 #[.slice bo b.length cap, .int .i64 count] w R := by
  by_cases h1 : count < 1
  · rw [show freeS b count = none by unfold freeS; rw [if_pos (.inl h1)]] at hR
    simp only [freeV] at hR
    go_enter Try.func55, Try.ntmps55
    go_wp2
    exact Grow.refl w
  by_cases h2 : (b.length : Int) < count
  · rw [show freeS b count = none by unfold freeS; rw [if_pos (.inr h2)]] at hR
    simp only [freeV] at hR
    go_enter Try.func55, Try.ntmps55
    go_wp2
    exact Grow.refl w
  obtain ⟨C, rfl⟩ : ∃ C : Nat, count = C := ⟨count.toNat, by omega⟩
  have hS : freeS b C = lastFree b C (b.length - C + 1) := by unfold freeS; rw [if_neg (by omega), Int.toNat_natCast]
  have hC1 : 1 ≤ C := by omega
  have hCn : C ≤ b.length := by omega
  rw [hS] at hR
  clear hS
  have hf1 : decide ((C : Int) < 1) = false := by simp; omega
  have hf2 : decide ((b.length : Int) < (C : Int)) = false := by simp; omega
  have hf3 : decide (b.length < C) = false := by simp; omega
  go_enter Try.func55, Try.ntmps55
  go_wp2_with fail
  go_loopw [6] (fun a wr => ∃ k : Nat, a = .int .i64 ((k : Int) - 1) ∧ k ≤ b.length - C + 1 ∧ Grow w wr ∧ ∀ f, k ≤ f → f + C ≤ b.length → freeAt b f C = false) (fun a _ => (intOf a + 1).toNat)
  case atStart => exact ⟨b.length - C + 1, by congr 1; omega, by omega, Grow.refl w, fun f h1 h2 => by omega⟩
  case round =>
    obtain ⟨k, rfl, hk, hg, hno⟩ := hrel
    cases k with
    | zero =>
      have hnone : lastFree b C (b.length - C + 1) = none := lastFree_none fun f hf => hno f (by omega) (by omega)
      rw [hnone] at hR
      simp only [freeV] at hR
      clear hno
      go_wp2
      exact hg
    | succ k =>
      rw [show ((k + 1 : Nat) : Int) - 1 = (k : Int) by omega]
      have hac := any_free b k C (by omega)
      have hrc := rAnyC bo cap b k C wr (s.grow hg) hn (WalkArith.wf_i64 (by omega)) hc
      rw [hac] at hrc
      clear hac
      cases hfr : freeAt b k C
      · have hno2 : ∀ f, k ≤ f → f + C ≤ b.length → freeAt b f C = false := fun f h1 h2 => by
          by_cases e : f = k
          · subst e; exact hfr
          · exact hno f (by omega) h2
        rw [hfr] at hrc
        clear hno
        go_wp2_with fail
        refine hrc _ ?_
        intro w2 g2
        go_wp2_with fail
        go_roundw
        case rel => exact ⟨k, by go_num, by omega, hg.trans g2, hno2⟩
        case measure => simp [intOf] <;> omega
      · have hsome : lastFree b C (b.length - C + 1) = some k := lastFree_some hfr (by omega) fun g h1 h2 => hno g (by omega) (by omega)
        rw [hsome] at hR
        simp only [freeV] at hR
        rw [hfr] at hrc
        clear hno hsome
        go_wp2_with fail
        refine hrc _ ?_
        intro w2 g2
        go_wp2
        exact hg.trans g2
end Go.Proofs.Ytoelddjmjhnbaaa
