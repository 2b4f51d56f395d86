/- The document's products of words. · The document's cube roots. · The document's cube roots: they are the program's. · What the operations of a region leave, as a table: a property of each one's value that later operations do not undo. -/
import Derived.Test.YtfmnkcmicbnfdaaGSha2
import Derived.Test.YtfmnkcmicbnfdaaGSha3
import Derived.Deep.DeepCutAuto
import Derived.Test.YtfmnkcmicbnfdaaGSha1
import Derived.Test.YtfmnkcmicbnfdaaGNew
import Derived.Deep.CutBlock
import Derived.Deep.OwnRows

namespace Go.Proofs.Ytfmnkcmicbnfdaa
open Go Go.RowKit

theorem TW : ST Try.prog 191 140 1 4 := ST.mk' (z := .int .u32 0) Try.underlying191 (by kernel_rfl) rfl (by decide)
theorem makeW (w : World) (l : Int) (h0 : 0 ≤ l) (h1 : l ≤ 1000000) : (Instr.makeSlice 191 (.int .i64 l) (.int .i64 l)).run Try.prog w = .ok (.slice (some ⟨w.heap.size, 0, none⟩) l.toNat l.toNat) (w.alloc (.cells (madeCells #[.int .u32 0] l.toNat) 140)) := by
  obtain ⟨i, z, hi, hz, hs, hb, hc, -⟩ := TW.info
  obtain rfl : z = .int .u32 0 := by
    have : (Try.prog.info? 140).map (·.zero) = some (some (.int .u32 0)) := by kernel_rfl
    rw [hi] at this
    simp [hz] at this
    exact this
  have := run_make (P := Try.prog) w 191 140 i _ TW.und hi hz .i64 .i64 l l h0 (Int.le_refl _) (by rw [hb]; omega) (by omega)
  rw [hs, Nat.mul_one] at this
  exact this
theorem madeV (v : Value) (n : Nat) : (madeCells #[v] n).toList = List.replicate n v := by
  refine List.ext_getElem (by simp [madeCells]) fun i h1 h2 => ?_
  simp [madeCells, Nat.mod_one]

/-- One word times many, added to what there is; what is carried. -/
def inI (x : Nat) (b c : List Nat) (i : Nat) : Nat → List Nat × Nat
  | 0 => (c, 0)
  | k + 1 => ((inI x b c i k).1.set (i + k) ((x * b.getD k 0 + (inI x b c i k).1.getD (i + k) 0 + (inI x b c i k).2) % 4294967296), (x * b.getD k 0 + (inI x b c i k).1.getD (i + k) 0 + (inI x b c i k).2) / 4294967296)
def outI (a b : List Nat) : Nat → List Nat
  | 0 => List.replicate (a.length + b.length) 0
  | i + 1 => (inI (a.getD i 0) b (outI a b i) i b.length).1.set (i + b.length) ((inI (a.getD i 0) b (outI a b i) i b.length).2 % 4294967296)
def tmsF (a b : List Nat) : List Nat := outI a b a.length
def W32 (l : List Nat) : Prop := ∀ x ∈ l, x < 4294967296
theorem W32.getD {l : List Nat} (h : W32 l) (i : Nat) : l.getD i 0 < 4294967296 := by
  rw [List.getD_eq_getElem?_getD]
  by_cases hi : i < l.length
  · rw [List.getElem?_eq_getElem hi]; exact h _ (List.getElem_mem hi)
  · rw [List.getElem?_eq_none (by omega)]; exact (by decide : 0 < 4294967296)
theorem W32.set {l : List Nat} (h : W32 l) (i x : Nat) (hx : x < 4294967296) : W32 (l.set i x) := fun y hy => by
  rcases List.mem_or_eq_of_mem_set hy with h' | h'
  · exact h y h'
  · exact h' ▸ hx
theorem prod_le (x y : Nat) (hx : x < 4294967296) (hy : y < 4294967296) : x * y ≤ 18446744065119617025 := Nat.mul_le_mul (show x ≤ 4294967295 by omega) (show y ≤ 4294967295 by omega)
theorem inI_ok (x : Nat) (b c : List Nat) (i : Nat) (hx : x < 4294967296) (hb : W32 b) (hc : W32 c) : ∀ k, W32 (inI x b c i k).1 ∧ (inI x b c i k).2 < 4294967296 ∧ (inI x b c i k).1.length = c.length
  | 0 => ⟨hc, by simp [inI], rfl⟩
  | k + 1 => by
    obtain ⟨h1, h2, h3⟩ := inI_ok x b c i hx hb hc k
    have hp := prod_le x (b.getD k 0) hx (hb.getD k)
    have hg := h1.getD (i + k)
    rw [inI]
    exact ⟨h1.set _ _ (Nat.mod_lt _ (by decide)), by simp only; omega, by simp only [List.length_set]; exact h3⟩
theorem outI_ok (a b : List Nat) (ha : W32 a) (hb : W32 b) : ∀ i, W32 (outI a b i) ∧ (outI a b i).length = a.length + b.length
  | 0 => ⟨fun x h => by rw [List.eq_of_mem_replicate h]; decide, by simp [outI]⟩
  | i + 1 => by
    obtain ⟨h1, h2⟩ := outI_ok a b ha hb i
    obtain ⟨h3, -, h5⟩ := inI_ok (a.getD i 0) b (outI a b i) i (ha.getD i) hb h1 b.length
    rw [outI]
    exact ⟨h3.set _ _ (Nat.mod_lt _ (by decide)), by rw [List.length_set, h5, h2]⟩

theorem U_at {w : World} {g off : Nat} {L : List Nat} (h : Cells w g off (L.map U)) {i : Nat} (hi : i < L.length) : w.cell? ⟨g, off + i, none⟩ = some (.int .u32 ((L.getD i 0 : Nat) : Int)) :=
  h.at (by simp [hi, U])
/-- A word stored. -/
theorem put_word {w : World} {e : TypeId} {g n : Nat} {L : List Nat} (o : Own w e 1 (some ⟨g, 0, none⟩) n n (L.map U)) {i : Nat} (hi : i < n) (x : Nat) :
    Own (w.setCell ⟨g, i, none⟩ (.int .u32 (x : Int))) e 1 (some ⟨g, 0, none⟩) n n ((L.set i x).map U) ∧ w.cell? ⟨g, i, none⟩ = some (.int .u32 ((L.getD i 0 : Nat) : Int)) ∧ w.frozen? ⟨g, i, none⟩ = false := by
  obtain ⟨g', u, e', hv, hf, hs⟩ := own_put o (i := i) (by omega)
  cases e'
  have hl : L.length = n := by have := o.row.1; simpa using this
  obtain ⟨g', off', eg, hcs⟩ := o.sl.hat (by omega)
  cases eg
  have := U_at hcs (i := i) (by omega)
  rw [Nat.zero_add] at this
  exact ⟨by rw [List.map_set]; exact hs (U x) rfl, this, hf⟩

set_option maxRecDepth 100000 in
set_option maxHeartbeats 4000000 in
theorem timesC (ao bo : Option Addr) (ca cb : Nat) (A Bl : List Nat) (ha : W32 A) (hb : W32 Bl) (hla : A.length ≤ 10) (hlb : Bl.length ≤ 10) (w : World) (sa : Sl w 1 ao A.length ca (A.map U)) (sb : Sl w 1 bo Bl.length cb (Bl.map U)) (hlt : ∀ g ∈ blk ao, g < w.heap.size) (hlt2 : ∀ g ∈ blk bo, g < w.heap.size)
    (R : Ending → World → Prop) (hR : ∀ g w', Own w' 140 1 (some ⟨g, 0, none⟩) (A.length + Bl.length) (A.length + Bl.length) ((tmsF A Bl).map U) → Grow w w' → w.heap.size ≤ g → R (.returned (.slice (some ⟨g, 0, none⟩) (A.length + Bl.length) (A.length + Bl.length))) w') :
    Calls Try.prog 116 #[.slice ao A.length ca, .slice bo Bl.length cb] w R := by
  have hout := outI_ok A Bl ha hb
  have hmk := makeW w ((A.length : Int) + (Bl.length : Int)) (by omega) (by omega)
  rw [show ((A.length : Int) + (Bl.length : Int)).toNat = A.length + Bl.length by omega] at hmk
  obtain ⟨n, hn⟩ : ∃ n, n = A.length + Bl.length := ⟨_, rfl⟩
  rw [← hn] at hmk
  have oC : Own (w.alloc (.cells (madeCells #[.int .u32 0] n) 140)) 140 1 (some ⟨w.heap.size, 0, none⟩) n n ((outI A Bl 0).map U) := by
    have := Own.made (sz := 1) (n := n) (heap_alloc_new w (.cells (madeCells #[.int .u32 0] n) 140)) (by simp [size_madeCells]) (by unfold maxLen; omega) (by rw [madeV]; intro u hu; rw [List.eq_of_mem_replicate hu]; rfl)
    rw [madeV] at this
    rw [outI, List.map_replicate, ← hn]
    exact this
  have g1 := Grow.alloc w (.cells (madeCells #[.int .u32 0] n) 140)
  obtain ⟨q, hq⟩ : ∃ q, q = w.heap.size := ⟨_, rfl⟩
  simp only [← hn] at hR
  have Hn := Lib.hid hn
  clear hn
  go_enter Try.func116, Try.ntmps116
  go_wp2_with fail
  generalize w.alloc (.cells (madeCells #[.int .u32 0] n) 140) = w1 at *
  rw [← hq] at oC ⊢
  have Hq := Lib.hid hq
  simp only [← hq] at hR hlt hlt2
  clear hq hmk
  go_loopw [6] (fun vi wr => ∃ i : Nat, vi = .int .i64 (i : Int) ∧ i ≤ A.length ∧ Own wr 140 1 (some ⟨q, 0, none⟩) n n ((outI A Bl i).map U) ∧ Keep [q] w1 wr) (fun vi _ => A.length - (intOf vi).toNat)
  case atStart => exact ⟨0, by simp, by omega, oC, Keep.refl _ _⟩
  case round =>
    obtain ⟨i, rfl, hi, oi, ki⟩ := hrel
    by_cases hil : i < A.length
    · obtain ⟨hw1, hw2⟩ := hout i
      have hx := ha.getD i
      have hin := inI_ok (A.getD i 0) Bl (outI A Bl i) i hx hb hw1
      have hnext : outI A Bl (i + 1) = (inI (A.getD i 0) Bl (outI A Bl i) i Bl.length).1.set (i + Bl.length) ((inI (A.getD i 0) Bl (outI A Bl i) i Bl.length).2 % 4294967296) := rfl
      have Hnext := Lib.hid hnext
      have o0 : Own wr 140 1 (some ⟨q, 0, none⟩) n n ((inI (A.getD i 0) Bl (outI A Bl i) i 0).1.map U) := oi
      clear hnext hw1 hw2 oi hout
      go_wp2_with fail
      go_loopw [7, 8] (fun vc vk wr => ∃ (k : Nat) (s : List Nat × Nat), vk = .int .i64 (k : Int) ∧ k ≤ Bl.length ∧ vc = .int .u64 (s.2 : Int) ∧ Hid (s = inI (A.getD i 0) Bl (outI A Bl i) i k) ∧ Own wr 140 1 (some ⟨q, 0, none⟩) n n (s.1.map U) ∧ Keep [q] w1 wr) (fun _ vk _ => Bl.length - (intOf vk).toNat)
      case atStart => exact ⟨0, _, by simp, by omega, by simp [inI], Lib.hid rfl, o0, ki⟩
      case round =>
        clear o0 ki
        obtain ⟨k, s, rfl, hk, rfl, hs, ok, kk⟩ := hrel
        obtain ⟨i1, i2, i3⟩ := hin k
        rw [← hs.out] at i1 i2 i3
        obtain ⟨S, cy⟩ := s
        simp only at i1 i2 i3 ok
        by_cases hkl : k < Bl.length
        · obtain ⟨ga, oa, eg, hca⟩ := ((sa.grow g1).keep kk (fun g hg => by have := hlt g hg; simp; omega)).hat (by omega)
          subst eg
          obtain ⟨gb, ob, eg, hcb⟩ := ((sb.grow g1).keep kk (fun g hg => by have := hlt2 g hg; simp; omega)).hat (by omega)
          subst eg
          have c1 := U_at hca hil
          have c2 := U_at hcb hkl
          have hin2 : i + k < n := by have := Hn.out; omega
          have hy := hb.getD k
          have hz := i1.getD (i + k)
          have hxy := prod_le (A.getD i 0) (Bl.getD k 0) hx hy
          obtain ⟨-, c3, f3⟩ := put_word ok hin2 0
          have hput := fun x => (put_word ok hin2 x).1
          have hst : Hid ((S.set (i + k) ((A.getD i 0 * Bl.getD k 0 + S.getD (i + k) 0 + cy) % 4294967296), (A.getD i 0 * Bl.getD k 0 + S.getD (i + k) 0 + cy) / 4294967296) = inI (A.getD i 0) Bl (outI A Bl i) i (k + 1)) := Lib.hid (by rw [inI, ← hs.out])
          obtain ⟨y, ey⟩ : ∃ y, y = Bl.getD k 0 := ⟨_, rfl⟩
          obtain ⟨x, ex⟩ : ∃ x, x = A.getD i 0 := ⟨_, rfl⟩
          obtain ⟨z, ez⟩ : ∃ z, z = S.getD (i + k) 0 := ⟨_, rfl⟩
          obtain ⟨xy, exy⟩ : ∃ xy, xy = x * y := ⟨_, rfl⟩
          simp only [← ex] at c1 hx hxy hst hin hs Hnext ⊢
          simp only [← ey] at c2 hy hxy hst
          simp only [← ez] at c3 hz hst
          rw [← exy] at hxy hst
          have e1 : (x : Int) * (y : Int) = (xy : Int) := by rw [exy]; simp
          obtain ⟨t, ht⟩ : ∃ t, t = xy + z + cy := ⟨_, rfl⟩
          rw [← ht] at hst
          have htl : t < 18446744073709551616 := by omega
          have e2 : ((xy : Int) + (z : Int) + (cy : Int)) = (t : Int) := by omega
          have k1 := KW.cell (fp := []) (p0 := tt) c1 (by simp)
          have k2 := KW.cell (fp := []) (p0 := tt) c2 (by simp)
          have k3 := KW.cell (fp := []) (p0 := tt) c3 (by simp)
          have Hs := Lib.hid hs
          have Hput := Lib.hid hput
          clear hs hput c1 c2 c3 hca hcb ey ex ez exy hin ht
          go_upto_region 9 with (fail)
          refine wp_region_R (segL wr) (by kernel_rfl) segL_drew ?_
          unfold segL segK segR
          repeat (first | (refine wpV_skp rfl rfl ?_; simp only [List.set_cons_succ, List.set_cons_zero]) | (refine wpV_look rfl rfl rfl rfl rfl (fun K hK => ?_); go_big_quiet_op; refine hK _ ?_; clear hK K))
          refine wpV_nil ?_
          intro w4 hC _
          obtain ⟨⟨w4, hk4, -⟩, rfl⟩ := hC
          have ok4 := ok.keep hk4 (by simp)
          have kk4 := kk.trans (Keep.of_nil hk4)
          obtain ⟨-, c3, f3⟩ := put_word ok4 hin2 0
          have hput := (put_word ok4 hin2 (t % 4294967296)).1
          have kp := kk4.trans (Keep.setCell (fp := [q]) w4 ⟨q, i + k, none⟩ (by simp) (.int .u32 ((t % 4294967296 : Nat) : Int)))
          have et : ((t % 4294967296 : Nat) : Int) = (t : Int) % 4294967296 := by simp
          have ed : ((t / 4294967296 : Nat) : Int) = (t : Int) / 4294967296 := by simp
          rw [et] at hput kp
          have Hed := Lib.hid ed
          clear k1 k2 k3 ok4 kk4 et ed
          go_wp2_with fail
          go_roundw
          case rel => exact ⟨k + 1, _, by go_num, by omega, by rw [Hed.out], hst, hput, kp⟩
          case measure => simp [intOf]; omega
        · obtain rfl : k = Bl.length := by omega
          have hj : i + Bl.length < n := by have := Hn.out; omega
          obtain ⟨-, c3, f3⟩ := put_word ok hj 0
          have hput := (put_word ok hj (cy % 4294967296)).1
          have kp := kk.trans (Keep.setCell (fp := [q]) wr ⟨q, i + Bl.length, none⟩ (by simp) (.int .u32 ((cy % 4294967296 : Nat) : Int)))
          rw [show S.set (i + Bl.length) (cy % 4294967296) = outI A Bl (i + 1) by rw [Hnext.out, ← hs.out]] at hput
          have et : ((cy % 4294967296 : Nat) : Int) = (cy : Int) := by omega
          rw [et] at hput kp
          clear et hin hs
          go_wp2_with fail
          go_roundw
          case rel => exact ⟨i + 1, by go_num, by omega, hput, kp⟩
          case measure => simp [intOf]; omega
    · obtain rfl : i = A.length := by omega
      have gg := g1.then ki (fun x hx => by simp at hx; have := Hq.out; omega)
      have hf := hR q wr oi gg (Nat.le_refl _)
      clear hR hout
      go_wp2_with fail
      exact hf
end Go.Proofs.Ytfmnkcmicbnfdaa

namespace Go.Proofs.Ytfmnkcmicbnfdaa
open Go Go.RowKit

/-- Is what the words tell more than p * 2^96? -/
def abvF (C : List Nat) (p : Nat) : Nat → Bool
  | 0 => false
  | i + 1 => if C.getD i 0 = (if i = 3 then p else 0) then abvF C p i else decide ((if i = 3 then p else 0) < C.getD i 0)
def wds (y : Nat) : List Nat := [y % 4294967296, y / 4294967296]
def cubW (y : Nat) : List Nat := tmsF (tmsF (wds y) (wds y)) (wds y)
theorem wds_W (y : Nat) (h : y < 137438953472) : W32 (wds y) := fun x hx => by
  simp only [wds, List.mem_cons, List.not_mem_nil, or_false] at hx
  rcases hx with rfl | rfl <;> omega

theorem sz_al (w : World) (o : Obj) : (w.alloc o).heap.size = w.heap.size + 1 := Array.size_push _
set_option maxRecDepth 100000 in
set_option maxHeartbeats 2000000 in
theorem aboveC (y p : Nat) (hy : y < 137438953472) (hp : p < 512) (w : World) (R : Ending → World → Prop) (hR : ∀ w', Grow w w' → R (.returned (.bool (abvF (cubW y) p 6))) w') :
    Calls Try.prog 110 #[.int .u64 (y : Int), .int .u64 (p : Int)] w R := by
  have hW := wds_W y hy
  have hWe : wds y = [y % 4294967296, y / 4294967296] := rfl
  have hW2 := (outI_ok (wds y) (wds y) hW hW 2)
  have hW3 := outI_ok (tmsF (wds y) (wds y)) (wds y) hW2.1 hW 4
  have e4 : (tmsF (wds y) (wds y)).length = 4 := hW2.2
  have e6 : (cubW y).length = 6 := by
    have := hW3.2
    rw [e4] at this
    have h2 : cubW y = outI (tmsF (wds y) (wds y)) (wds y) 4 := by unfold cubW; rw [tmsF, e4]
    rw [h2, this]; rfl
  have hC32 : W32 (cubW y) := by
    have h2 : cubW y = outI (tmsF (wds y) (wds y)) (wds y) 4 := by unfold cubW; rw [tmsF, e4]
    rw [h2]; exact hW3.1
  have hM32 : W32 (tmsF (wds y) (wds y)) := hW2.1
  have hmod : IntKind.u32.wrap (y : Int) = ((y % 4294967296 : Nat) : Int) := by simp [IntKind.wrap, IntKind.bits, IntKind.signed]
  have t1 := fun ao bo w' sa sb h1 h2 R h => timesC ao bo 2 2 (wds y) (wds y) hW hW (by simp [wds]) (by simp [wds]) w' sa sb h1 h2 R h
  have t2 := fun ao bo ca w' sa sb h1 h2 R h => timesC ao bo ca 2 (tmsF (wds y) (wds y)) (wds y) hM32 hW (by omega) (by simp [wds]) w' sa sb h1 h2 R h
  rw [e4] at t2
  have h3 : tmsF (tmsF (wds y) (wds y)) (wds y) = cubW y := rfl
  simp only [h3, show (wds y).length = 2 from rfl, Nat.reduceAdd] at t1 t2
  have own2 : ∀ w' : World, Own (w'.alloc (.cells #[.int .u32 ((y % 4294967296 : Nat) : Int), .int .u32 ((y / 4294967296 : Nat) : Int)] 140)) 140 1 (some ⟨w'.heap.size, 0, none⟩) 2 2 ((wds y).map U) := fun w' => by
    have := Own.made (n := 2) (sz := 1) (heap_alloc_new w' (.cells #[.int .u32 ((y % 4294967296 : Nat) : Int), .int .u32 ((y / 4294967296 : Nat) : Int)] 140)) rfl (by decide) (by simp [Value.oneCell'])
    rw [hWe]
    exact this
  obtain ⟨C, hC⟩ : ∃ C, C = cubW y := ⟨_, rfl⟩
  obtain ⟨W, hWn⟩ : ∃ W, W = wds y := ⟨_, rfl⟩
  simp only [← hC, ← hWn] at t1 t2 hR e6 hC32 own2
  clear hC hWn hW2 hW3 e4 hM32 hWe h3 hW
  obtain ⟨y0, hy0⟩ : ∃ y0, y0 = y % 4294967296 := ⟨_, rfl⟩
  obtain ⟨y1, hy1⟩ : ∃ y1, y1 = y / 4294967296 := ⟨_, rfl⟩
  have ey0 : (y : Int) % 4294967296 = (y0 : Int) := by omega
  have ey1 : (y : Int) / 4294967296 = (y1 : Int) := by omega
  have hy0l : y0 < 4294967296 := by omega
  have hy1l : y1 < 4294967296 := by omega
  rw [← hy0] at hmod
  simp only [← hy0, ← hy1] at own2
  obtain ⟨V, hV⟩ : ∃ V, V = abvF C p 6 := ⟨_, rfl⟩
  simp only [← hV] at hR
  have HV := Lib.hid hV
  clear hy0 hy1 hV
  go_enter Try.func110, Try.ntmps110
  go_wp2_with fail
  have o1 := (own2 w).grow (Grow.alloc _ (.cells #[.int .u32 (y0 : Int), .int .u32 (y1 : Int)] 140))
  have o2 := own2 (w.alloc (.cells #[.int .u32 (y0 : Int), .int .u32 (y1 : Int)] 140))
  rw [sz_al] at o2
  have g2 := (Grow.alloc w (.cells #[.int .u32 (y0 : Int), .int .u32 (y1 : Int)] 140)).trans (Grow.alloc _ (.cells #[.int .u32 (y0 : Int), .int .u32 (y1 : Int)] 140))
  generalize (w.alloc (.cells #[.int .u32 (y0 : Int), .int .u32 (y1 : Int)] 140)).alloc (.cells #[.int .u32 (y0 : Int), .int .u32 (y1 : Int)] 140) = w2 at *
  refine t1 _ _ w2 o1.sl o2.sl o1.lt o2.lt _ ?_
  intro g w3 oM g3 hg
  go_wp2_with fail
  have oM4 := oM.grow (Grow.alloc w3 (.cells #[.int .u32 (y0 : Int), .int .u32 (y1 : Int)] 140))
  have oW := own2 w3
  have g4 := (g2.trans g3).trans (Grow.alloc w3 (.cells #[.int .u32 (y0 : Int), .int .u32 (y1 : Int)] 140))
  generalize w3.alloc (.cells #[.int .u32 (y0 : Int), .int .u32 (y1 : Int)] 140) = w4 at *
  refine t2 _ _ 4 w4 oM4.sl oW.sl oM4.lt oW.lt _ ?_
  intro gc w5 oC g5 hgc
  have gW := g4.trans g5
  clear o1 o2 oM oM4 oW own2
  go_wp2_with fail
  go_loopw [7] (fun vi wr => ∃ j : Nat, vi = .int .i64 ((j : Int) - 1) ∧ j ≤ 6 ∧ Hid (V = abvF C p j) ∧ wr = w5) (fun vi _ => (intOf vi + 1).toNat)
  case atStart => exact ⟨6, by simp, by omega, HV, rfl⟩
  case round =>
    obtain ⟨j, rfl, hj, hab, rfl⟩ := hrel
    cases j with
    | zero =>
      have hf := hR _ gW
      rw [hab.out, abvF] at hf
      clear hR
      rw [show (((0 : Nat) : Int) - 1) = -1 by rfl]
      go_wp2_with fail
      exact hf
    | succ i =>
      rw [show (((i + 1 : Nat) : Int) - 1) = (i : Int) by omega]
      obtain ⟨g', off', eg, hcs⟩ := oC.sl.hat (by omega)
      cases eg
      have c1 := U_at hcs (i := i) (by omega)
      rw [Nat.zero_add] at c1
      have hab2 := hab.out
      rw [abvF] at hab2
      have hx := hC32.getD i
      have hst : (C.getD i 0 = if i = 3 then p else 0) → Hid (V = abvF C p i) := fun h => Lib.hid (by rw [hab2, if_pos h])
      have hend : (¬ C.getD i 0 = if i = 3 then p else 0) → R (.returned (.bool (decide ((if i = 3 then p else 0) < C.getD i 0)))) wr := fun h => by
        have := hR _ gW
        rwa [hab2, if_neg h] at this
      obtain ⟨x, ex⟩ : ∃ x, x = C.getD i 0 := ⟨_, rfl⟩
      simp only [← ex] at c1 hx hst hend
      clear ex hcs hab hab2 hR
      by_cases h3 : i = 3
      · rw [if_pos h3] at hst hend
        subst h3
        by_cases he : x = p
        · have h1 := hst he
          subst he
          clear hst hend
          go_wp2_with fail
          go_roundw
          case rel => exact ⟨3, by simp, by omega, h1, trivial⟩
          case measure => simp [intOf]
        · have h1 := hend he
          have hd : ((x : Int) == (p : Int)) = false := by simp; omega
          clear hst hend
          go_wp2_with fail
          exact h1
      · rw [if_neg h3] at hst hend
        have hd3 : ((i : Int) == 3) = false := by simp; omega
        by_cases he : x = 0
        · have h1 := hst he
          subst he
          clear hst hend
          go_wp2_with fail
          go_roundw
          case rel => exact ⟨i, by simp, by omega, h1, trivial⟩
          case measure => simp [intOf]
        · have h1 := hend he
          have hd : ((x : Int) == 0) = false := by simp; omega
          clear hst hend
          go_wp2_with fail
          exact h1
end Go.Proofs.Ytfmnkcmicbnfdaa

namespace Go.Proofs.Ytfmnkcmicbnfdaa
open Go Go.RowKit

def cubF (p : Nat) : Nat → Nat → Nat
  | 0, x => x
  | j + 1, x => if abvF (cubW (x + 2 ^ j)) p 6 = true then cubF p j x else cubF p j (x + 2 ^ j)
theorem cub_rt : ((pl 312).take 64).all (fun p => cubF p 36 0 % 4294967296 == rt3 p) = true := by decide +kernel
end Go.Proofs.Ytfmnkcmicbnfdaa

namespace Go.Proofs.Ytfmnkcmicbnfdaa
open Go Go.RowKit

structure Pr where
  p : Value → World → Prop
  st : ∀ {v w w'}, Keep [] w w' → p v w → p v w'
def VT (T : List (Nat × Pr)) (i : Nat) (_ : Array Value) (v : Value) (w : World) : Prop := match T.lookup i with
  | some q => q.p v w
  | none => True
theorem VT_st (T : List (Nat × Pr)) (i : Nat) (vs : Array Value) (v : Value) (w w' : World) (k : Keep [] w w') (h : VT T i vs v w) : VT T i vs v w' := by
  unfold VT at *
  split at h
  · exact Pr.st _ k h
  · trivial
def segT (w0 : World) (T : List (Nat × Pr)) : Seg := segK [] w0 (T.map (·.1)) (VT T) (VT_st T)
theorem segT_drew {w0 : World} {T : List (Nat × Pr)} : (segT w0 T).C w0.drew := segK_drew
/-- The value x. -/
def pIs (x : Value) : Pr := ⟨fun v _ => v = x, fun _ h => h⟩
/-- A slice that reads these bytes. -/
def pBy (l : List UInt8) : Pr := ⟨fun v w => ∃ ao c, v = .slice ao l.length c ∧ Sl w 1 ao l.length c (l.map B), fun k ⟨ao, c, e, h⟩ => ⟨ao, c, e, h.keep k (by simp)⟩⟩
theorem Pt.keep0 {w w' : World} {vs : List Value} {ls : List (List UInt8)} (h : Pt w vs ls) (k : Keep [] w w') : Pt w' vs ls := h.grow k.grow
/-- A slice of texts. -/
def pPt (ls : List (List UInt8)) : Pr := ⟨fun v w => ∃ ao c vs, v = .slice ao ls.length c ∧ Sl w 1 ao ls.length c vs ∧ Pt w vs ls, fun k ⟨ao, c, vs, e, h, h2⟩ => ⟨ao, c, vs, e, h.keep k (by simp), h2.keep0 k⟩⟩
/-- A slice of the call's own. -/
def pOw (e : TypeId) (sz n : Nat) (xs : List Value) : Pr := ⟨fun v w => ∃ ao c, v = .slice ao n c ∧ Own w e sz ao n c xs, fun k ⟨ao, c, h1, h⟩ => ⟨ao, c, h1, h.keep k (by simp)⟩⟩
/-- A slice of one, two texts, built. -/
theorem pPt_one {w : World} {ao : Option Addr} {c n : Nat} {l : List UInt8} {e : TypeId} (h : Sl w 1 ao n c (l.map B)) :
    (pPt [l]).p (.slice (some ⟨w.heap.size, 0, none⟩) 1 1) (w.alloc (.cells #[.slice ao n c] e)) := by
  obtain rfl : n = l.length := by have := h.hlen; simpa using this.symm
  exact ⟨_, _, [.slice ao l.length c], rfl, sl_obj (C := [.slice ao l.length c]) (alloc_new w _) 1 rfl (by decide) (by simp [Value.oneCell']), one_part (h.grow (Grow.alloc w _))⟩
theorem two_parts {w : World} {ao bo : Option Addr} {c d : Nat} {l m : List UInt8} (h : Sl w 1 ao l.length c (l.map B)) (k : Sl w 1 bo m.length d (m.map B)) : Pt w [.slice ao l.length c, .slice bo m.length d] [l, m] :=
  ⟨rfl, fun i hi => by
    have hi' : i = 0 ∨ i = 1 := by simp at hi; omega
    rcases hi' with rfl | rfl
    · exact ⟨ao, c, rfl, h⟩
    · exact ⟨bo, d, rfl, k⟩⟩
theorem pPt_two {w : World} {ao bo : Option Addr} {c d n n2 : Nat} {l m : List UInt8} {e : TypeId} (h : Sl w 1 ao n c (l.map B)) (k : Sl w 1 bo n2 d (m.map B)) :
    (pPt [l, m]).p (.slice (some ⟨w.heap.size, 0, none⟩) 2 2) (w.alloc (.cells #[.slice ao n c, .slice bo n2 d] e)) := by
  obtain rfl : n = l.length := by have := h.hlen; simpa using this.symm
  obtain rfl : n2 = m.length := by have := k.hlen; simpa using this.symm
  exact ⟨_, _, [.slice ao l.length c, .slice bo m.length d], rfl, sl_obj (C := [.slice ao l.length c, .slice bo m.length d]) (alloc_new w _) 2 rfl (by decide) (by simp [Value.oneCell']), two_parts (h.grow (Grow.alloc w _)) (k.grow (Grow.alloc w _))⟩
/-- make([]byte, n) -/
theorem madeCells_rep (z : Value) (n : Nat) : madeCells #[z] n = (List.replicate n z).toArray := by
  apply Array.ext'
  refine List.ext_getElem (by simp [madeCells]) fun i h1 h2 => ?_
  simp [madeCells, Nat.mod_one]
theorem make_bytes (n : Nat) (hn : n ≤ 10000000) (w : World) :
    (Instr.makeSlice 27 (.int .i64 (n : Int)) (.int .i64 (n : Int))).run Try.prog w = .ok (.slice (some ⟨w.heap.size, 0, none⟩) n n) (w.alloc (.cells (List.replicate n (.int .u8 0)).toArray 5)) := by
  rw [← madeCells_rep]
  exact run_make_row' 27 5 (.int .u8 0) 1 Try.underlying27 (by kernel_rfl) rfl .i64 .i64 n (by omega) (by omega) w
/-- Two new variables that are whole arrays. -/
theorem newvar2 {t t2 : TypeId} {n n2 : Nat} {F F2 : List Value} (w : World) (z z2 : Value) (hz : z.oneCell' = true) (hz2 : z2.oneCell' = true) (hm : n ≤ maxLen) (hm2 : n2 ≤ maxLen) (hF : F.length = n) (hF2 : F2.length = n2) (h1 : ∀ v ∈ F, v.oneCell' = true) (h2 : ∀ v ∈ F2, v.oneCell' = true) :
    ((w.alloc (.cells (List.replicate n z).toArray t)).alloc (.cells (List.replicate n2 z2).toArray t2)).there w.heap.size 0 F.toArray.size ∧ F.toArray.all (·.oneCell') = true ∧
    (((w.alloc (.cells (List.replicate n z).toArray t)).alloc (.cells (List.replicate n2 z2).toArray t2)).setCells w.heap.size 0 F).there (w.heap.size + 1) 0 F2.toArray.size ∧ F2.toArray.all (·.oneCell') = true ∧
    Own ((((w.alloc (.cells (List.replicate n z).toArray t)).alloc (.cells (List.replicate n2 z2).toArray t2)).setCells w.heap.size 0 F).setCells (w.heap.size + 1) 0 F2) t 1 (some ⟨w.heap.size, 0, none⟩) n n F ∧
    Own ((((w.alloc (.cells (List.replicate n z).toArray t)).alloc (.cells (List.replicate n2 z2).toArray t2)).setCells w.heap.size 0 F).setCells (w.heap.size + 1) 0 F2) t2 1 (some ⟨w.heap.size + 1, 0, none⟩) n2 n2 F2 ∧
    Grow w ((((w.alloc (.cells (List.replicate n z).toArray t)).alloc (.cells (List.replicate n2 z2).toArray t2)).setCells w.heap.size 0 F).setCells (w.heap.size + 1) 0 F2) := by
  have oa := (own_new (t := t) (n := n) w z hz hm).grow (Grow.alloc _ (.cells (List.replicate n2 z2).toArray t2))
  have ob := own_new (t := t2) (n := n2) (w.alloc (.cells (List.replicate n z).toArray t)) z2 hz2 hm2
  rw [sz_al] at ob
  have gab := (Grow.alloc w (.cells (List.replicate n z).toArray t)).trans (Grow.alloc _ (.cells (List.replicate n2 z2).toArray t2))
  have ka := Keep.setCells w.heap.size F 0 ((w.alloc (.cells (List.replicate n z).toArray t)).alloc (.cells (List.replicate n2 z2).toArray t2))
  have ob2 := ob.keep ka (by simp [blk])
  have oa2 := own_whole oa hF h1
  have kb := Keep.setCells (w.heap.size + 1) F2 0 (((w.alloc (.cells (List.replicate n z).toArray t)).alloc (.cells (List.replicate n2 z2).toArray t2)).setCells w.heap.size 0 F)
  exact ⟨own_there oa _ (by simpa using hF), one_all h1, own_there ob2 _ (by simpa using hF2), one_all h2, oa2.keep kb (by simp [blk]), own_whole ob2 hF2 h2, (gab.then ka (fun x hx => by simp at hx; omega)).then kb (fun x hx => by simp at hx; omega)⟩
theorem load_arr {P : Program} {t : TypeId} {g n : Nat} {X : List Value} {d : TypeDesc} {w : World} (h0 : 0 < n) (hX : X.length = n) (o : Own w t 1 (some ⟨g, 0, none⟩) n n X) (hu : P.underlying t = some d) (hd : d.isRow = true) (hi : (P.info? t).map (·.size) = some n) :
    (Instr.loadAt t (.pointer (some ⟨g, 0, none⟩))).run P w = .ok (.agg X.toArray) w := by
  obtain ⟨g', off', eg, hc⟩ := o.sl.hat (by omega)
  cases eg
  exact run_ld hu hd (by rw [hX]; exact hi) hc
theorem store_arr {P : Program} {t : TypeId} {g n : Nat} {X Y : List Value} {w : World} (hX : X.length = n) (h1 : ∀ v ∈ X, v.oneCell' = true) (o : Own w t 1 (some ⟨g, 0, none⟩) n n Y) (hi : (P.info? t).map (·.size) = some n) :
    (Instr.storeAt t (.pointer (some ⟨g, 0, none⟩)) (.agg X.toArray)).run P w = .ok () (w.setCells g 0 X) ∧ Own (w.setCells g 0 X) t 1 (some ⟨g, 0, none⟩) n n X ∧ Keep [g] w (w.setCells g 0 X) := by
  refine ⟨?_, own_whole o hX h1, Keep.setCells _ _ _ _⟩
  have := run_storeAt_mid (P := P) w g 0 t X.toArray (own_there o _ (by simpa using hX)) (by rw [hi]; simp [hX]) (one_all h1)
  simpa using this
theorem Pt.cons {w : World} {vs : List Value} {ls : List (List UInt8)} {ao : Option Addr} {n c : Nat} {l : List UInt8} (s : Sl w 1 ao n c (l.map B)) (h : Pt w vs ls) : Pt w (.slice ao n c :: vs) (l :: ls) := by
  obtain rfl : n = l.length := by have := s.hlen; simpa using this.symm
  refine ⟨by simp [h.1], fun i hi => ?_⟩
  cases i with
  | zero => exact ⟨ao, c, rfl, s⟩
  | succ i =>
    obtain ⟨ao', c', e, s'⟩ := h.2 i (by simpa using hi)
    exact ⟨ao', c', by simpa using e, by simpa using s'⟩
end Go.Proofs.Ytfmnkcmicbnfdaa
