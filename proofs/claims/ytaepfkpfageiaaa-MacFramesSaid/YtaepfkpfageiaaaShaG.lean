/- The document's products of words. -/
import Derived.Test.YtaepfkpfageiaaaShaW
import Derived.Test.YtaepfkpfageiaaaShaS
import Derived.Deep.DeepCutAuto
namespace Go.Proofs.Ytaepfkpfageiaaa
open Go Go.RowKit

theorem TW : ST Try.prog 115 76 1 4 := ST.mk' (z := .int .u32 0) Try.underlying115 (by kernel_rfl) rfl (by decide)
theorem makeW (w : World) (l : Int) (h0 : 0 ≤ l) (h1 : l ≤ 1000000) : (Instr.makeSlice 115 (.int .i64 l) (.int .i64 l)).run Try.prog w = .ok (.slice (some ⟨w.heap.size, 0, none⟩) l.toNat l.toNat) (w.alloc (.cells (madeCells #[.int .u32 0] l.toNat) 76)) := by
  obtain ⟨i, z, hi, hz, hs, hb, hc, -⟩ := TW.info
  obtain rfl : z = .int .u32 0 := by
    have : (Try.prog.info? 76).map (·.zero) = some (some (.int .u32 0)) := by kernel_rfl
    rw [hi] at this
    simp [hz] at this
    exact this
  have := run_make (P := Try.prog) w 115 76 i _ TW.und hi hz .i64 .i64 l l h0 (Int.le_refl _) (by rw [hb]; omega) (by omega)
  rw [hs, Nat.mul_one] at this
  exact this
theorem madeV (v : Value) (n : Nat) : (madeCells #[v] n).toList = List.replicate n v := by
  refine List.ext_getElem (by simp [madeCells]) fun i h1 h2 => ?_
  simp [madeCells, Nat.mod_one]

/-- One word times many, added to what there is; what is carried. -/
def inI (x : Nat) (b c : List Nat) (i : Nat) : Nat → List Nat × Nat
  | 0 => (c, 0)
  | k + 1 => ((inI x b c i k).1.set (i + k) ((x * b.getD k 0 + (inI x b c i k).1.getD (i + k) 0 + (inI x b c i k).2) % 4294967296), (x * b.getD k 0 + (inI x b c i k).1.getD (i + k) 0 + (inI x b c i k).2) / 4294967296)
def outI (a b : List Nat) : Nat → List Nat
  | 0 => List.replicate (a.length + b.length) 0
  | i + 1 => (inI (a.getD i 0) b (outI a b i) i b.length).1.set (i + b.length) ((inI (a.getD i 0) b (outI a b i) i b.length).2 % 4294967296)
def tmsF (a b : List Nat) : List Nat := outI a b a.length
def W32 (l : List Nat) : Prop := ∀ x ∈ l, x < 4294967296
theorem W32.getD {l : List Nat} (h : W32 l) (i : Nat) : l.getD i 0 < 4294967296 := by
  rw [List.getD_eq_getElem?_getD]
  by_cases hi : i < l.length
  · rw [List.getElem?_eq_getElem hi]; exact h _ (List.getElem_mem hi)
  · rw [List.getElem?_eq_none (by omega)]; exact (by decide : 0 < 4294967296)
theorem W32.set {l : List Nat} (h : W32 l) (i x : Nat) (hx : x < 4294967296) : W32 (l.set i x) := fun y hy => by
  rcases List.mem_or_eq_of_mem_set hy with h' | h'
  · exact h y h'
  · exact h' ▸ hx
theorem prod_le (x y : Nat) (hx : x < 4294967296) (hy : y < 4294967296) : x * y ≤ 18446744065119617025 := Nat.mul_le_mul (show x ≤ 4294967295 by omega) (show y ≤ 4294967295 by omega)
theorem inI_ok (x : Nat) (b c : List Nat) (i : Nat) (hx : x < 4294967296) (hb : W32 b) (hc : W32 c) : ∀ k, W32 (inI x b c i k).1 ∧ (inI x b c i k).2 < 4294967296 ∧ (inI x b c i k).1.length = c.length
  | 0 => ⟨hc, by simp [inI], rfl⟩
  | k + 1 => by
    obtain ⟨h1, h2, h3⟩ := inI_ok x b c i hx hb hc k
    have hp := prod_le x (b.getD k 0) hx (hb.getD k)
    have hg := h1.getD (i + k)
    rw [inI]
    exact ⟨h1.set _ _ (Nat.mod_lt _ (by decide)), by simp only; omega, by simp only [List.length_set]; exact h3⟩
theorem outI_ok (a b : List Nat) (ha : W32 a) (hb : W32 b) : ∀ i, W32 (outI a b i) ∧ (outI a b i).length = a.length + b.length
  | 0 => ⟨fun x h => by rw [List.eq_of_mem_replicate h]; decide, by simp [outI]⟩
  | i + 1 => by
    obtain ⟨h1, h2⟩ := outI_ok a b ha hb i
    obtain ⟨h3, -, h5⟩ := inI_ok (a.getD i 0) b (outI a b i) i (ha.getD i) hb h1 b.length
    rw [outI]
    exact ⟨h3.set _ _ (Nat.mod_lt _ (by decide)), by rw [List.length_set, h5, h2]⟩

theorem U_at {w : World} {g off : Nat} {L : List Nat} (h : Cells w g off (L.map U)) {i : Nat} (hi : i < L.length) : w.cell? ⟨g, off + i, none⟩ = some (.int .u32 ((L.getD i 0 : Nat) : Int)) :=
  h.at (by simp [hi, U])
/-- A word stored. -/
theorem put_word {w : World} {e : TypeId} {g n : Nat} {L : List Nat} (o : Own w e 1 (some ⟨g, 0, none⟩) n n (L.map U)) {i : Nat} (hi : i < n) (x : Nat) :
    Own (w.setCell ⟨g, i, none⟩ (.int .u32 (x : Int))) e 1 (some ⟨g, 0, none⟩) n n ((L.set i x).map U) ∧ w.cell? ⟨g, i, none⟩ = some (.int .u32 ((L.getD i 0 : Nat) : Int)) ∧ w.frozen? ⟨g, i, none⟩ = false := by
  obtain ⟨g', u, e', hv, hf, hs⟩ := own_put o (i := i) (by omega)
  cases e'
  have hl : L.length = n := by have := o.row.1; simpa using this
  obtain ⟨g', off', eg, hcs⟩ := o.sl.hat (by omega)
  cases eg
  have := U_at hcs (i := i) (by omega)
  rw [Nat.zero_add] at this
  exact ⟨by rw [List.map_set]; exact hs (U x) rfl, this, hf⟩

set_option maxRecDepth 100000 in
set_option maxHeartbeats 4000000 in
theorem timesC (ao bo : Option Addr) (ca cb : Nat) (A Bl : List Nat) (ha : W32 A) (hb : W32 Bl) (hla : A.length ≤ 10) (hlb : Bl.length ≤ 10) (w : World) (sa : Sl w 1 ao A.length ca (A.map U)) (sb : Sl w 1 bo Bl.length cb (Bl.map U)) (hlt : ∀ g ∈ blk ao, g < w.heap.size) (hlt2 : ∀ g ∈ blk bo, g < w.heap.size)
    (R : Ending → World → Prop) (hR : ∀ g w', Own w' 76 1 (some ⟨g, 0, none⟩) (A.length + Bl.length) (A.length + Bl.length) ((tmsF A Bl).map U) → Grow w w' → w.heap.size ≤ g → R (.returned (.slice (some ⟨g, 0, none⟩) (A.length + Bl.length) (A.length + Bl.length))) w') :
    Calls Try.prog 83 #[.slice ao A.length ca, .slice bo Bl.length cb] w R := by
  have hout := outI_ok A Bl ha hb
  have hmk := makeW w ((A.length : Int) + (Bl.length : Int)) (by omega) (by omega)
  rw [show ((A.length : Int) + (Bl.length : Int)).toNat = A.length + Bl.length by omega] at hmk
  obtain ⟨n, hn⟩ : ∃ n, n = A.length + Bl.length := ⟨_, rfl⟩
  rw [← hn] at hmk
  have oC : Own (w.alloc (.cells (madeCells #[.int .u32 0] n) 76)) 76 1 (some ⟨w.heap.size, 0, none⟩) n n ((outI A Bl 0).map U) := by
    have := Own.made (sz := 1) (n := n) (heap_alloc_new w (.cells (madeCells #[.int .u32 0] n) 76)) (by simp [size_madeCells]) (by unfold maxLen; omega) (by rw [madeV]; intro u hu; rw [List.eq_of_mem_replicate hu]; rfl)
    rw [madeV] at this
    rw [outI, List.map_replicate, ← hn]
    exact this
  have g1 := Grow.alloc w (.cells (madeCells #[.int .u32 0] n) 76)
  obtain ⟨q, hq⟩ : ∃ q, q = w.heap.size := ⟨_, rfl⟩
  simp only [← hn] at hR
  have Hn := Lib.hid hn
  clear hn
  go_enter Try.func83, Try.ntmps83
  go_wp2_with fail
  generalize w.alloc (.cells (madeCells #[.int .u32 0] n) 76) = w1 at *
  rw [← hq] at oC ⊢
  have Hq := Lib.hid hq
  simp only [← hq] at hR hlt hlt2
  clear hq hmk
  go_loopw [6] (fun vi wr => ∃ i : Nat, vi = .int .i64 (i : Int) ∧ i ≤ A.length ∧ Own wr 76 1 (some ⟨q, 0, none⟩) n n ((outI A Bl i).map U) ∧ Keep [q] w1 wr) (fun vi _ => A.length - (intOf vi).toNat)
  case atStart => exact ⟨0, by simp, by omega, oC, Keep.refl _ _⟩
  case round =>
    obtain ⟨i, rfl, hi, oi, ki⟩ := hrel
    by_cases hil : i < A.length
    · obtain ⟨hw1, hw2⟩ := hout i
      have hx := ha.getD i
      have hin := inI_ok (A.getD i 0) Bl (outI A Bl i) i hx hb hw1
      have hnext : outI A Bl (i + 1) = (inI (A.getD i 0) Bl (outI A Bl i) i Bl.length).1.set (i + Bl.length) ((inI (A.getD i 0) Bl (outI A Bl i) i Bl.length).2 % 4294967296) := rfl
      have Hnext := Lib.hid hnext
      have o0 : Own wr 76 1 (some ⟨q, 0, none⟩) n n ((inI (A.getD i 0) Bl (outI A Bl i) i 0).1.map U) := oi
      clear hnext hw1 hw2 oi hout
      go_wp2_with fail
      go_loopw [7, 8] (fun vc vk wr => ∃ (k : Nat) (s : List Nat × Nat), vk = .int .i64 (k : Int) ∧ k ≤ Bl.length ∧ vc = .int .u64 (s.2 : Int) ∧ Hid (s = inI (A.getD i 0) Bl (outI A Bl i) i k) ∧ Own wr 76 1 (some ⟨q, 0, none⟩) n n (s.1.map U) ∧ Keep [q] w1 wr) (fun _ vk _ => Bl.length - (intOf vk).toNat)
      case atStart => exact ⟨0, _, by simp, by omega, by simp [inI], Lib.hid rfl, o0, ki⟩
      case round =>
        clear o0 ki
        obtain ⟨k, s, rfl, hk, rfl, hs, ok, kk⟩ := hrel
        obtain ⟨i1, i2, i3⟩ := hin k
        rw [← hs.out] at i1 i2 i3
        obtain ⟨S, cy⟩ := s
        simp only at i1 i2 i3 ok
        by_cases hkl : k < Bl.length
        · obtain ⟨ga, oa, eg, hca⟩ := ((sa.grow g1).keep kk (fun g hg => by have := hlt g hg; simp; omega)).hat (by omega)
          subst eg
          obtain ⟨gb, ob, eg, hcb⟩ := ((sb.grow g1).keep kk (fun g hg => by have := hlt2 g hg; simp; omega)).hat (by omega)
          subst eg
          have c1 := U_at hca hil
          have c2 := U_at hcb hkl
          have hin2 : i + k < n := by have := Hn.out; omega
          have hy := hb.getD k
          have hz := i1.getD (i + k)
          have hxy := prod_le (A.getD i 0) (Bl.getD k 0) hx hy
          obtain ⟨-, c3, f3⟩ := put_word ok hin2 0
          have hput := fun x => (put_word ok hin2 x).1
          have hst : Hid ((S.set (i + k) ((A.getD i 0 * Bl.getD k 0 + S.getD (i + k) 0 + cy) % 4294967296), (A.getD i 0 * Bl.getD k 0 + S.getD (i + k) 0 + cy) / 4294967296) = inI (A.getD i 0) Bl (outI A Bl i) i (k + 1)) := Lib.hid (by rw [inI, ← hs.out])
          obtain ⟨y, ey⟩ : ∃ y, y = Bl.getD k 0 := ⟨_, rfl⟩
          obtain ⟨x, ex⟩ : ∃ x, x = A.getD i 0 := ⟨_, rfl⟩
          obtain ⟨z, ez⟩ : ∃ z, z = S.getD (i + k) 0 := ⟨_, rfl⟩
          obtain ⟨xy, exy⟩ : ∃ xy, xy = x * y := ⟨_, rfl⟩
          simp only [← ex] at c1 hx hxy hst hin hs Hnext ⊢
          simp only [← ey] at c2 hy hxy hst
          simp only [← ez] at c3 hz hst
          rw [← exy] at hxy hst
          have e1 : (x : Int) * (y : Int) = (xy : Int) := by rw [exy]; simp
          obtain ⟨t, ht⟩ : ∃ t, t = xy + z + cy := ⟨_, rfl⟩
          rw [← ht] at hst
          have htl : t < 18446744073709551616 := by omega
          have e2 : ((xy : Int) + (z : Int) + (cy : Int)) = (t : Int) := by omega
          have k1 := KW.cell (fp := []) (p0 := tt) c1 (by simp)
          have k2 := KW.cell (fp := []) (p0 := tt) c2 (by simp)
          have k3 := KW.cell (fp := []) (p0 := tt) c3 (by simp)
          have Hs := Lib.hid hs
          have Hput := Lib.hid hput
          clear hs hput c1 c2 c3 hca hcb ey ex ez exy hin ht
          go_upto_region 9 with (fail)
          refine wp_region_R (segL wr) (by kernel_rfl) segL_drew ?_
          unfold segL segK segR
          repeat (first | (refine wpV_skp rfl rfl ?_; simp only [List.set_cons_succ, List.set_cons_zero]) | (refine wpV_look rfl rfl rfl rfl rfl (fun K hK => ?_); go_big_quiet_op; refine hK _ ?_; clear hK K))
          refine wpV_nil ?_
          intro w4 hC _
          obtain ⟨⟨w4, hk4, -⟩, rfl⟩ := hC
          have ok4 := ok.keep hk4 (by simp)
          have kk4 := kk.trans (Keep.of_nil hk4)
          obtain ⟨-, c3, f3⟩ := put_word ok4 hin2 0
          have hput := (put_word ok4 hin2 (t % 4294967296)).1
          have kp := kk4.trans (Keep.setCell (fp := [q]) w4 ⟨q, i + k, none⟩ (by simp) (.int .u32 ((t % 4294967296 : Nat) : Int)))
          have et : ((t % 4294967296 : Nat) : Int) = (t : Int) % 4294967296 := by simp
          have ed : ((t / 4294967296 : Nat) : Int) = (t : Int) / 4294967296 := by simp
          rw [et] at hput kp
          have Hed := Lib.hid ed
          clear k1 k2 k3 ok4 kk4 et ed
          go_wp2_with fail
          go_roundw
          case rel => exact ⟨k + 1, _, by go_num, by omega, by rw [Hed.out], hst, hput, kp⟩
          case measure => simp [intOf]; omega
        · obtain rfl : k = Bl.length := by omega
          have hj : i + Bl.length < n := by have := Hn.out; omega
          obtain ⟨-, c3, f3⟩ := put_word ok hj 0
          have hput := (put_word ok hj (cy % 4294967296)).1
          have kp := kk.trans (Keep.setCell (fp := [q]) wr ⟨q, i + Bl.length, none⟩ (by simp) (.int .u32 ((cy % 4294967296 : Nat) : Int)))
          rw [show S.set (i + Bl.length) (cy % 4294967296) = outI A Bl (i + 1) by rw [Hnext.out, ← hs.out]] at hput
          have et : ((cy % 4294967296 : Nat) : Int) = (cy : Int) := by omega
          rw [et] at hput kp
          clear et hin hs
          go_wp2_with fail
          go_roundw
          case rel => exact ⟨i + 1, by go_num, by omega, hput, kp⟩
          case measure => simp [intOf]; omega
    · obtain rfl : i = A.length := by omega
      have gg := g1.then ki (fun x hx => by simp at hx; have := Hq.out; omega)
      have hf := hR q wr oi gg (Nat.le_refl _)
      clear hR hout
      go_wp2_with fail
      exact hf
end Go.Proofs.Ytaepfkpfageiaaa
