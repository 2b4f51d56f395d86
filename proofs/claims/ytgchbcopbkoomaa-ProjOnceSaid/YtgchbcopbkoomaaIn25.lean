/- Numbers that are the same; a sector that begins with a text. -/
import Derived.Test.YtgchbcopbkoomaaDo25
namespace Go.Proofs.Ytgchbcopbkoomaa
open Go Go.RowKit

set_option maxRecDepth 100000 in
set_option maxHeartbeats 1000000 in
theorem intsC (A : List Int) (n : Nat) (hn : n = A.length) (hn2 : n ≤ 100000) (ao bo : Option Addr) (ca cb : Nat) (w : World) (ha : Sl w 1 ao n ca (A.map (.int .i64))) (hb : Sl w 1 bo n cb (A.map (.int .i64))) (R : Ending → World → Prop)
    (hR : ∀ w', Grow w w' → R (.returned (.bool true)) w') : Calls Try.prog 14 #[.slice ao n ca, .slice bo n cb] w R := by
  have hml : maxLen = 9223372036854775807 := rfl
  have hks1 := ha.hle
  have hkm1 := ha.hcap
  have hks2 := hb.hle
  have hkm2 := hb.hcap
  have Hn := Lib.hid hn
  have HR := Lib.hid hR
  clear hn hR
  go_enter Try.func14, Try.ntmps14
  go_wp2_with fail
  go_loopw [5] (fun vi wr => ∃ (i : Nat), vi = .int .i64 (i : Int) ∧ i ≤ n ∧ Grow w wr) (fun vi _ => n - (intOf vi).toNat)
  case atStart => exact ⟨0, by simp, by omega, Grow.refl _⟩
  case round =>
    obtain ⟨i, rfl, hi, g⟩ := hrel
    by_cases hlt : i < n
    · have hlt1 : i < A.length := by rw [← Hn.out]; exact hlt
      obtain ⟨ga, oa, eg, hcs1⟩ := (ha.grow g).hat (by omega)
      subst eg
      obtain ⟨gb, ob, eg, hcs2⟩ := (hb.grow g).hat (by omega)
      subst eg
      obtain ⟨x, hx⟩ : ∃ x, x = A[i]'hlt1 := ⟨_, rfl⟩
      have c1 := hcs1.at (i := i) (v := .int .i64 x) (by simp [hlt1, hx])
      have c2 := hcs2.at (i := i) (v := .int .i64 x) (by simp [hlt1, hx])
      have q1 := KW.cell (fp := []) (p0 := tt) c1 (by simp)
      have q2 := KW.cell (fp := []) (p0 := tt) c2 (by simp)
      clear hx hcs1 hcs2 ha hb HR c1 c2
      go_wp2_with fail
      refine wp_region_R (segT wr []) (by kernel_rfl) segT_drew ?_
      unfold segT segK segR
      repeat (refine wpV_look rfl rfl rfl rfl rfl (fun K hK => ?_); go_big_quiet_op; refine hK _ ?_; clear hK K)
      refine wpV_nil ?_
      intro w4 hC _
      obtain ⟨⟨w4, hk4, -⟩, rfl⟩ := hC
      have G2 := g.trans hk4.grow
      go_wp2_with fail
      exact ⟨⟨i + 1, by go_num, by omega, G2⟩, by simp [intOf]; omega⟩
    · obtain rfl : i = n := by omega
      have hf := HR.out _ g
      clear HR
      go_wp2_with fail
      exact hf

theorem mkB (n : Nat) (hn : n ≤ 10000000) (w : World) :
    (Instr.makeSlice 33 (.int .i64 (n : Int)) (.int .i64 (n : Int))).run Try.prog w = .ok (.slice (some ⟨w.heap.size, 0, none⟩) n n) (w.alloc (.cells (List.replicate n (.int .u8 0)).toArray 5)) := by
  have hml : maxLen = 9223372036854775807 := rfl
  rw [← madeCells_rep]
  exact run_make_row' 33 5 (.int .u8 0) 1 Try.underlying33 (by kernel_rfl) rfl .i64 .i64 n (by omega) (by omega) w
set_option maxRecDepth 100000 in
set_option maxHeartbeats 1000000 in
theorem sectorC (s : ByteArray) (w : World) (R : Ending → World → Prop)
    (hR : ∀ (q : Nat) (l : List UInt8) (w' : World), l.length = 64 → Own w' 5 1 (some ⟨q, 0, none⟩) 64 64 (l.map B) → Grow w w' → w.heap.size ≤ q → R (.returned (.slice (some ⟨q, 0, none⟩) 64 64)) w') : Calls Try.prog 15 #[.string s] w R := by
  have hml : maxLen = 9223372036854775807 := rfl
  have hmk : ∀ w : World, (Instr.makeSlice 33 (.int .i64 64) (.int .i64 64)).run Try.prog w = .ok (.slice (some ⟨w.heap.size, 0, none⟩) 64 64) (w.alloc (.cells (List.replicate 64 (.int .u8 0)).toArray 5)) := mkB 64 (by omega)
  have hz : decide ((s.size : Int) < 0) = false := decide_eq_false (by omega)
  have HR := Lib.hid hR
  clear hR hz
  go_enter Try.func15, Try.ntmps15
  go_upto_region 1 with (fail)
  have o0 : Own (w.alloc (.cells (List.replicate 64 (.int .u8 0)).toArray 5)) 5 1 (some ⟨w.heap.size, 0, none⟩) 64 64 ((List.replicate 64 0).map B) := by
    have := own_new (t := 5) (n := 64) w (.int .u8 0) rfl (by omega)
    rwa [List.map_replicate]
  have g0 := Grow.alloc w (.cells (List.replicate 64 (.int .u8 0)).toArray 5)
  obtain ⟨q, hq⟩ : ∃ q, q = w.heap.size := ⟨_, rfl⟩
  have hmk1 := hmk w
  rw [← hq] at hmk1 o0
  obtain ⟨W0, hW0⟩ : ∃ W0, W0 = w.alloc (.cells (List.replicate 64 (.int .u8 0)).toArray 5) := ⟨_, rfl⟩
  rw [← hW0] at hmk1 o0 g0
  have hge : w.heap.size ≤ q := by omega
  clear hmk hq hW0
  go_wp2_with fail
  clear hmk1
  go_loopw [4] (fun vi wr => ∃ (i : Nat) (l : List UInt8), vi = .int .i64 (i : Int) ∧ i ≤ 64 ∧ l.length = 64 ∧ Own wr 5 1 (some ⟨q, 0, none⟩) 64 64 (l.map B) ∧ Grow w wr) (fun vi _ => 64 - (intOf vi).toNat)
  case atStart => exact ⟨0, List.replicate 64 0, by simp, by omega, by simp, o0, g0⟩
  case round =>
    obtain ⟨i, l, rfl, hi, hl, o, g⟩ := hrel
    clear o0 g0
    by_cases hlt : i < 64
    · by_cases hls : i < s.size
      · obtain ⟨g3, v, eg, hv, hfz, hset⟩ := own_put o (i := i) (by omega)
        cases eg
        have hn := fun x : UInt8 => hset (B x) rfl
        have hgn := fun v => g.then (Keep.setCell (fp := [q]) wr ⟨q, i, none⟩ (by simp) v) (fun y hy => by simp at hy; omega)
        clear hset o
        go_upto_region 5 with (fail)
        go_wp2_with fail
        have ho : Own (wr.setCell ⟨q, i, none⟩ (.int .u8 (s[i].toNat : Int))) 5 1 (some ⟨q, 0, none⟩) 64 64 ((l.set i s[i]).map B) := by rw [List.map_set]; exact hn s[i]
        exact ⟨⟨i + 1, l.set i s[i], by go_num, by omega, by simpa using hl, ho, hgn _⟩, by simp [intOf]; omega⟩
      · have hd : decide ((i : Int) < (s.size : Int)) = false := decide_eq_false (by omega)
        have hf := HR.out q l wr hl o g hge
        clear HR
        go_wp2_with fail
        exact hf
    · obtain rfl : i = 64 := by omega
      have hf := HR.out q l wr hl o g hge
      clear HR
      go_wp2_with fail
      exact hf
end Go.Proofs.Ytgchbcopbkoomaa
