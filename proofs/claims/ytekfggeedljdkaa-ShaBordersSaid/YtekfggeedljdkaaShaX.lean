/- sha.Text. -/
import Derived.Test.YtekfggeedljdkaaShaT
namespace Go.Proofs.Ytekfggeedljdkaa
open Go Go.RowKit

/-- A hex digit. -/
def hx (k : Nat) : UInt8 := ([48, 49, 50, 51, 52, 53, 54, 55, 56, 57, 97, 98, 99, 100, 101, 102] : List UInt8).getD k 0
def textS (l : List UInt8) : List UInt8 := l.flatMap fun b => [hx (b.toNat / 16), hx (b.toNat % 16)]

theorem hx_index (k : Nat) (hk : k < 16) (w : World) : (Instr.index 9 (.string ⟨#[48, 49, 50, 51, 52, 53, 54, 55, 56, 57, 97, 98, 99, 100, 101, 102]⟩) (.int .u8 (k : Int))).run Try.prog w = .ok (.int .u8 (((hx k).toNat : Nat) : Int)) w := by
  have h9 : Try.prog.underlying 9 = some .string := Try.underlying9
  have hc : k = 0 ∨ k = 1 ∨ k = 2 ∨ k = 3 ∨ k = 4 ∨ k = 5 ∨ k = 6 ∨ k = 7 ∨ k = 8 ∨ k = 9 ∨ k = 10 ∨ k = 11 ∨ k = 12 ∨ k = 13 ∨ k = 14 ∨ k = 15 := by omega
  rcases hc with rfl | rfl | rfl | rfl | rfl | rfl | rfl | rfl | rfl | rfl | rfl | rfl | rfl | rfl | rfl | rfl <;> (simp [Instr.index, run_underlying h9, asIntOf, hx]; rfl)
set_option maxRecDepth 100000 in
set_option maxHeartbeats 1000000 in
theorem textC (l : List UInt8) (hl : l.length = 32) (w : World) (R : Ending → World → Prop) (hR : ∀ w', Grow w w' → R (.returned (.string (str (textS l)))) w') :
    Calls Try.prog 20 #[.agg (l.map B).toArray] w R := by
  go_enter Try.func20, Try.ntmps20
  have ob := heap_alloc_new w (.cells (l.map B).toArray 26)
  have hrg : (w.alloc (.cells (l.map B).toArray 26)).rangeAt w.heap.size 0 (l.map B) := fun j v hj => by
    rw [Nat.zero_add]
    exact obj_cell ob j (by simpa using hj)
  have hsz : (Try.prog.info? 26).map (·.size) = some (l.map B).length := by rw [List.length_map, hl]; kernel_rfl
  go_wp2_with (refine wpList_load_mid rfl 26 _ rfl w.heap.size 0 rfl (l.map B) _ hrg Try.underlying26 rfl hsz ?_)
  have g0 := Grow.alloc w (.cells (l.map B).toArray 26)
  generalize w.alloc (.cells (l.map B).toArray 26) = w1 at *
  go_loopw [3, 7] (fun o vi wr => ∃ (i : Nat) (L : List UInt8) (ao : Option Addr) (c : Nat), vi = .int .i64 (i : Int) ∧ o = .slice ao L.length c ∧ Hid (L = textS (l.take i)) ∧ i ≤ 32 ∧ L.length = 2 * i ∧ Own wr 5 1 ao L.length c (L.map B) ∧ Grow w1 wr ∧ (∀ g ∈ blk ao, w1.heap.size ≤ g)) (fun _ vi _ => 32 - (intOf vi).toNat)
  case atStart => exact ⟨0, [], none, 0, by simp, rfl, Lib.hid (by simp [textS]), by omega, by simp, Own.none _ _ _, Grow.refl _, by simp [blk]⟩
  case round =>
    obtain ⟨i, L, ao, c, rfl, rfl, hL, hi, hLl, ho, hg, hb⟩ := hrel
    by_cases hil : i < 32
    · have hget : (l.map B)[i]? = some (.int .u8 ((l[i]'(by omega)).toNat : Int)) := by simp [hl, hil, B]
      have hx8 : (l[i]'(by omega)).toNat < 256 := UInt8.toNat_lt _
      obtain ⟨x, hx⟩ : ∃ x, x = (l[i]'(by omega)).toNat := ⟨_, rfl⟩
      rw [← hx] at hget hx8
      have hxe := Lib.hid hx
      clear hx
      have hix : ∀ w' : World, (Instr.index 26 (.agg (l.map B).toArray) (.int .i64 (i : Int))).run Try.prog w' = .ok (.int .u8 (x : Int)) w' := fun w' => by
        have h32 : Try.prog.underlying 26 = some (.array 32 5) := Try.underlying26
        have h5 : (Try.prog.info? 5).map (·.size) = some 1 := by kernel_rfl
        have hu5 : Try.prog.underlying 5 = some (.int .u8) := Try.underlying5
        cases hq : Try.prog.info? 5 with
        | none => rw [hq] at h5; cases h5
        | some inf =>
          have hs : inf.size = 1 := by simpa [hq] using h5
          simp [Instr.index, run_underlying h32, run_underlying hu5, asIntOf, hl, hil, part, sizeOf, typeInfo, hq, hs, isAgg, List.getElem?_map] at hget ⊢
          simp [hget]
      have hix1 := hix wr
      have hm15 : bits BinOp.and IntKind.u8 (x : Int) 15 = ((x % 16 : Nat) : Int) := by
        rw [show (15 : Int) = ((15 : Nat) : Int) from rfl, u8_and_nat _ _ hx8 (by decide), nat_mask4]
      have hA : ∀ w' : World, (Instr.index 9 (.string ⟨#[48, 49, 50, 51, 52, 53, 54, 55, 56, 57, 97, 98, 99, 100, 101, 102]⟩) (.int .u8 ((x : Int) / 16))).run Try.prog w' = .ok (.int .u8 (((hx (x / 16)).toNat : Nat) : Int)) w' := fun w' => by
        rw [show (x : Int) / 16 = ((x / 16 : Nat) : Int) by simp]; exact hx_index (x / 16) (by omega) w'
      have hB : ∀ w' : World, (Instr.index 9 (.string ⟨#[48, 49, 50, 51, 52, 53, 54, 55, 56, 57, 97, 98, 99, 100, 101, 102]⟩) (.int .u8 ((x : Int) % 16))).run Try.prog w' = .ok (.int .u8 (((hx (x % 16)).toNat : Nat) : Int)) w' := fun w' => by
        rw [show (x : Int) % 16 = ((x % 16 : Nat) : Int) by simp]; exact hx_index (x % 16) (by omega) w'
      have hnx : Hid (L ++ [hx (x / 16), hx (x % 16)] = textS (l.take (i + 1))) := Lib.hid (by
        rw [List.take_add_one, List.getElem?_eq_getElem (by omega), textS, List.flatMap_append, hL.out, hxe.out]
        simp [textS])
      generalize hx (x / 16) = dA at hA hnx
      generalize hx (x % 16) = dB at hB hnx
      go_wp2_with fail
      let own : World → Prop := fun w => Own w 5 1 ao L.length c (L.map B)
      have hlt2 := ho.lt
      let news : List Value := [B dA, B dB]
      let V : Nat → Array Value → Value → World → Prop := fun i _ v w' =>
        (i = 7 → ∃ bo d, v = .slice bo 2 d ∧ Sl w' 1 bo 2 d news ∧ ∀ g ∈ blk bo, wr.heap.size ≤ g) ∧
        (i = 8 → ∃ bo d, v = .slice bo (L.length + 2) d ∧ Own w' 5 1 bo (L.length + 2) d (L.map B ++ news) ∧ ∀ g ∈ blk bo, g ∈ blk ao ∨ wr.heap.size ≤ g)
      have : Nonempty (KW (blk ao) own wr) := ⟨⟨wr, Keep.refl _ _, ho⟩⟩
      refine wp_region_R (segR (blk ao) (fun i => if i = 8 then blk ao else []) own wr [7, 8] V (fun i k hk => ?_) (fun i j vs v wa wb hij k ⟨v1, v2⟩ => ⟨fun hj => ?_, fun hj => ?_⟩)) (by kernel_rfl) (segR_drew (ho.grow (Grow.drew wr))) ?_
      · split at hk
        · exact hk
        · simp at hk
      · obtain ⟨ao, c, hv, hsl, hb⟩ := v1 hj
        refine ⟨ao, c, hv, hsl.keep k fun g hg hm => ?_, hb⟩
        split at hm
        · have := hlt2 g hm; have := hb g hg; omega
        · simp at hm
      · obtain ⟨ao, c, hv, hown, hb⟩ := v2 hj
        rw [if_neg (by omega)] at k
        exact ⟨ao, c, hv, hown.keep k (by simp), hb⟩
      unfold segR
      repeat (first | (refine wpV_skp rfl rfl ?_; simp only [List.set_cons_succ, List.set_cons_zero]) | (refine wpV_look rfl rfl rfl rfl rfl (fun K hK => ?_); go_big_quiet_op; refine hK _ ?_; clear hK K))
      refine wpV_mk rfl rfl rfl [] rfl (fun vs w2 hC _ => ?_) (fun vs v w2 hC hV hF => ?_)
      · unfold yields
        go_simp
        obtain ⟨⟨w2, hk, hp2⟩, rfl⟩ := hC
        refine ⟨⟨Keep.alloc _ _ _, Own.grow hp2 (Grow.alloc _ _)⟩, fun _ => ⟨_, _, rfl, (Own.made (n := 2) (heap_alloc_new w2 _) rfl (by decide) (by simp [Value.oneCell'])).sl, ?_⟩, by simp⟩
        have := hk.size
        simpa [blk] using this
      obtain ⟨bo, d, rfl, -, -⟩ := hV.1 rfl
      clear hV hC hF w2
      simp only [List.set_cons_succ, List.set_cons_zero]
      refine wpV_mk rfl rfl rfl [7] (by kernel_rfl) (fun vs w2 hC hF => ?_) (fun vs v w2 hC hV hF => ?_)
      · obtain ⟨ao', c', e, hsl, hb⟩ := (hF 7 (by simp)).2 rfl |>.1 rfl
        cases e
        obtain ⟨⟨w2, hk, hp2⟩, rfl⟩ := hC
        obtain ⟨ao3, c3, w3, hr, h1, h2, h3, h4⟩ := run_app TBy w2 31 hp2 hsl (by unfold maxLen; omega) (by omega)
        refine yields_run (run_exec_append hr) ⟨⟨h3, h2⟩, by simp, fun _ => ⟨ao3, c3, rfl, h1, fun g hg => (h4 g hg).imp id fun h => ?_⟩⟩
        have := hk.size
        exact Nat.le_trans this h
      obtain ⟨bo2, d2, rfl, -, -⟩ := hV.2 rfl
      clear hV hC hF w2
      simp only [List.set_cons_succ, List.set_cons_zero]
      repeat (first | (refine wpV_skp rfl rfl ?_; simp only [List.set_cons_succ, List.set_cons_zero]) | (refine wpV_look rfl rfl rfl rfl rfl (fun K hK => ?_); go_big_quiet_op; refine hK _ ?_; clear hK K))
      refine wpV_nil ?_
      intro w7 hC hF
      obtain ⟨ao4, c4, e, hown4, hb4⟩ := (hF 8).2 rfl |>.2 rfl
      cases e
      obtain ⟨⟨w7, hk7, -⟩, rfl⟩ := hC
      clear hF hA hB
      have hgr := hg.then hk7 hb
      have hzz := hg.size
      go_wp2_with fail
      go_roundw
      case rel =>
        refine ⟨i + 1, L ++ [dA, dB], bo2, d2, by go_num, by simp, hnx, by omega, by simp; omega, by simpa [news] using hown4, hgr, fun g h => ?_⟩
        rcases hb4 g h with h | h
        · exact hb g h
        · omega
      case measure => simp [intOf]; omega
    · obtain rfl : i = 32 := by omega
      have hfin : str L = str (textS l) := by rw [hL.out, List.take_of_length_le (by omega)]
      have cv := run_str (d := 9) Try.underlying31 Try.underlying5 Try.underlying9 ho.sl
      rw [hfin] at cv
      have gg := g0.trans hg
      have h64 : L.length = 64 := by omega
      rw [h64] at cv
      clear hLl
      go_wp2_with fail
      exact gg
end Go.Proofs.Ytekfggeedljdkaa
