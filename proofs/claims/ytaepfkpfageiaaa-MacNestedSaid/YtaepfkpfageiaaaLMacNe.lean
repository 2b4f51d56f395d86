/- The walk of MacNested. -/
import Derived.Test.YtaepfkpfageiaaaMacAw
import Derived.Test.YtaepfkpfageiaaaTabE
import Derived.Test.YtaepfkpfageiaaaRsL
import Derived.Test.YtaepfkpfageiaaaEqA
import Derived.BigRegion
namespace Go.Proofs.Ytaepfkpfageiaaa
open Go Go.RowKit

theorem made2 (w : World) (Z : List Value) (hZ : Z = List.replicate 64 (.int .u8 0)) (e : TypeId) :
    Own ((w.alloc (.cells Z.toArray e)).alloc (.cells Z.toArray e)).drew e 1 (some ⟨w.heap.size, 0, none⟩) 64 64 (List.replicate 64 (.int .u8 0)) ∧ Own ((w.alloc (.cells Z.toArray e)).alloc (.cells Z.toArray e)).drew e 1 (some ⟨w.heap.size + 1, 0, none⟩) 64 64 (List.replicate 64 (.int .u8 0)) ∧ Grow w ((w.alloc (.cells Z.toArray e)).alloc (.cells Z.toArray e)).drew := by
  subst hZ
  have oa := (own_new (t := e) (n := 64) w (.int .u8 0) rfl (by decide)).grow (Grow.alloc _ (.cells (List.replicate 64 (.int .u8 0)).toArray e))
  have ob := own_new (t := e) (n := 64) (w.alloc (.cells (List.replicate 64 (.int .u8 0)).toArray e)) (.int .u8 0) rfl (by decide)
  rw [sz_al] at ob
  have gab := (Grow.alloc w (.cells (List.replicate 64 (.int .u8 0)).toArray e)).trans (Grow.alloc _ (.cells (List.replicate 64 (.int .u8 0)).toArray e))
  have kd := Keep.drew [] ((w.alloc (.cells (List.replicate 64 (.int .u8 0)).toArray e)).alloc (.cells (List.replicate 64 (.int .u8 0)).toArray e))
  exact ⟨oa.keep kd (by simp), ob.keep kd (by simp), gab.trans kd.grow⟩


set_option maxRecDepth 100000 in
set_option maxHeartbeats 1000000 in
theorem nest3 {c0 c1 c2 c3 c4 c5 c6 c7 c8 c9 c10 c11 c12 c13 c14 c15 c16 c17 c18 c19 c20 c21 c22 c23 c24 c25 c26 c27 c28 c29 c30 c31 c32 c33 c34 c35 c36 c37 c38 c39 c40 c41 c42 c43 c44 c45 c46 c47 c48 c49 c50 c51 c52 c53 c54 c55 c56 c57 c58 c59 c60 c61 c62 : Value} (w : World) {Q : Exit → Act → World → Prop}
    (hQ : ∀ (qa qb : Nat) (w' : World), qa ≠ qb → w.heap.size ≤ qa → w.heap.size ≤ qb → Own w' 5 1 (some ⟨qa, 0, none⟩) 64 64 (List.replicate 64 (.int .u8 0)) → Own w' 5 1 (some ⟨qb, 0, none⟩) 64 64 (List.replicate 64 (.int .u8 0)) → Grow w w' →
      Q .normal ⟨List.toArray (c0 :: c1 :: c2 :: c3 :: c4 :: .slice (some ⟨qa, 0, none⟩) 64 64 :: .slice (some ⟨qb, 0, none⟩) 64 64 :: c7 :: c8 :: c9 :: c10 :: c11 :: c12 :: c13 :: c14 :: c15 :: c16 :: c17 :: c18 :: c19 :: .slice (some ⟨qa, 0, none⟩) 64 64 :: .slice (some ⟨qb, 0, none⟩) 64 64 :: c22 :: c23 :: c24 :: c25 :: c26 :: c27 :: c28 :: c29 :: c30 :: c31 :: c32 :: c33 :: c34 :: c35 :: c36 :: c37 :: c38 :: c39 :: c40 :: c41 :: c42 :: c43 :: c44 :: c45 :: c46 :: c47 :: c48 :: c49 :: c50 :: c51 :: c52 :: c53 :: c54 :: c55 :: c56 :: c57 :: c58 :: c59 :: c60 :: c61 :: c62 :: []), []⟩ w') :
    Code.wp Try.prog (regionAt Try.f7 3) Q ⟨List.toArray (c0 :: c1 :: c2 :: c3 :: c4 :: c5 :: c6 :: c7 :: c8 :: c9 :: c10 :: c11 :: c12 :: c13 :: c14 :: c15 :: c16 :: c17 :: c18 :: c19 :: c20 :: c21 :: c22 :: c23 :: c24 :: c25 :: c26 :: c27 :: c28 :: c29 :: c30 :: c31 :: c32 :: c33 :: c34 :: c35 :: c36 :: c37 :: c38 :: c39 :: c40 :: c41 :: c42 :: c43 :: c44 :: c45 :: c46 :: c47 :: c48 :: c49 :: c50 :: c51 :: c52 :: c53 :: c54 :: c55 :: c56 :: c57 :: c58 :: c59 :: c60 :: c61 :: c62 :: []), []⟩ w := by
  have mk : ∀ w : World, (Instr.makeSlice 22 (.int .i64 64) (.int .i64 64)).run Try.prog w = .ok (.slice (some ⟨w.heap.size, 0, none⟩) 64 64) (w.alloc (.cells (List.replicate 64 (.int .u8 0)).toArray 5)) := make_bytes 64 (by decide)
  obtain ⟨Z, hZ⟩ : ∃ Z, Z = List.replicate 64 (Value.int .u8 0) := ⟨_, rfl⟩
  obtain ⟨oa, ob, g⟩ := made2 w Z hZ 5
  simp only [← hZ] at mk
  clear hZ
  conv => arg 2; whnf
  go_region
  all_goals first
    | exact hQ w.heap.size (w.heap.size + 1) _ (by omega) (by omega) (by omega) oa ob g
    | exact hQ (w.heap.size + 1) w.heap.size _ (by omega) (by omega) (by omega) ob oa g
    | trace_state


set_option maxRecDepth 100000 in
set_option maxHeartbeats 1000000 in
theorem nestL (ko : Option Addr) (kn kc : Nat) (kl : List UInt8) (hkl : kl.length ≤ 64) (hn : Hid (kn = kl.length)) (qa qb : Nat) (hab : qa ≠ qb) {c1 c2 c3 c4 c8 c9 c10 c11 c12 c13 c14 c15 c16 c17 c18 c19 c20 c21 c22 c23 c24 c25 c26 c27 c28 c29 c30 c31 c32 c33 c34 c35 c36 c37 c38 c39 c40 c41 c42 c43 c44 c45 c46 c47 c48 c49 c50 c51 c52 c53 c54 c55 c56 c57 c58 c59 c60 c61 c62 : Value} (w : World) (key : Sl w 1 ko kn kc (kl.map B)) (hd : ∀ g ∈ blkN ko kn, g ∉ [qa, qb])
    (oa : Own w 5 1 (some ⟨qa, 0, none⟩) 64 64 (List.replicate 64 (.int .u8 0))) (ob : Own w 5 1 (some ⟨qb, 0, none⟩) 64 64 (List.replicate 64 (.int .u8 0))) {Q : Exit → Act → World → Prop}
    (hQ : ∀ w' : World, Own w' 5 1 (some ⟨qa, 0, none⟩) 64 64 ((inK kl).map B) → Own w' 5 1 (some ⟨qb, 0, none⟩) 64 64 ((outK kl).map B) → Keep [qa, qb] w w' → ∀ {u7 u8 u22 u23 u24 u25 u26 u27 u28 u29 u30 u31 u32 u33 u34 u35 u36 u37 u38 u39 u40 u41 u42 u43 : Value}, Q .normal ⟨List.toArray (.slice ko kn kc :: c1 :: c2 :: c3 :: c4 :: .slice (some ⟨qa, 0, none⟩) 64 64 :: .slice (some ⟨qb, 0, none⟩) 64 64 :: u7 :: u8 :: c9 :: c10 :: c11 :: c12 :: c13 :: c14 :: c15 :: c16 :: c17 :: c18 :: c19 :: c20 :: c21 :: u22 :: u23 :: u24 :: u25 :: u26 :: u27 :: u28 :: u29 :: u30 :: u31 :: u32 :: u33 :: u34 :: u35 :: u36 :: u37 :: u38 :: u39 :: u40 :: u41 :: u42 :: u43 :: c44 :: c45 :: c46 :: c47 :: c48 :: c49 :: c50 :: c51 :: c52 :: c53 :: c54 :: c55 :: c56 :: c57 :: c58 :: c59 :: c60 :: c61 :: c62 :: []), []⟩ w') :
    Code.wp Try.prog (blockAt Try.f7 0) Q ⟨List.toArray (.slice ko kn kc :: c1 :: c2 :: c3 :: c4 :: .slice (some ⟨qa, 0, none⟩) 64 64 :: .slice (some ⟨qb, 0, none⟩) 64 64 :: .int .i64 0 :: c8 :: c9 :: c10 :: c11 :: c12 :: c13 :: c14 :: c15 :: c16 :: c17 :: c18 :: c19 :: c20 :: c21 :: c22 :: c23 :: c24 :: c25 :: c26 :: c27 :: c28 :: c29 :: c30 :: c31 :: c32 :: c33 :: c34 :: c35 :: c36 :: c37 :: c38 :: c39 :: c40 :: c41 :: c42 :: c43 :: c44 :: c45 :: c46 :: c47 :: c48 :: c49 :: c50 :: c51 :: c52 :: c53 :: c54 :: c55 :: c56 :: c57 :: c58 :: c59 :: c60 :: c61 :: c62 :: []), []⟩ w := by
  have hml : maxLen = 9223372036854775807 := rfl
  have hks := key.hle
  have hkm := key.hcap
  conv => arg 2; whnf
  refine wp_block ?_
  go_loopw [7] (fun vi wr => ∃ (i : Nat) (A C : List UInt8), vi = .int .i64 (i : Int) ∧ i ≤ 64 ∧ Hid (A = ((keyN kl).take i).map (· ^^^ 54) ∧ C = ((keyN kl).take i).map (· ^^^ 92)) ∧ Own wr 5 1 (some ⟨qa, 0, none⟩) 64 64 (A.map B ++ List.replicate (64 - i) (.int .u8 0)) ∧ Own wr 5 1 (some ⟨qb, 0, none⟩) 64 64 (C.map B ++ List.replicate (64 - i) (.int .u8 0)) ∧ Keep [qa, qb] w wr) (fun vi _ => 64 - (intOf vi).toNat)
  case atStart => exact ⟨0, [], [], by simp, by omega, Lib.hid ⟨rfl, rfl⟩, by simpa using oa, by simpa using ob, Keep.refl _ _⟩
  case round =>
    clear oa ob
    obtain ⟨i, A, C, rfl, hi, hAC, oa, ob, ki⟩ := hrel
    by_cases hlt : i < 64
    · obtain ⟨ch, hch⟩ : ∃ ch : UInt8, ch = if i < kl.length then kl.getD i 0 else 0 := ⟨_, rfl⟩
      have hat := keyN_at kl hkl i hlt
      rw [← hch] at hat
      have hnx : Hid (A ++ [ch ^^^ 54] = ((keyN kl).take (i + 1)).map (· ^^^ 54) ∧ C ++ [ch ^^^ 92] = ((keyN kl).take (i + 1)).map (· ^^^ 92)) := Lib.hid (by
        rw [take_snoc _ i ch hat, hAC.out.1, hAC.out.2]; simp)
      have lA : A.length = i := by rw [hAC.out.1, List.length_map, List.length_take, keyN_len]; omega
      have lC : C.length = i := by rw [hAC.out.2, List.length_map, List.length_take, keyN_len]; omega
      obtain ⟨g3, v, eg, hv, hfz, hset⟩ := own_put oa (i := i) (by omega)
      cases eg
      have oa2 := hset (B (ch ^^^ 54)) rfl
      rw [set_pad A 64 i lA hlt] at oa2
      have k1 := Keep.setCell (fp := [qa]) wr ⟨qa, i, none⟩ (by simp) (B (ch ^^^ 54))
      have ob1 := ob.keep k1 (by simp [blk]; exact fun e => hab e.symm)
      obtain ⟨g4, v2, eg, hv2, hfz2, hset2⟩ := own_put ob1 (i := i) (by omega)
      cases eg
      have ob2 := hset2 (B (ch ^^^ 92)) rfl
      rw [set_pad C 64 i lC hlt] at ob2
      have k2 := Keep.setCell (fp := [qb]) (wr.setCell ⟨qa, i, none⟩ (B (ch ^^^ 54))) ⟨qb, i, none⟩ (by simp) (B (ch ^^^ 92))
      have oa3 := oa2.keep k2 (by simp [blk]; exact hab)
      have k3 := (ki.trans (k1.mono (by simp))).trans (k2.mono (by simp))
      have e1 : bits BinOp.xor IntKind.u8 (ch.toNat : Int) 54 = (((ch ^^^ 54).toNat : Nat) : Int) := xor_val ch 54 (by decide)
      have e2 : bits BinOp.xor IntKind.u8 (ch.toNat : Int) 92 = (((ch ^^^ 92).toNat : Nat) : Int) := xor_val ch 92 (by decide)
      have kk := key.keepN ki hd
      simp only [B] at hv2 hfz2
      obtain ⟨x, hx⟩ : ∃ x, x = ch.toNat := ⟨_, rfl⟩
      obtain ⟨y1, hy1⟩ : ∃ x, x = ch ^^^ 54 := ⟨_, rfl⟩
      obtain ⟨y2, hy2⟩ : ∃ x, x = ch ^^^ 92 := ⟨_, rfl⟩
      rw [← hx] at e1 e2
      rw [← hy1] at e1 hnx oa3 ob2 k3 hv2 hfz2
      rw [← hy2] at e2 hnx oa3 ob2 k3
      clear hy1 hy2 hset hset2 oa2 ob1 k1 k2 lA lC hat ki oa ob hAC hQ
      by_cases hin : i < kl.length
      · rw [if_pos hin] at hch
        obtain ⟨g, off, eg, hc⟩ := kk.hat (by rw [hn.out]; omega)
        have hcell : wr.cell? ⟨g, off + i, none⟩ = some (.int .u8 (x : Int)) := hc.at (by rw [List.getElem?_map, List.getElem?_eq_getElem hin, hx, hch]; simp [B, List.getD_eq_getElem?_getD, hin])
        subst eg
        have hin2 : i < kn := by rw [hn.out]; exact hin
        clear hch hc hx hin kk
        go_wp2_with fail
        exact ⟨⟨i + 1, _, _, by go_num, by omega, hnx, oa3, ob2, k3⟩, by simp [intOf]; omega⟩
      · rw [if_neg hin] at hch
        have hx0 : x = 0 := by rw [hx, hch]; rfl
        subst hx0
        have e3 : bits BinOp.xor IntKind.u8 0 54 = (y1.toNat : Int) := e1
        have e4 : bits BinOp.xor IntKind.u8 0 92 = (y2.toNat : Int) := e2
        clear e1 e2
        have hin2 : ¬ i < kn := by rw [hn.out]; exact hin
        clear hch hx hin kk
        go_wp2_with fail
        exact ⟨⟨i + 1, _, _, by go_num, by omega, hnx, oa3, ob2, k3⟩, by simp [intOf]; omega⟩
    · obtain rfl : i = 64 := by omega
      have hA := hAC.out
      rw [List.take_of_length_le (by rw [keyN_len]; exact Nat.le_refl _)] at hA
      obtain ⟨rfl, rfl⟩ := hA
      simp only [Nat.sub_self, List.replicate_zero, List.append_nil] at oa ob
      clear hAC
      go_wp2_with fail
      exact hQ _ oa ob ki
end Go.Proofs.Ytaepfkpfageiaaa
