/- The document's Mac. -/
import Derived.Test.YtaepfkpfageiaaaMacG
import Derived.Test.YtaepfkpfageiaaaGTabE
import Derived.Test.YtaepfkpfageiaaaGRsL
import Derived.BigRegion
namespace Go.Proofs.Ytaepfkpfageiaaa
open Go Go.RowKit

theorem made2r (w : World) (Z : List Value) (hZ : Z = List.replicate 64 (.int .u8 0)) (e : TypeId) :
    Own ((w.alloc (.cells Z.toArray e)).alloc (.cells Z.toArray e)).drew e 1 (some ⟨w.heap.size, 0, none⟩) 64 64 (List.replicate 64 (.int .u8 0)) ∧ Own ((w.alloc (.cells Z.toArray e)).alloc (.cells Z.toArray e)).drew e 1 (some ⟨w.heap.size + 1, 0, none⟩) 64 64 (List.replicate 64 (.int .u8 0)) ∧ Grow w ((w.alloc (.cells Z.toArray e)).alloc (.cells Z.toArray e)).drew := by
  subst hZ
  have oa := (own_new (t := e) (n := 64) w (.int .u8 0) rfl (by decide)).grow (Grow.alloc _ (.cells (List.replicate 64 (.int .u8 0)).toArray e))
  have ob := own_new (t := e) (n := 64) (w.alloc (.cells (List.replicate 64 (.int .u8 0)).toArray e)) (.int .u8 0) rfl (by decide)
  rw [sz_al] at ob
  have gab := (Grow.alloc w (.cells (List.replicate 64 (.int .u8 0)).toArray e)).trans (Grow.alloc _ (.cells (List.replicate 64 (.int .u8 0)).toArray e))
  have kd := Keep.drew [] ((w.alloc (.cells (List.replicate 64 (.int .u8 0)).toArray e)).alloc (.cells (List.replicate 64 (.int .u8 0)).toArray e))
  exact ⟨oa.keep kd (by simp), ob.keep kd (by simp), gab.trans kd.grow⟩



set_option maxRecDepth 100000 in
set_option maxHeartbeats 1000000 in
theorem rMacPad (k0 : List UInt8) (hk0 : k0.length ≤ 64) (n : Nat) (hn : n = k0.length) (ao : Option Addr) (c : Nat) {c0 c1 c2 c3 c4 c5 c6 c8 c9 c10 c11 c12 c13 c14 c15 c16 c17 c18 c19 c20 c21 c22 c23 c24 c25 c26 c27 c28 c29 c30 c31 c32 c33 c34 c35 c36 c37 c38 c39 c40 c41 c42 c43 c44 c45 c46 c47 c48 c49 c50 c51 c52 c53 c54 c55 c56 c57 c58 c59 c60 c61 c62 : Value} (w0 w : World) (own : Own w 5 1 ao n c (k0.map B)) (fr : Fr (blk ao) w0) (g : Grow w0 w) {Q : Exit → Act → World → Prop}
    (hQ : ∀ (ao' : Option Addr) (c' : Nat) (w' : World), Own w' 5 1 ao' 64 c' ((k0 ++ List.replicate (64 - k0.length) 0).map B) → Fr (blk ao') w0 → Grow w0 w' → ∀ {u25 u26 u27 u28 u29 u30 : Value}, Q .normal ⟨List.toArray (c0 :: c1 :: c2 :: c3 :: c4 :: c5 :: c6 :: .slice ao' 64 c' :: c8 :: c9 :: c10 :: c11 :: c12 :: c13 :: c14 :: c15 :: c16 :: c17 :: c18 :: c19 :: c20 :: c21 :: c22 :: c23 :: c24 :: u25 :: u26 :: u27 :: u28 :: u29 :: u30 :: c31 :: c32 :: c33 :: c34 :: c35 :: c36 :: c37 :: c38 :: c39 :: c40 :: c41 :: c42 :: c43 :: c44 :: c45 :: c46 :: c47 :: c48 :: c49 :: c50 :: c51 :: c52 :: c53 :: c54 :: c55 :: c56 :: c57 :: c58 :: c59 :: c60 :: c61 :: c62 :: []), []⟩ w') :
    Code.wp Try.prog (blockAt Try.f23 0) Q ⟨List.toArray (c0 :: c1 :: c2 :: c3 :: c4 :: c5 :: c6 :: .slice ao n c :: c8 :: c9 :: c10 :: c11 :: c12 :: c13 :: c14 :: c15 :: c16 :: c17 :: c18 :: c19 :: c20 :: c21 :: c22 :: c23 :: c24 :: c25 :: c26 :: c27 :: c28 :: c29 :: c30 :: c31 :: c32 :: c33 :: c34 :: c35 :: c36 :: c37 :: c38 :: c39 :: c40 :: c41 :: c42 :: c43 :: c44 :: c45 :: c46 :: c47 :: c48 :: c49 :: c50 :: c51 :: c52 :: c53 :: c54 :: c55 :: c56 :: c57 :: c58 :: c59 :: c60 :: c61 :: c62 :: []), []⟩ w := by
  have hml : maxLen = 9223372036854775807 := rfl
  subst hn
  conv => arg 2; whnf
  refine wp_block ?_
  go_loopw [7] (fun vr wr => ∃ (L : List UInt8) (ro : Option Addr) (rc : Nat), vr = .slice ro L.length rc ∧ L.length ≤ 64 ∧ k0.length ≤ L.length ∧ Hid (L = k0 ++ List.replicate (L.length - k0.length) 0) ∧ Own wr 5 1 ro L.length rc (L.map B) ∧ Fr (blk ro) w0 ∧ Grow w0 wr) (fun vr _ => 64 - lenV vr)
  case atStart => exact ⟨k0, ao, c, rfl, hk0, Nat.le_refl _, Lib.hid (by simp), own, fr, g⟩
  case round =>
    clear own fr g
    obtain ⟨L, ro, rc, rfl, hL, hLk, hLe, ho, hf, hg⟩ := hrel
    by_cases hlt : L.length < 64
    · have hnx : Hid (L ++ [0] = k0 ++ List.replicate ((L ++ [0]).length - k0.length) 0) := Lib.hid (by
        have h := hLe.out
        rw [List.length_append, List.length_singleton, show L.length + 1 - k0.length = (L.length - k0.length) + 1 by omega, List.replicate_succ', ← List.append_assoc, ← h])
      clear hQ hLe
      go_wp2_with (at_builtin; refine wpList_app TBy rfl rfl (ho.grow (Grow.alloc _ _)) (Own.made (n := 1) (heap_alloc_new _ _) rfl (by decide) (by simp [Value.oneCell'])).sl (by omega) (by omega) ?_; intro ao' cap' w9 hown _ hkeep hblk)
      have hg2 := (hg.trans (Grow.alloc wr _)).then hkeep hf
      have hf2 : Fr (blk ao') w0 := fun y hy => by
        rcases hblk y hy with h | h
        · exact hf y h
        · have := hg.size; simp at h; omega
      have e1 : L.length + 1 = (L ++ [0]).length := by simp
      have e2 : ∀ v : Value, v = B 0 → L.map B ++ [v] = (L ++ [0]).map B := by rintro v rfl; simp
      rw [e1] at hown ⊢
      clear hkeep hblk ho hf hg
      go_roundw
      case rel => exact ⟨L ++ [0], ao', cap', rfl, by simp; omega, by simp; omega, hnx, by simpa [B] using hown, hf2, hg2⟩
      case measure => simp [lenV]; omega
    · have h64 : L.length = 64 := by omega
      have hLL := hLe.out
      rw [h64] at hLL ho ⊢
      rw [hLL] at ho
      clear hLe hLL
      go_wp2_with fail
      exact hQ _ _ _ ho hf hg


set_option maxRecDepth 100000 in
set_option maxHeartbeats 1000000 in
theorem rMac7 {c0 c1 c2 c3 c4 c5 c6 c7 c8 c9 c10 c11 c12 c13 c14 c15 c16 c17 c18 c19 c20 c21 c22 c23 c24 c25 c26 c27 c28 c29 c30 c31 c32 c33 c34 c35 c36 c37 c38 c39 c40 c41 c42 c43 c44 c45 c46 c47 c48 c49 c50 c51 c52 c53 c54 c55 c56 c57 c58 c59 c60 c61 c62 : Value} (w : World) {Q : Exit → Act → World → Prop}
    (hQ : ∀ (qa qb : Nat) (w' : World), qa ≠ qb → w.heap.size ≤ qa → w.heap.size ≤ qb → Own w' 5 1 (some ⟨qa, 0, none⟩) 64 64 (List.replicate 64 (.int .u8 0)) → Own w' 5 1 (some ⟨qb, 0, none⟩) 64 64 (List.replicate 64 (.int .u8 0)) → Grow w w' →
      Q .normal ⟨List.toArray (c0 :: c1 :: c2 :: c3 :: c4 :: c5 :: c6 :: c7 :: c8 :: .slice (some ⟨qa, 0, none⟩) 64 64 :: .slice (some ⟨qb, 0, none⟩) 64 64 :: c11 :: c12 :: c13 :: c14 :: c15 :: c16 :: c17 :: c18 :: c19 :: c20 :: c21 :: c22 :: c23 :: c24 :: c25 :: c26 :: c27 :: c28 :: c29 :: c30 :: .slice (some ⟨qa, 0, none⟩) 64 64 :: .slice (some ⟨qb, 0, none⟩) 64 64 :: c33 :: c34 :: c35 :: c36 :: c37 :: c38 :: c39 :: c40 :: c41 :: c42 :: c43 :: c44 :: c45 :: c46 :: c47 :: c48 :: c49 :: c50 :: c51 :: c52 :: c53 :: c54 :: c55 :: c56 :: c57 :: c58 :: c59 :: c60 :: c61 :: c62 :: []), []⟩ w') :
    Code.wp Try.prog (regionAt Try.f23 7) Q ⟨List.toArray (c0 :: c1 :: c2 :: c3 :: c4 :: c5 :: c6 :: c7 :: c8 :: c9 :: c10 :: c11 :: c12 :: c13 :: c14 :: c15 :: c16 :: c17 :: c18 :: c19 :: c20 :: c21 :: c22 :: c23 :: c24 :: c25 :: c26 :: c27 :: c28 :: c29 :: c30 :: c31 :: c32 :: c33 :: c34 :: c35 :: c36 :: c37 :: c38 :: c39 :: c40 :: c41 :: c42 :: c43 :: c44 :: c45 :: c46 :: c47 :: c48 :: c49 :: c50 :: c51 :: c52 :: c53 :: c54 :: c55 :: c56 :: c57 :: c58 :: c59 :: c60 :: c61 :: c62 :: []), []⟩ w := by
  have mk : ∀ w : World, (Instr.makeSlice 22 (.int .i64 64) (.int .i64 64)).run Try.prog w = .ok (.slice (some ⟨w.heap.size, 0, none⟩) 64 64) (w.alloc (.cells (List.replicate 64 (.int .u8 0)).toArray 5)) := make_bytes 64 (by decide)
  obtain ⟨Z, hZ⟩ : ∃ Z, Z = List.replicate 64 (Value.int .u8 0) := ⟨_, rfl⟩
  obtain ⟨oa, ob, g⟩ := made2r w Z hZ 5
  simp only [← hZ] at mk
  clear hZ
  conv => arg 2; whnf
  go_region
  all_goals first
    | exact hQ w.heap.size (w.heap.size + 1) _ (by omega) (by omega) (by omega) oa ob g
    | exact hQ (w.heap.size + 1) w.heap.size _ (by omega) (by omega) (by omega) ob oa g
    | trace_state


set_option maxRecDepth 100000 in
set_option maxHeartbeats 1000000 in
theorem rMacL (ko : Option Addr) (kc : Nat) (kl : List UInt8) (hkl : kl.length = 64) (qa qb : Nat) (hab : qa ≠ qb) {c0 c1 c2 c3 c4 c5 c6 c8 c12 c13 c14 c15 c16 c17 c18 c19 c20 c21 c22 c23 c24 c25 c26 c27 c28 c29 c30 c31 c32 c33 c34 c35 c36 c37 c38 c39 c40 c41 c42 c43 c44 c45 c46 c47 c48 c49 c50 c51 c52 c53 c54 c55 c56 c57 c58 c59 c60 c61 c62 : Value} (w : World) (key : Sl w 1 ko 64 kc (kl.map B)) (hd : ∀ g ∈ blk ko, g ∉ [qa, qb])
    (oa : Own w 5 1 (some ⟨qa, 0, none⟩) 64 64 (List.replicate 64 (.int .u8 0))) (ob : Own w 5 1 (some ⟨qb, 0, none⟩) 64 64 (List.replicate 64 (.int .u8 0))) {Q : Exit → Act → World → Prop}
    (hQ : ∀ w' : World, Own w' 5 1 (some ⟨qa, 0, none⟩) 64 64 ((kl.map (· ^^^ 54)).map B) → Own w' 5 1 (some ⟨qb, 0, none⟩) 64 64 ((kl.map (· ^^^ 92)).map B) → Keep [qa, qb] w w' → ∀ {u11 u33 u34 u35 u36 u37 u38 u39 u40 u41 u42 u43 u44 u45 u46 u47 u48 u49 u50 u51 u52 : Value}, Q .normal ⟨List.toArray (c0 :: c1 :: c2 :: c3 :: c4 :: c5 :: c6 :: .slice ko 64 kc :: c8 :: .slice (some ⟨qa, 0, none⟩) 64 64 :: .slice (some ⟨qb, 0, none⟩) 64 64 :: u11 :: c12 :: c13 :: c14 :: c15 :: c16 :: c17 :: c18 :: c19 :: c20 :: c21 :: c22 :: c23 :: c24 :: c25 :: c26 :: c27 :: c28 :: c29 :: c30 :: c31 :: c32 :: u33 :: u34 :: u35 :: u36 :: u37 :: u38 :: u39 :: u40 :: u41 :: u42 :: u43 :: u44 :: u45 :: u46 :: u47 :: u48 :: u49 :: u50 :: u51 :: u52 :: c53 :: c54 :: c55 :: c56 :: c57 :: c58 :: c59 :: c60 :: c61 :: c62 :: []), []⟩ w') :
    Code.wp Try.prog (blockAt Try.f23 2) Q ⟨List.toArray (c0 :: c1 :: c2 :: c3 :: c4 :: c5 :: c6 :: .slice ko 64 kc :: c8 :: .slice (some ⟨qa, 0, none⟩) 64 64 :: .slice (some ⟨qb, 0, none⟩) 64 64 :: .int .i64 0 :: c12 :: c13 :: c14 :: c15 :: c16 :: c17 :: c18 :: c19 :: c20 :: c21 :: c22 :: c23 :: c24 :: c25 :: c26 :: c27 :: c28 :: c29 :: c30 :: c31 :: c32 :: c33 :: c34 :: c35 :: c36 :: c37 :: c38 :: c39 :: c40 :: c41 :: c42 :: c43 :: c44 :: c45 :: c46 :: c47 :: c48 :: c49 :: c50 :: c51 :: c52 :: c53 :: c54 :: c55 :: c56 :: c57 :: c58 :: c59 :: c60 :: c61 :: c62 :: []), []⟩ w := by
  have hml : maxLen = 9223372036854775807 := rfl
  have hks := key.hle
  have hkm := key.hcap
  obtain ⟨gk, off, eg, -⟩ := key.hat (by decide)
  subst eg
  have hgk : gk ≠ qa ∧ gk ≠ qb := by
    have := hd gk (by simp [blk])
    simpa using this
  conv => arg 2; whnf
  refine wp_block ?_
  go_loopw [11] (fun vi wr => ∃ (i : Nat) (A C : List UInt8), vi = .int .i64 (i : Int) ∧ i ≤ 64 ∧ Hid (A = (kl.take i).map (· ^^^ 54) ∧ C = (kl.take i).map (· ^^^ 92)) ∧ Own wr 5 1 (some ⟨qa, 0, none⟩) 64 64 (A.map B ++ List.replicate (64 - i) (.int .u8 0)) ∧ Own wr 5 1 (some ⟨qb, 0, none⟩) 64 64 (C.map B ++ List.replicate (64 - i) (.int .u8 0)) ∧ Keep [qa, qb] w wr) (fun vi _ => 64 - (intOf vi).toNat)
  case atStart => exact ⟨0, [], [], by simp, by omega, Lib.hid ⟨rfl, rfl⟩, by simpa using oa, by simpa using ob, Keep.refl _ _⟩
  case round =>
    clear oa ob
    obtain ⟨i, A, C, rfl, hi, hAC, oa, ob, ki⟩ := hrel
    by_cases hlt : i < 64
    · obtain ⟨ch, hch⟩ : ∃ ch : UInt8, ch = kl[i]'(by omega) := ⟨_, rfl⟩
      have hat : kl[i]? = some ch := by rw [hch]; simp
      have hnx : Hid (A ++ [ch ^^^ 54] = (kl.take (i + 1)).map (· ^^^ 54) ∧ C ++ [ch ^^^ 92] = (kl.take (i + 1)).map (· ^^^ 92)) := Lib.hid (by
        rw [take_snoc _ i ch hat, hAC.out.1, hAC.out.2]; simp)
      have lA : A.length = i := by rw [hAC.out.1, List.length_map, List.length_take]; omega
      have lC : C.length = i := by rw [hAC.out.2, List.length_map, List.length_take]; omega
      have hkey := key.keep ki (by simp [blk, hgk.1, hgk.2])
      obtain ⟨g5, off5, eg, hc⟩ := hkey.hat (by decide)
      cases eg
      have c1 : wr.cell? ⟨gk, off + i, none⟩ = some (.int .u8 (ch.toNat : Int)) := hc.at (by rw [List.getElem?_map, hat]; rfl)
      obtain ⟨g3, v, eg, hv, hfz, hset⟩ := own_put oa (i := i) (by omega)
      cases eg
      have oa2 := hset (B (ch ^^^ 54)) rfl
      rw [set_pad A 64 i lA hlt] at oa2
      have k1 := Keep.setCell (fp := [qa]) wr ⟨qa, i, none⟩ (by simp) (B (ch ^^^ 54))
      have ob1 := ob.keep k1 (by simp [blk]; exact fun e => hab e.symm)
      have hkey2 := hkey.keep k1 (by simp [blk, hgk.1])
      obtain ⟨g5, off5, eg, hc2⟩ := hkey2.hat (by decide)
      cases eg
      have c2 : (wr.setCell ⟨qa, i, none⟩ (B (ch ^^^ 54))).cell? ⟨gk, off + i, none⟩ = some (.int .u8 (ch.toNat : Int)) := hc2.at (by rw [List.getElem?_map, hat]; rfl)
      obtain ⟨g4, v2, eg, hv2, hfz2, hset2⟩ := own_put ob1 (i := i) (by omega)
      cases eg
      have ob2 := hset2 (B (ch ^^^ 92)) rfl
      rw [set_pad C 64 i lC hlt] at ob2
      have k2 := Keep.setCell (fp := [qb]) (wr.setCell ⟨qa, i, none⟩ (B (ch ^^^ 54))) ⟨qb, i, none⟩ (by simp) (B (ch ^^^ 92))
      have oa3 := oa2.keep k2 (by simp [blk]; exact hab)
      have k3 := (ki.trans (k1.mono (by simp))).trans (k2.mono (by simp))
      have e1 : bits BinOp.xor IntKind.u8 (ch.toNat : Int) 54 = (((ch ^^^ 54).toNat : Nat) : Int) := xor_val ch 54 (by decide)
      have e2 : bits BinOp.xor IntKind.u8 (ch.toNat : Int) 92 = (((ch ^^^ 92).toNat : Nat) : Int) := xor_val ch 92 (by decide)
      simp only [B] at hv2 hfz2 c2
      obtain ⟨x, hx⟩ : ∃ x, x = ch.toNat := ⟨_, rfl⟩
      obtain ⟨y1, hy1⟩ : ∃ x, x = ch ^^^ 54 := ⟨_, rfl⟩
      obtain ⟨y2, hy2⟩ : ∃ x, x = ch ^^^ 92 := ⟨_, rfl⟩
      rw [← hx] at e1 e2 c1 c2
      rw [← hy1] at e1 hnx oa3 ob2 k3 hv2 hfz2 c2
      rw [← hy2] at e2 hnx oa3 ob2 k3
      clear hx hy1 hy2 hset hset2 oa2 ob1 k1 k2 lA lC hat ki oa ob hAC hQ hkey hkey2 hc hc2 hch
      go_wp2_with fail
      exact ⟨⟨i + 1, _, _, by go_num, by omega, hnx, oa3, ob2, k3⟩, by simp [intOf]; omega⟩
    · obtain rfl : i = 64 := by omega
      have hA := hAC.out
      rw [List.take_of_length_le (by omega)] at hA
      obtain ⟨rfl, rfl⟩ := hA
      simp only [Nat.sub_self, List.replicate_zero, List.append_nil] at oa ob
      clear hAC
      go_wp2_with fail
      exact hQ _ oa ob ki


set_option maxRecDepth 100000 in
set_option maxHeartbeats 2000000 in
theorem rMacC (p : Nat) (w : World) (sm : Sm w p Hs Ks) (ko : Option Addr) (kc : Nat) (key : List UInt8) (sk : Sl w 1 ko key.length kc (key.map B)) (hkl : key.length ≤ 900000) (bo : Option Addr) (c : Nat) (text : List UInt8) (sb : Sl w 1 bo text.length c (text.map B)) (htl : text.length ≤ 900000)
    (R : Ending → World → Prop) (hR : ∀ w', Grow w w' → R (.returned (.agg ((macS key text).map B).toArray)) w') :
    Calls Try.prog 23 #[.pointer (some ⟨p, 0, none⟩), .slice ko key.length kc, .slice bo text.length c] w R := by
  have hml : maxLen = 9223372036854775807 := rfl
  have hHlt : ∀ x ∈ Hs, x < 4294967296 := Hs_lt
  have hsum := fun bo c L w sm sb hl R hR => rSumC p Hs Ks hHlt bo c L w sm sb hl R hR
  have hdef : ∀ l, sumOf Hs Ks l = sumS l := fun l => rfl
  simp only [hdef] at hsum
  have hil := inK_len key
  have hol := outK_len key
  have h32 := sumS_len (inK key ++ text)
  have hM32 := macS_len key text
  have hK32 := sumS_len key
  have hsum0 := fun bo c w' sm sb => hsum bo c key w' sm sb (by omega)
  have hsum1 := fun bo c w' sm sb => hsum bo c (inK key ++ text) w' sm sb (by rw [List.length_append]; omega)
  have hsum2 := fun bo c w' sm sb => hsum bo c (outK key ++ sumS (inK key ++ text)) w' sm sb (by rw [List.length_append]; omega)
  have e0 : sumS (outK key ++ sumS (inK key ++ text)) = macS key text := rfl
  rw [e0] at hsum2
  simp only [List.length_append, hil, hol, h32] at hsum1 hsum2
  have hkn : Hid (keyN key = (if 64 < key.length then sumS key else key) ++ List.replicate (64 - (if 64 < key.length then sumS key else key).length) 0) := Lib.hid rfl
  generalize Hs = H at *
  generalize Ks = K at *
  obtain ⟨S1, hS1⟩ : ∃ S, S = sumS (inK key ++ text) := ⟨_, rfl⟩
  obtain ⟨S0, hS0⟩ : ∃ S, S = sumS key := ⟨_, rfl⟩
  obtain ⟨A, hA⟩ : ∃ A, A = (macS key text).map B := ⟨_, rfl⟩
  rw [← hS1] at hsum1 hsum2 h32
  rw [← hS0] at hsum0 hkn hK32
  simp only [← hA] at hsum2 hR
  have hA1 : ∀ v ∈ A, v.oneCell' = true := by rw [hA]; exact B_one _
  have hAl : A.length = 32 := by rw [hA, List.length_map]; exact hM32
  have HS1 : ∀ v ∈ S1.map B, v.oneCell' = true := B_one _
  have hS1l : (S1.map B).length = 32 := by rw [List.length_map]; exact h32
  have HS0 : ∀ v ∈ S0.map B, v.oneCell' = true := B_one _
  have hS0l : (S0.map B).length = 32 := by rw [List.length_map]; exact hK32
  have i32 : (Try.prog.info? 27).map (·.size) = some 32 := by kernel_rfl
  have hpl := smlt sm
  clear hA hM32 e0 hdef hHlt hsum hS1 hS0 hil hol h32
  have o6 : Own (w.alloc (.cells (List.replicate 32 (.int .u8 0)).toArray 27)) 27 1 (some ⟨w.heap.size, 0, none⟩) 32 32 (List.replicate 32 (.int .u8 0)) := own_new w _ rfl (by omega)
  have ga := Grow.alloc w (.cells (List.replicate 32 (.int .u8 0)).toArray 27)
  go_enter Try.func23, Try.ntmps23
  go_upto_region 1 with (fail)
  change Code.wp _ _ _ ⟨_, _⟩ (w.alloc (.cells (List.replicate 32 (.int .u8 0)).toArray 27))
  have sk1 := sk.grow ga
  have sb1 := sb.grow ga
  have sm1 : Sm (w.alloc (.cells (List.replicate 32 (.int .u8 0)).toArray 27)) p H K := ⟨sm.1.keep (Keep.of_grow [] ga) (by simp), sm.2⟩
  have hsz1 := ga.size
  obtain ⟨q6, hq6⟩ : ∃ q, q = w.heap.size := ⟨_, rfl⟩
  generalize w.alloc (.cells (List.replicate 32 (.int .u8 0)).toArray 27) = w1 at *
  rw [← hq6] at o6 ⊢
  have Hq6 := Lib.hid hq6
  have hp1 : p < w1.heap.size := by omega
  clear hq6 sm sk sb hpl hsz1
  have o0 : Own (w1.alloc (.cells #[] 5)) 5 1 (some ⟨w1.heap.size, 0, none⟩) 0 0 [] := Own.made (n := 0) (heap_alloc_new w1 _) rfl (by decide) (by simp)
  have g0 := Grow.alloc w1 (.cells #[] 5)
  go_upto_region 2 with (at_builtin; refine wpList_app TBy rfl rfl o0 (sk1.grow g0) (by omega) (by omega) ?_; intro ao1 cap1 w2 o7 _ kp blk1; simp only [Nat.zero_add, List.nil_append] at o7)
  have f7 : Fr (blk ao1) w1 := fun y hy => by
    rcases blk1 y hy with h | h
    · simp [blk] at h; omega
    · simp at h; omega
  have g2 : Grow w1 w2 := g0.then kp (fun y hy => by simp [blk] at hy; omega)
  clear o0 g0 kp blk1 sk1
  by_cases h64 : 64 < key.length
  · have hd : decide (64 < (key.length : Int)) = true := by simp; omega
    rw [if_pos h64] at hkn
    have hc0 := hsum0 ao1 cap1 w2 ⟨sm1.1.keep (Keep.of_grow [] g2) (by simp), sm1.2⟩ o7.sl
    clear h64 hsum0
    go_wp2_with fail
    refine hc0 _ ?_
    clear hc0 o7
    intro w3 g3
    have G3 := g2.trans g3
    obtain ⟨o8, ga3, th3, al3⟩ := newvar (t := 27) w3 (.int .u8 0) rfl (by omega) hS0l HS0
    have hsz0 : (Try.prog.info? 27).map (·.size) = some (S0.map B).toArray.size := by rw [List.size_toArray, hS0l]; exact i32
    go_upto_region 4 with (refine wpList_store_mid rfl 27 _ _ rfl w3.heap.size 0 (S0.map B).toArray rfl rfl th3 hsz0 al3 ?_)
    change Code.wp _ _ _ ⟨_, _⟩ ((w3.alloc (.cells (List.replicate 32 (.int .u8 0)).toArray 27)).setCells w3.heap.size 0 (S0.map B))
    have G4 := G3.trans ga3
    obtain ⟨q8, hq8⟩ : ∃ q, q = w3.heap.size := ⟨_, rfl⟩
    generalize (w3.alloc (.cells (List.replicate 32 (.int .u8 0)).toArray 27)).setCells w3.heap.size 0 (S0.map B) = w4 at *
    rw [← hq8] at o8 ⊢
    clear hq8 th3 al3 ga3 G3 g3 g2 f7
    have so := o8.sl
    have o0 : Own (w4.alloc (.cells #[] 5)) 5 1 (some ⟨w4.heap.size, 0, none⟩) 0 0 [] := Own.made (n := 0) (heap_alloc_new w4 _) rfl (by decide) (by simp)
    have g0 := Grow.alloc w4 (.cells #[] 5)
    go_upto_block 0 with (at_builtin; refine wpList_app TBy rfl rfl o0 (so.grow g0) (by omega) (by omega) ?_; intro ao2 cap2 w5 o7 _ kp blk1; simp only [Nat.zero_add, List.nil_append] at o7)
    have f7 : Fr (blk ao2) w1 := fun y hy => by
      have := G4.size
      rcases blk1 y hy with h | h
      · simp [blk] at h; omega
      · simp at h; omega
    have g5 : Grow w1 w5 := G4.trans (g0.then kp (fun y hy => by simp [blk] at hy; omega))
    clear o0 g0 kp blk1 so o8 G4 hd
    refine rMacPad S0 (by omega) 32 hK32.symm ao2 cap2 w1 w5 o7 f7 g5 ?_
    intro ao c' w6 o9 f9 g6
    rw [← hkn.out] at o9
    intros
    clear o7 f7 g5
    go_upto_region 7 with (fail)
    refine rMac7 w6 ?_
    intro qa qb w7 hab ha hb oa ob g7
    go_upto_block 2 with (fail)
    refine rMacL ao c' (keyN key) (keyN_len key) qa qb hab w7 (o9.sl.grow g7) (fun g hg => by have := o9.lt g hg; simp; omega) oa ob ?_
    intro w8 oa8 ob8 k8
    intros
    change Own w8 _ _ _ _ _ ((inK key).map B) at oa8
    change Own w8 _ _ _ _ _ ((outK key).map B) at ob8
    have hs6 := g6.size
    have G8 : Grow w1 w8 := (g6.trans g7).then k8 (fun x hx => by simp at hx; omega)
    have hpa : p ≠ qa := by omega
    have hpb : p ≠ qb := by omega
    have sm8 : Sm w8 p H K := ⟨sm1.1.keep (Keep.of_grow [] G8) (by simp), sm1.2⟩
    clear oa ob k8 g7 g6 o9 f9
    go_wp2_with (at_builtin; refine wpList_app TBy rfl rfl oa8 (sb1.grow G8) (by omega) (by omega) ?_; intro ao3 cap3 w9 own9 _ kp9 blk9; rw [← List.map_append] at own9)
    have G9 : Grow w1 w9 := G8.then kp9 (fun x hx => by simp [blk] at hx; omega)
    have ob9 := ob8.keep kp9 (by simp [blk]; exact fun e => hab e.symm)
    have sm9 : Sm w9 p H K := ⟨sm8.1.keep kp9 (by simp [blk]; exact hpa), sm8.2⟩
    have hc1 := hsum1 ao3 cap3 w9 sm9 own9.sl
    clear own9 kp9 blk9 oa8 ob8 G8 sm8 hsum1
    refine hc1 _ ?_
    clear hc1
    intro w10 g10
    have G10 := G9.trans g10
    have ob10 := ob9.grow g10
    have sm10 : Sm w10 p H K := ⟨sm9.1.keep (Keep.of_grow [] g10) (by simp), sm9.2⟩
    clear G9 ob9 sm9 g10
    obtain ⟨o12, ga1, th1, al1⟩ := newvar (t := 27) w10 (.int .u8 0) rfl (by omega) hS1l HS1
    have hszF : (Try.prog.info? 27).map (·.size) = some (S1.map B).toArray.size := by rw [List.size_toArray, hS1l]; exact i32
    go_upto_region 14 with (refine wpList_store_mid rfl 27 _ _ rfl w10.heap.size 0 (S1.map B).toArray rfl rfl th1 hszF al1 ?_)
    change Code.wp _ _ _ ⟨_, _⟩ ((w10.alloc (.cells (List.replicate 32 (.int .u8 0)).toArray 27)).setCells w10.heap.size 0 (S1.map B))
    have G11 := G10.trans ga1
    have ob11 := ob10.grow ga1
    have sm11 : Sm _ p H K := ⟨sm10.1.keep (Keep.of_grow [] ga1) (by simp), sm10.2⟩
    clear th1 al1 ga1 G10 ob10 sm10
    obtain ⟨q, hq⟩ : ∃ q, q = w10.heap.size := ⟨_, rfl⟩
    generalize (w10.alloc (.cells (List.replicate 32 (.int .u8 0)).toArray 27)).setCells w10.heap.size 0 (S1.map B) = w11 at *
    rw [← hq] at o12 ⊢
    clear hq
    have so := o12.sl
    clear o12
    go_wp2_with (at_builtin; refine wpList_app TBy rfl rfl ob11 so (by omega) (by omega) ?_; intro ao4 cap4 w12 own12 _ kp12 blk12; rw [← List.map_append] at own12)
    have G12 : Grow w1 w12 := G11.then kp12 (fun x hx => by simp [blk] at hx; omega)
    have sm12 : Sm w12 p H K := ⟨sm11.1.keep kp12 (by simp [blk]; exact hpb), sm11.2⟩
    have hc2 := hsum2 ao4 cap4 w12 sm12 own12.sl
    clear own12 kp12 blk12 ob11 G11 sm11 hsum2 so
    refine hc2 _ ?_
    clear hc2
    intro w13 g13
    have G13 := G12.trans g13
    obtain ⟨r1, r3, r4⟩ := store_arr (P := Try.prog) hAl hA1 (o6.grow G13) i32
    have hf := hR _ ((ga.trans G13).then r4 (fun x hx => by simp at hx; have := Hq6.out; omega))
    have hth := own_there (o6.grow G13) A.toArray.size (by simpa using hAl)
    have hsz : (Try.prog.info? 27).map (·.size) = some A.toArray.size := by rw [List.size_toArray, hAl]; exact i32
    have hall := one_all hA1
    clear hR r1 r4 sm12 G12 g13
    go_wp2_with ((with_reducible show wpList _ _ _ _ _ _); refine wpList_store_mid rfl 27 _ _ rfl q6 0 A.toArray rfl rfl hth hsz hall ?_)
    exact bodyPost_ret (v := .agg A.toArray) (ret_bytes Try.results23 _ _ q6 A _ _ 32 rfl r3 (by decide) Try.underlying27 rfl i32) rfl hf
  · have hd : decide (64 < (key.length : Int)) = false := by simp; omega
    rw [if_neg h64] at hkn
    have h64' : key.length ≤ 64 := by omega
    clear hsum0 h64
    go_upto_block 0 with (fail)
    refine rMacPad key h64' key.length rfl ao1 cap1 w1 w2 o7 f7 g2 ?_
    intro ao c' w6 o9 f9 g6
    rw [← hkn.out] at o9
    intros
    clear o7 f7 g2 hd
    go_upto_region 7 with (fail)
    refine rMac7 w6 ?_
    intro qa qb w7 hab ha hb oa ob g7
    go_upto_block 2 with (fail)
    refine rMacL ao c' (keyN key) (keyN_len key) qa qb hab w7 (o9.sl.grow g7) (fun g hg => by have := o9.lt g hg; simp; omega) oa ob ?_
    intro w8 oa8 ob8 k8
    intros
    change Own w8 _ _ _ _ _ ((inK key).map B) at oa8
    change Own w8 _ _ _ _ _ ((outK key).map B) at ob8
    have hs6 := g6.size
    have G8 : Grow w1 w8 := (g6.trans g7).then k8 (fun x hx => by simp at hx; omega)
    have hpa : p ≠ qa := by omega
    have hpb : p ≠ qb := by omega
    have sm8 : Sm w8 p H K := ⟨sm1.1.keep (Keep.of_grow [] G8) (by simp), sm1.2⟩
    clear oa ob k8 g7 g6 o9 f9
    go_wp2_with (at_builtin; refine wpList_app TBy rfl rfl oa8 (sb1.grow G8) (by omega) (by omega) ?_; intro ao3 cap3 w9 own9 _ kp9 blk9; rw [← List.map_append] at own9)
    have G9 : Grow w1 w9 := G8.then kp9 (fun x hx => by simp [blk] at hx; omega)
    have ob9 := ob8.keep kp9 (by simp [blk]; exact fun e => hab e.symm)
    have sm9 : Sm w9 p H K := ⟨sm8.1.keep kp9 (by simp [blk]; exact hpa), sm8.2⟩
    have hc1 := hsum1 ao3 cap3 w9 sm9 own9.sl
    clear own9 kp9 blk9 oa8 ob8 G8 sm8 hsum1
    refine hc1 _ ?_
    clear hc1
    intro w10 g10
    have G10 := G9.trans g10
    have ob10 := ob9.grow g10
    have sm10 : Sm w10 p H K := ⟨sm9.1.keep (Keep.of_grow [] g10) (by simp), sm9.2⟩
    clear G9 ob9 sm9 g10
    obtain ⟨o12, ga1, th1, al1⟩ := newvar (t := 27) w10 (.int .u8 0) rfl (by omega) hS1l HS1
    have hszF : (Try.prog.info? 27).map (·.size) = some (S1.map B).toArray.size := by rw [List.size_toArray, hS1l]; exact i32
    go_upto_region 14 with (refine wpList_store_mid rfl 27 _ _ rfl w10.heap.size 0 (S1.map B).toArray rfl rfl th1 hszF al1 ?_)
    change Code.wp _ _ _ ⟨_, _⟩ ((w10.alloc (.cells (List.replicate 32 (.int .u8 0)).toArray 27)).setCells w10.heap.size 0 (S1.map B))
    have G11 := G10.trans ga1
    have ob11 := ob10.grow ga1
    have sm11 : Sm _ p H K := ⟨sm10.1.keep (Keep.of_grow [] ga1) (by simp), sm10.2⟩
    clear th1 al1 ga1 G10 ob10 sm10
    obtain ⟨q, hq⟩ : ∃ q, q = w10.heap.size := ⟨_, rfl⟩
    generalize (w10.alloc (.cells (List.replicate 32 (.int .u8 0)).toArray 27)).setCells w10.heap.size 0 (S1.map B) = w11 at *
    rw [← hq] at o12 ⊢
    clear hq
    have so := o12.sl
    clear o12
    go_wp2_with (at_builtin; refine wpList_app TBy rfl rfl ob11 so (by omega) (by omega) ?_; intro ao4 cap4 w12 own12 _ kp12 blk12; rw [← List.map_append] at own12)
    have G12 : Grow w1 w12 := G11.then kp12 (fun x hx => by simp [blk] at hx; omega)
    have sm12 : Sm w12 p H K := ⟨sm11.1.keep kp12 (by simp [blk]; exact hpb), sm11.2⟩
    have hc2 := hsum2 ao4 cap4 w12 sm12 own12.sl
    clear own12 kp12 blk12 ob11 G11 sm11 hsum2 so
    refine hc2 _ ?_
    clear hc2
    intro w13 g13
    have G13 := G12.trans g13
    obtain ⟨r1, r3, r4⟩ := store_arr (P := Try.prog) hAl hA1 (o6.grow G13) i32
    have hf := hR _ ((ga.trans G13).then r4 (fun x hx => by simp at hx; have := Hq6.out; omega))
    have hth := own_there (o6.grow G13) A.toArray.size (by simpa using hAl)
    have hsz : (Try.prog.info? 27).map (·.size) = some A.toArray.size := by rw [List.size_toArray, hAl]; exact i32
    have hall := one_all hA1
    clear hR r1 r4 sm12 G12 g13
    go_wp2_with ((with_reducible show wpList _ _ _ _ _ _); refine wpList_store_mid rfl 27 _ _ rfl q6 0 A.toArray rfl rfl hth hsz hall ?_)
    exact bodyPost_ret (v := .agg A.toArray) (ret_bytes Try.results23 _ _ q6 A _ _ 32 rfl r3 (by decide) Try.underlying27 rfl i32) rfl hf
end Go.Proofs.Ytaepfkpfageiaaa
