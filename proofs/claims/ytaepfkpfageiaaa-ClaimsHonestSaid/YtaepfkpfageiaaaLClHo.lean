/- The walk of ClaimsHonest: its loops. -/
import Derived.Test.YtaepfkpfageiaaaClmHo
import Derived.Test.YtaepfkpfageiaaaLClOr
import Derived.Test.YtaepfkpfageiaaaLClKe
import Derived.Test.YtaepfkpfageiaaaRound
namespace Go.Proofs.Ytaepfkpfageiaaa
open Go Go.RowKit


set_option maxRecDepth 100000 in
set_option maxHeartbeats 1000000 in
theorem clHo0 (p : Nat) (a0 : Option Addr) (N c0 : Nat) (key : List UInt8) (lo : Option Addr) (n cap : Nat) (vs : List Value) (ls : List (List UInt8)) (hN : Hid (N = key.length)) (hNl : N ≤ 100) (hn : Hid (n = ls.length)) (hnl : n ≤ 12) (hls : ∀ t ∈ ls, t.length ≤ 800) {c2 c3 c4 c5 c6 c9 c10 c11 c12 c13 c14 c15 c16 c17 c18 c19 c20 c21 c22 c23 c24 c25 c26 c27 c28 c29 c30 c31 c32 c33 c34 c35 c36 c37 c38 c39 c40 c41 c42 c43 c44 c45 c46 c47 c48 c49 c50 c51 c52 c53 c54 c55 c56 c57 c58 c59 c60 c61 c62 c63 c64 c65 c66 c67 c68 c69 c70 c71 c72 c73 c74 c75 c76 c77 c78 c79 c80 c81 c82 c83 c84 c85 c86 c87 c88 c89 c90 c91 c92 c93 c94 c95 c96 c97 c98 c99 c100 c101 c102 c103 c104 c105 c106 c107 c108 c109 c110 c111 c112 c113 c114 c115 c116 c117 c118 c119 c120 : Value} (w0 w : World)
    (s0 : Sl w0 1 a0 N c0 (key.map B)) (s1 : Sl w0 1 lo n cap vs) (pt : Pt w0 vs ls) (g0 : Grow w0 w) (bk : Bk w p none 0 0 []) (hp : w0.heap.size ≤ p) {Q : Exit → Act → World → Prop}
    (hQ : ∀ (ao : Option Addr) (c : Nat) (w' : World), Bk w' p ao (2 * n) c (hoS key ls) → Grow w0 w' → ∀ {u6 u8 u9 u36 u37 u38 u39 u40 u41 u42 u43 u44 u45 u46 u47 u48 u49 u50 u51 u52 u53 u54 u55 u56 u57 u58 u59 u60 : Value}, Q .normal ⟨List.toArray (.slice a0 N c0 :: .slice lo n cap :: c2 :: c3 :: c4 :: c5 :: u6 :: .pointer (some ⟨p, 0, none⟩) :: u8 :: u9 :: c10 :: c11 :: c12 :: c13 :: c14 :: c15 :: c16 :: c17 :: c18 :: c19 :: c20 :: c21 :: c22 :: c23 :: c24 :: c25 :: c26 :: c27 :: c28 :: c29 :: c30 :: c31 :: c32 :: c33 :: c34 :: c35 :: u36 :: u37 :: u38 :: u39 :: u40 :: u41 :: u42 :: u43 :: u44 :: u45 :: u46 :: u47 :: u48 :: u49 :: u50 :: u51 :: u52 :: u53 :: u54 :: u55 :: u56 :: u57 :: u58 :: u59 :: u60 :: c61 :: c62 :: c63 :: c64 :: c65 :: c66 :: c67 :: c68 :: c69 :: c70 :: c71 :: c72 :: c73 :: c74 :: c75 :: c76 :: c77 :: c78 :: c79 :: c80 :: c81 :: c82 :: c83 :: c84 :: c85 :: c86 :: c87 :: c88 :: c89 :: c90 :: c91 :: c92 :: c93 :: c94 :: c95 :: c96 :: c97 :: c98 :: c99 :: c100 :: c101 :: c102 :: c103 :: c104 :: c105 :: c106 :: c107 :: c108 :: c109 :: c110 :: c111 :: c112 :: c113 :: c114 :: c115 :: c116 :: c117 :: c118 :: c119 :: c120 :: []), []⟩ w') :
    Code.wp Try.prog (blockAt Try.f16 0) Q ⟨List.toArray (.slice a0 N c0 :: .slice lo n cap :: c2 :: c3 :: c4 :: c5 :: c6 :: .pointer (some ⟨p, 0, none⟩) :: .int .i64 0 :: c9 :: c10 :: c11 :: c12 :: c13 :: c14 :: c15 :: c16 :: c17 :: c18 :: c19 :: c20 :: c21 :: c22 :: c23 :: c24 :: c25 :: c26 :: c27 :: c28 :: c29 :: c30 :: c31 :: c32 :: c33 :: c34 :: c35 :: c36 :: c37 :: c38 :: c39 :: c40 :: c41 :: c42 :: c43 :: c44 :: c45 :: c46 :: c47 :: c48 :: c49 :: c50 :: c51 :: c52 :: c53 :: c54 :: c55 :: c56 :: c57 :: c58 :: c59 :: c60 :: c61 :: c62 :: c63 :: c64 :: c65 :: c66 :: c67 :: c68 :: c69 :: c70 :: c71 :: c72 :: c73 :: c74 :: c75 :: c76 :: c77 :: c78 :: c79 :: c80 :: c81 :: c82 :: c83 :: c84 :: c85 :: c86 :: c87 :: c88 :: c89 :: c90 :: c91 :: c92 :: c93 :: c94 :: c95 :: c96 :: c97 :: c98 :: c99 :: c100 :: c101 :: c102 :: c103 :: c104 :: c105 :: c106 :: c107 :: c108 :: c109 :: c110 :: c111 :: c112 :: c113 :: c114 :: c115 :: c116 :: c117 :: c118 :: c119 :: c120 :: []), []⟩ w := by
  have hml : maxLen = 9223372036854775807 := rfl
  have i32 : (Try.prog.info? 27).map (·.size) = some 32 := by kernel_rfl
  have hmk := fun t (ht : t.length ≤ 800) p ao n c cs w bk (hn : n ≤ 100000) a0 c0 lo cap vs sk s pt => makeC p ao n c cs a0 c0 key lo cap vs [t] w sk (by have := hN.out; omega) s pt (by simp) (by simp; omega) bk hn
  have hck := fun t (ht : t.length ≤ 800) p ao n c cs w bk (hn : n ≤ 100000) a0 c0 lo cap vs sk s pt R h => checkC p ao n c cs a0 c0 key (shortS (macS key (framS [t]))) (shortS_len _ (macS_len _ _)) lo cap vs [t] w sk (by have := hN.out; omega) s pt (by simp) (by simp; omega) bk hn R h (fun e => by simp at e)
  simp only [beq_self_eq_true, forall_const, List.length_cons, List.length_nil, Nat.zero_add] at hmk hck
  simp only [← hN.out] at hmk hck
  have Hmk := Lib.hid hmk
  have Hck := Lib.hid hck
  have Hls := Lib.hid hls
  clear hmk hck hls
  conv => arg 2; whnf
  refine wp_block ?_
  go_loopw [8] (fun vi wr => ∃ (i : Nat) (ao : Option Addr) (c : Nat), vi = .int .i64 (i : Int) ∧ i ≤ n ∧ Bk wr p ao (2 * i) c (hoS key (ls.take i)) ∧ Grow w0 wr ∧ (∀ g ∈ p :: blk ao, w0.heap.size ≤ g)) (fun vi _ => n - (intOf vi).toNat)
  case atStart => exact ⟨0, none, 0, by simp, by omega, by simpa [hoS] using bk, g0, by simpa [blk] using hp⟩
  case round =>
    clear bk g0
    obtain ⟨i, ao, c, rfl, hi, bk, g, hb⟩ := hrel
    by_cases hlt : i < n
    · have hil : i < ls.length := by rw [← hn.out]; exact hlt
      obtain ⟨g1, off, eg, hcs⟩ := (s1.grow g).hat (by omega)
      subst eg
      obtain ⟨xo, xc, hxv, sx0⟩ := pt.2 i hil
      have c1 := hcs.at hxv
      have htk : hoS key (ls.take (i + 1)) = hoS key (ls.take i) ++ [clmS key (framS [ls[i]]) true] ++ [clmS key (framS [ls[i]]) false] := by
        rw [List.take_add_one, List.getElem?_eq_getElem hil, Option.toList_some, hoS_snoc]
      obtain ⟨X, hX⟩ : ∃ X, X = ls[i] := ⟨_, rfl⟩
      have hXl : X.length ≤ 800 := by rw [hX]; exact Hls.out _ (List.getElem_mem _)
      rw [← hX] at c1 sx0 htk hxv
      have Hxv := Lib.hid hxv
      clear hX hcs hxv hil
      have hmk := Hmk.out X hXl
      have hck := Hck.out X hXl
      have hs1 := shortMC (macS key (framS [X])) (macS_len _ _)
      obtain ⟨C1, hC1⟩ : ∃ c, c = clmS key (framS [X]) true := ⟨_, rfl⟩
      obtain ⟨C2, hC2⟩ : ∃ c, c = clmS key (framS [X]) false := ⟨_, rfl⟩
      obtain ⟨V, hV⟩ : ∃ V, V = (macS key (framS [X])).map B := ⟨_, rfl⟩
      have hVl : V.length = 32 := by rw [hV, List.length_map]; exact macS_len _ _
      have hV1 : ∀ v ∈ V, v.oneCell' = true := by rw [hV]; exact B_one _
      obtain ⟨SA, hSA⟩ : ∃ V, V = ((shortS (macS key (framS [X]))).map B).toArray := ⟨_, rfl⟩
      rw [← hC1, ← hC2] at htk
      simp only [← hC1, ← hV] at hmk
      simp only [← hC2, ← hSA] at hck
      simp only [← hV, ← hSA] at hs1
      have Htk := Lib.hid htk
      obtain ⟨cs, hcs⟩ : ∃ cs, cs = hoS key (ls.take i) := ⟨_, rfl⟩
      rw [← hcs] at bk
      have Hcs := Lib.hid hcs
      clear htk hC1 hC2 hV hSA hcs hQ
      obtain ⟨xn, hxn⟩ : ∃ n, n = X.length := ⟨_, rfl⟩
      rw [← hxn] at sx0 c1 Hxv
      have sx := sx0.grow g
      have HX := Lib.hid hxn
      clear hxn
      obtain ⟨ps, pp, pg⟩ := one_slc (Grow.refl wr) (by rw [HX.out] at sx; exact sx)
      have hc := hmk p ao (2 * i) c cs _ (bk.grow pg) (by omega) a0 c0 _ _ _ (s0.grow (g.trans pg)) ps pp
      have G1 := g.trans pg
      rw [← HX.out] at hc G1
      clear hmk ps pp pg bk g
      have hbF : Fr (p :: blk ao) w0 := hb
      clear hb
      go_wp2_with fail
      refine hc _ ?_
      clear hc
      intro ao1 k1 w2 bk2 kp2 b2
      obtain ⟨G2, F2⟩ := bk_step G1 hbF kp2 b2
      have hlt2 := bk2.lt
      clear G1 kp2 b2 c1 hbF
      obtain ⟨o9, ga1, th1, al1⟩ := newvar (t := 27) w2 (.int .u8 0) rfl (by omega) hVl hV1
      have hszF : (Try.prog.info? 27).map (·.size) = some V.toArray.size := by rw [List.size_toArray, hVl]; exact i32
      go_upto_region 10 with (refine wpList_store_mid rfl 27 _ _ rfl w2.heap.size 0 V.toArray rfl rfl th1 hszF al1 ?_)
      change Code.wp _ _ _ ⟨_, _⟩ ((w2.alloc (.cells (List.replicate 32 (.int .u8 0)).toArray 27)).setCells w2.heap.size 0 V)
      have G3 := G2.trans ga1
      have bk3 := bk2.grow ga1
      obtain ⟨q9, hq⟩ : ∃ q, q = w2.heap.size := ⟨_, rfl⟩
      generalize (w2.alloc (.cells (List.replicate 32 (.int .u8 0)).toArray 27)).setCells w2.heap.size 0 V = w3 at *
      rw [← hq] at o9 ⊢
      have hge_q9 : w2.heap.size ≤ q9 := by omega
      clear hq th1 al1 ga1 hszF G2 bk2
      have D3 : q9 ∉ p :: blk ao1 := fun hm => by have := hlt2 q9 hm; omega
      clear hge_q9 hlt2
      obtain ⟨g2, off2, eg, hcs⟩ := (s1.grow G3).hat (by omega)
      cases eg
      obtain ⟨x, hx⟩ : ∃ x, vs[i]? = some x ∧ x = .slice xo xn xc := ⟨_, Hxv.out, rfl⟩
      have c3 := hcs.at hx.1
      rw [hx.2] at c3
      have e3 := KW.cell (fp := []) (p0 := tt) c3 (by simp)
      have sx3 := sx0.grow G3
      have ldH : ∀ w', Keep [] w3 w' → (Instr.loadAt 27 (.pointer (some ⟨q9, 0, none⟩))).run Try.prog w' = .ok (.agg V.toArray) w' := fun w' k => load_arr (by decide) hVl (o9.keep k (by simp)) Try.underlying27 rfl i32
      clear hx c3 hcs hVl hV1
      go_upto_region 10 with (fail)
      refine wp_region_R (segT w3 [(3, pIs (.agg SA)), (8, pPt [X])]) (by kernel_rfl) segT_drew ?_
      unfold segT segK segR
      repeat (first | (refine wpV_skp rfl rfl ?_; simp only [List.set_cons_succ, List.set_cons_zero]) | (refine wpV_val rfl rfl rfl rfl rfl _ (fun w hC => by obtain ⟨n, rfl⟩ := hC; exact exec_load (ldH _ n.h)) ?_; simp only [List.set_cons_succ, List.set_cons_zero]) | (refine wpV_look rfl rfl rfl rfl rfl (fun K hK => ?_); go_big_quiet_op; refine hK _ ?_; clear hK K))
      refine wpV_mk rfl rfl rfl [] rfl (fun vs w7 hC _ => yields_call (by kernel_rfl) ?_) (fun vs v w7 hC hV hF => ?_)
      · obtain ⟨⟨w7, hk, -⟩, rfl⟩ := hC
        exact hs1 w7 _ (fun w8 g8 => ⟨_, rfl, ⟨Keep.of_grow [] g8, trivial⟩, rfl⟩)
      obtain rfl := hV
      clear hC hF w7
      simp only [List.set_cons_succ, List.set_cons_zero]
      repeat (first | (refine wpV_skp rfl rfl ?_; simp only [List.set_cons_succ, List.set_cons_zero]) | (refine wpV_look rfl rfl rfl rfl rfl (fun K hK => ?_); go_big_quiet_op; refine hK _ ?_; clear hK K))
      refine wpV_mk rfl rfl rfl [] rfl (fun vs w7 hC _ => ?_) (fun vs v w7 hC hV hF => ?_)
      · obtain ⟨⟨w7, hk, -⟩, rfl⟩ := hC
        unfold yields
        go_simp
        exact ⟨⟨Keep.of_grow [] (Grow.alloc w7 _), trivial⟩, by have := pPt_one (e := 22) (n := xn) (sx3.keep hk (by simp)); exact this⟩
      obtain ⟨bo, d, vs7, rfl, -, -⟩ := hV
      clear hC hF w7
      simp only [List.set_cons_succ, List.set_cons_zero]
      refine wpV_tn rfl rfl (by kernel_rfl) (fun w7 hC hF => yields_call (by kernel_rfl) ?_)
      obtain ⟨bo, d, vs7, e, hs, hp⟩ := (hF 8).2 rfl
      cases e
      obtain ⟨⟨w7, hk, -⟩, rfl⟩ := hC
      have hc := hck p ao1 _ k1 _ w7 (bk3.keep hk (by simp) (by simp)) (by omega) a0 c0 _ _ _ (s0.grow (G3.trans hk.grow)) hs hp
      refine hc _ ?_
      intro ao4 k4 w4 bk4 kp4 b4
      obtain ⟨G4, F4⟩ := bk_step (G3.trans hk.grow) F2 kp4 b4
      refine ⟨_, rfl, segL w4, segL_at, ?_⟩
      clear hc hF hs hp hk kp4 b4
      unfold segL segK segR
      simp only [List.set_cons_succ, List.set_cons_zero]
      repeat (first | (refine wpV_skp rfl rfl ?_; simp only [List.set_cons_succ, List.set_cons_zero]) | (refine wpV_look rfl rfl rfl rfl rfl (fun K hK => ?_); go_big_quiet_op; refine hK _ ?_; clear hK K))
      refine wpV_nil ?_
      intro w5 hC hF
      obtain ⟨⟨w5, hkw5, -⟩, rfl⟩ := hC
      clear hF
      have bk5 := bk4.keep hkw5 (by simp) (by simp)
      rw [Hcs.out, ← Htk.out, show 2 * i + 1 + 1 = 2 * (i + 1) by omega] at bk5
      have G5 := G4.trans hkw5.grow
      clear bk4 G4 hkw5 bk3 o9 G3 ldH e3 sx3 sx0 Htk Hcs Hxv hs1 hck s1 pt s0 D3 F2
      go_wp2_with fail
      go_roundw
      case rel => exact ⟨i + 1, ao4, k4, by go_num, by omega, bk5, G5, F4⟩
      case measure => simp [intOf]; omega
    · obtain rfl : i = n := by omega
      rw [List.take_of_length_le (by rw [← hn.out]; omega)] at bk
      go_wp2_with fail
      exact hQ _ _ _ bk g
end Go.Proofs.Ytaepfkpfageiaaa
