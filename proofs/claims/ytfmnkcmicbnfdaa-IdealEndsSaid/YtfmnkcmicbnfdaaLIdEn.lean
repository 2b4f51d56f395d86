/- The walk of IdealEnds. -/
import Derived.Test.YtfmnkcmicbnfdaaIdlO
import Derived.Test.YtfmnkcmicbnfdaaLIdE0
import Derived.Test.YtfmnkcmicbnfdaaAppS
namespace Go.Proofs.Ytfmnkcmicbnfdaa
open Go Go.RowKit


set_option maxRecDepth 100000 in
set_option maxHeartbeats 1000000 in
theorem idEn0 (n : Nat) (hn : n ≤ 20) {c1 c2 c3 c4 c7 c8 c9 c10 c11 c12 c13 c14 c15 c16 c17 c18 c19 c20 c21 c22 c23 c24 c25 c26 c27 c28 c29 c30 c31 c32 c33 c34 c35 c36 c37 c38 c39 c40 c41 c42 c43 c44 c45 c46 c47 c48 c49 c50 c51 c52 c53 c54 c55 c56 c57 c58 c59 c60 c61 c62 c63 c64 c65 c66 c67 c68 c69 c70 c71 c72 c73 c74 c75 c76 c77 c78 c79 c80 c81 c82 c83 c84 c85 c86 c87 c88 c89 c90 c91 c92 c93 c94 c95 c96 c97 c98 c99 c100 c101 c102 c103 c104 c105 c106 c107 c108 c109 c110 c111 c112 c113 c114 c115 c116 c117 c118 c119 c120 c121 c122 c123 : Value} (w : World) {Q : Exit → Act → World → Prop}
    (hQ : ∀ (ao : Option Addr) (c : Nat) (w' : World), Own w' 5 1 ao (16 * (n + 1)) c ((List.replicate (n + 1) awA).flatten.map B) → Grow w w' → (∀ g ∈ blk ao, w.heap.size ≤ g) → ∀ {u6 u32 u33 u34 u35 u36 u37 u38 : Value}, Q .normal ⟨List.toArray (.int .i64 (n : Int) :: c1 :: c2 :: c3 :: c4 :: .slice ao (16 * (n + 1)) c :: u6 :: c7 :: c8 :: c9 :: c10 :: c11 :: c12 :: c13 :: c14 :: c15 :: c16 :: c17 :: c18 :: c19 :: c20 :: c21 :: c22 :: c23 :: c24 :: c25 :: c26 :: c27 :: c28 :: c29 :: c30 :: c31 :: u32 :: u33 :: u34 :: u35 :: u36 :: u37 :: u38 :: c39 :: c40 :: c41 :: c42 :: c43 :: c44 :: c45 :: c46 :: c47 :: c48 :: c49 :: c50 :: c51 :: c52 :: c53 :: c54 :: c55 :: c56 :: c57 :: c58 :: c59 :: c60 :: c61 :: c62 :: c63 :: c64 :: c65 :: c66 :: c67 :: c68 :: c69 :: c70 :: c71 :: c72 :: c73 :: c74 :: c75 :: c76 :: c77 :: c78 :: c79 :: c80 :: c81 :: c82 :: c83 :: c84 :: c85 :: c86 :: c87 :: c88 :: c89 :: c90 :: c91 :: c92 :: c93 :: c94 :: c95 :: c96 :: c97 :: c98 :: c99 :: c100 :: c101 :: c102 :: c103 :: c104 :: c105 :: c106 :: c107 :: c108 :: c109 :: c110 :: c111 :: c112 :: c113 :: c114 :: c115 :: c116 :: c117 :: c118 :: c119 :: c120 :: c121 :: c122 :: c123 :: []), []⟩ w') :
    Code.wp Try.prog (blockAt Try.f6 0) Q ⟨List.toArray (.int .i64 (n : Int) :: c1 :: c2 :: c3 :: c4 :: .slice none 0 0 :: .int .i64 0 :: c7 :: c8 :: c9 :: c10 :: c11 :: c12 :: c13 :: c14 :: c15 :: c16 :: c17 :: c18 :: c19 :: c20 :: c21 :: c22 :: c23 :: c24 :: c25 :: c26 :: c27 :: c28 :: c29 :: c30 :: c31 :: c32 :: c33 :: c34 :: c35 :: c36 :: c37 :: c38 :: c39 :: c40 :: c41 :: c42 :: c43 :: c44 :: c45 :: c46 :: c47 :: c48 :: c49 :: c50 :: c51 :: c52 :: c53 :: c54 :: c55 :: c56 :: c57 :: c58 :: c59 :: c60 :: c61 :: c62 :: c63 :: c64 :: c65 :: c66 :: c67 :: c68 :: c69 :: c70 :: c71 :: c72 :: c73 :: c74 :: c75 :: c76 :: c77 :: c78 :: c79 :: c80 :: c81 :: c82 :: c83 :: c84 :: c85 :: c86 :: c87 :: c88 :: c89 :: c90 :: c91 :: c92 :: c93 :: c94 :: c95 :: c96 :: c97 :: c98 :: c99 :: c100 :: c101 :: c102 :: c103 :: c104 :: c105 :: c106 :: c107 :: c108 :: c109 :: c110 :: c111 :: c112 :: c113 :: c114 :: c115 :: c116 :: c117 :: c118 :: c119 :: c120 :: c121 :: c122 :: c123 :: []), []⟩ w := by
  have hml : maxLen = 9223372036854775807 := rfl
  conv => arg 2; whnf
  refine wp_block ?_
  go_loopw [5, 6] (fun vb vi wr => ∃ (i : Nat) (ao : Option Addr) (c : Nat), vb = .slice ao (16 * i) c ∧ vi = .int .i64 (i : Int) ∧ i ≤ n + 1 ∧ Own wr 5 1 ao (16 * i) c ((List.replicate i awA).flatten.map B) ∧ Grow w wr ∧ ∀ g ∈ blk ao, w.heap.size ≤ g) (fun _ vi _ => n + 1 - (intOf vi).toNat)
  case atStart => exact ⟨0, none, 0, rfl, by simp, by omega, Own.none _ _ _, Grow.refl _, by simp [blk]⟩
  case round =>
    obtain ⟨i, ao, c, rfl, rfl, hi, o, g, hf⟩ := hrel
    by_cases hlt : i ≤ n
    · have hz := g.size
      have hfl : (List.replicate i awA).flatten ++ awA = (List.replicate (i + 1) awA).flatten := by rw [List.replicate_succ', List.flatten_append]; simp
      obtain ⟨F, hF⟩ : ∃ F, F = (List.replicate i awA).flatten := ⟨_, rfl⟩
      rw [← hF] at o hfl
      have Hfl := Lib.hid hfl
      have h16 : 16 * i + awA.length = 16 * (i + 1) := by rw [show awA.length = 16 from rfl]; omega
      clear hF hfl
      go_wp2_with (at_builtin; refine wpList_appStr w.heap.size ⟨#[48, 49, 50, 51, 52, 53, 54, 55, 56, 57, 97, 98, 99, 100, 101, 102]⟩ awA rfl rfl o hf hz rfl (by rw [h16]; omega) ?_; intro ao2 c2 w2 o2 k2 f2; rw [h16, Hfl.out] at o2; rw [h16])
      have G2 := g.then k2 hf
      go_roundw
      case rel => exact ⟨i + 1, ao2, c2, rfl, by go_num, by omega, o2, G2, f2⟩
      case measure => simp [intOf]; omega
    · obtain rfl : i = n + 1 := by omega
      have hf2 := @hQ ao c wr o g hf
      clear hQ
      go_wp2_with fail
      exact hf2

set_option maxRecDepth 100000 in
set_option maxHeartbeats 2000000 in
theorem idEnN (n rest : Nat) (hn : n ≤ 20) (hr : rest ≤ 15) (w : World)
    (R : Ending → World → Prop) (hR : ∀ w', Grow w w' → R (.returned (.bool true)) w') :
    Calls Try.prog 6 #[.int .i64 (n : Int), .int .i64 (rest : Int)] w R := by
  have hml : maxLen = 9223372036854775807 := rfl
  have haw := awake10C
  have hd1 : decide ((n : Int) < 0) = false := decide_eq_false (by omega)
  have hd2 : decide (20 < (n : Int)) = false := decide_eq_false (by omega)
  have hd3 : decide ((rest : Int) < 0) = false := decide_eq_false (by omega)
  have hd4 : decide (15 < (rest : Int)) = false := decide_eq_false (by omega)
  have e1 := end_e1 n rest
  have e2 := end_e2 n rest hr
  have e3 := end_e3 n rest
  have e4 := end_e4 n rest
  have hlen := endT_len n rest
  have E1 := Lib.hid e1
  have E2 := Lib.hid e2
  have E3 := Lib.hid e3
  have E4 := Lib.hid e4
  have hAl : ((b16 awA).b.map B).length = 16 := by rw [List.length_map]; exact (b16 awA).h
  have hA1 := B_one (b16 awA).b
  have hPl : (awP.b.map B).length = 16 := by rw [List.length_map]; exact awP.h
  have hP1 := B_one awP.b
  have hZl : (b16z.b.map B).length = 16 := by rw [List.length_map]; exact b16z.h
  have hZ1 := B_one b16z.b
  obtain ⟨VA, hVA⟩ : ∃ V, V = (b16 awA).b.map B := ⟨_, rfl⟩
  obtain ⟨VP, hVP⟩ : ∃ V, V = awP.b.map B := ⟨_, rfl⟩
  obtain ⟨VZ, hVZ⟩ : ∃ V, V = b16z.b.map B := ⟨_, rfl⟩
  rw [← hVA] at hAl hA1
  rw [← hVP] at hPl hP1
  rw [← hVZ] at hZl hZ1
  have eA : ekB (b16 awA) = .agg VA.toArray := by rw [hVA]; rfl
  have eP : ekB awP = .agg VP.toArray := by rw [hVP]; rfl
  have eZ : ekB b16z = .agg VZ.toArray := by rw [hVZ]; rfl
  have EA := Lib.hid eA
  have EP := Lib.hid eP
  have EZ := Lib.hid eZ
  obtain ⟨bs, hbs⟩ : ∃ bs, bs = endT n rest := ⟨_, rfl⟩
  rw [← hbs] at hlen
  have Hbs := Lib.hid hbs
  have hb5 : bs.length ≤ 50000 := by omega
  clear e1 e2 e3 e4 hVA hVP hVZ eA eP eZ hbs
  go_enter Try.func6, Try.ntmps6
  go_upto_block 0 with (fail)
  refine idEn0 n hn w ?_
  intro ao c w1 o1 g1 f1
  intros
  obtain ⟨F, hF⟩ : ∃ F, F = (List.replicate (n + 1) awA).flatten := ⟨_, rfl⟩
  rw [← hF] at o1
  have hFb : F ++ List.replicate rest 0 = bs := by rw [hF, Hbs.out]; rfl
  obtain ⟨N, hN⟩ : ∃ N, N = 16 * (n + 1) := ⟨_, rfl⟩
  rw [← hN] at o1 hlen ⊢
  have hNl : N ≤ 400 := by omega
  have HN := Lib.hid hN
  have HFb := Lib.hid hFb
  clear hF hN hFb hd1 hd2 hd3 hd4
  go_wp2_with (at_builtin; refine wpList_appZ rest rfl rfl o1 (by omega) ?_; intro ao2 c2 w2 s2 k2; rw [HFb.out] at s2)
  have G2 : Grow w w2 := g1.then k2 f1
  have hb2 : (bs.map B).length = N + rest := by rw [List.length_map]; exact hlen
  have hc := tapeNew ao2 c2 (bs.map B) w2 (by rw [hb2]; exact s2) (by rw [hb2]; omega)
  rw [hb2] at hc
  clear o1 g1 k2 f1 s2 HFb
  refine hc _ ?_
  clear hc
  intro t wf rb w3 ht g3 f3 _
  go_wp2_with fail
  refine newCi t wf rb bs w3 ht (tape_nodup ht) _ ?_
  clear ht
  intro p P K w4 hC g4 hp hP hK
  obtain ⟨fp, hC4, hf4⟩ := ci_new (G2.trans g3) (fun g hg => Nat.le_trans G2.size (f3 g hg)) hC hp hP hK
  have G4 := (G2.trans g3).trans g4
  clear hC hp hP hK G2 g3 g4 f3
  go_wp2_with fail
  refine blockStr ⟨#[112]⟩ [112] rfl (by decide) _ _ ?_
  intro w5 g5
  have hc := encSC (hC4.grow g5) hb5 (by decide) (by decide) ⟨#[119]⟩ exX awP
  rw [show (⟨0, [], 0, 0⟩ : IdS) = exS0 from rfl, Hbs.out, E1.out, ← Hbs.out, EA.out] at hc
  have G5 := G4.trans g5
  clear hC4 g5 G4
  go_wp2_with fail
  refine hc _ ?_
  clear hc
  intro fp6 w6 hC6 k6 in6
  obtain ⟨G6, hf6⟩ := ci_step G5 hf4 k6 in6
  have hlt6 := hC6.lt
  clear hf4 k6 in6 G5
  obtain ⟨o9, ga1, th1, al1⟩ := newvar (t := 33) w6 (.int .u8 0) rfl (by omega) hAl hA1
  have hszF : (Try.prog.info? 33).map (·.size) = some VA.toArray.size := by rw [List.size_toArray, hAl]; exact i16
  go_upto_region 13 with (refine wpList_store_mid rfl 33 _ _ rfl w6.heap.size 0 VA.toArray rfl rfl th1 hszF al1 ?_)
  change Code.wp _ _ _ ⟨_, _⟩ ((w6.alloc (.cells (List.replicate 16 (.int .u8 0)).toArray 33)).setCells w6.heap.size 0 VA)
  have G7 := G6.trans ga1
  have hC7 := hC6.grow ga1
  obtain ⟨q9, hq⟩ : ∃ q, q = w6.heap.size := ⟨_, rfl⟩
  generalize (w6.alloc (.cells (List.replicate 16 (.int .u8 0)).toArray 33)).setCells w6.heap.size 0 VA = w7 at *
  rw [← hq] at o9 ⊢
  have hge_q9 : w6.heap.size ≤ q9 := by omega
  clear hq th1 al1 ga1 hszF G6 hC6
  have D9 : q9 ∉ fp6 := fun hm => by have := hlt6 q9 hm; omega
  clear hlt6 hge_q9
  go_wp2_with fail
  refine blockStr ⟨#[113]⟩ [113] rfl (by decide) _ _ ?_
  intro w8 g8
  have hc := encSC (hC7.grow g8) hb5 (by decide) (by decide) ⟨#[119]⟩ exX awQ
  rw [Hbs.out, E2.out, ← Hbs.out, EZ.out] at hc
  have G8 := G7.trans g8
  have o98 := o9.grow g8
  clear hC7 g8 G7 o9
  go_wp2_with fail
  refine hc _ ?_
  clear hc
  intro fp9 w9 hC9 k9 in9
  obtain ⟨G9, hf9⟩ := ci_step G8 hf6 k9 in9
  have o99 := o98.keep k9 (fun g hg => by simp [blk] at hg; subst hg; exact D9)
  have D99 := ci_out (o98.lt q9 (by simp [blk])) D9 in9
  clear G8 hf6 k9 in9 o98 D9
  obtain ⟨o11, ga1, th1, al1⟩ := newvar (t := 33) w9 (.int .u8 0) rfl (by omega) hZl hZ1
  have hszF : (Try.prog.info? 33).map (·.size) = some VZ.toArray.size := by rw [List.size_toArray, hZl]; exact i16
  go_upto_region 14 with (refine wpList_store_mid rfl 33 _ _ rfl w9.heap.size 0 VZ.toArray rfl rfl th1 hszF al1 ?_)
  change Code.wp _ _ _ ⟨_, _⟩ ((w9.alloc (.cells (List.replicate 16 (.int .u8 0)).toArray 33)).setCells w9.heap.size 0 VZ)
  have G10 := G9.trans ga1
  have hC10 := hC9.grow ga1
  have o910 := o99.grow ga1
  obtain ⟨q11, hq⟩ : ∃ q, q = w9.heap.size := ⟨_, rfl⟩
  generalize (w9.alloc (.cells (List.replicate 16 (.int .u8 0)).toArray 33)).setCells w9.heap.size 0 VZ = w10 at *
  rw [← hq] at o11 ⊢
  have hge_q11 : w9.heap.size ≤ q11 := by omega
  clear hq th1 al1 ga1 hszF G9 hC9 o99
  clear o11 hge_q11
  go_wp2_with fail
  refine blockStr ⟨#[112]⟩ [112] rfl (by decide) _ _ ?_
  intro w11 g11
  have hc := encSC (hC10.grow g11) hb5 (by show 1 ≤ 100000; decide) (by show n ≤ 100000; omega) ⟨#[119]⟩ exX awP
  rw [Hbs.out, E3.out, ← Hbs.out, EA.out] at hc
  have G11 := G10.trans g11
  have o911 := o910.grow g11
  clear hC10 g11 G10 o910
  go_wp2_with fail
  refine hc _ ?_
  clear hc
  intro fp12 w12 hC12 k12 in12
  obtain ⟨G12, hf12⟩ := ci_step G11 hf9 k12 in12
  have o912 := o911.keep k12 (fun g hg => by simp [blk] at hg; subst hg; exact D99)
  have D912 := ci_out (o911.lt q9 (by simp [blk])) D99 in12
  have hlt12 := hC12.lt
  clear G11 hf9 k12 in12 o911 D99
  obtain ⟨o13, ga1, th1, al1⟩ := newvar (t := 33) w12 (.int .u8 0) rfl (by omega) hAl hA1
  have hszF : (Try.prog.info? 33).map (·.size) = some VA.toArray.size := by rw [List.size_toArray, hAl]; exact i16
  go_upto_region 15 with (refine wpList_store_mid rfl 33 _ _ rfl w12.heap.size 0 VA.toArray rfl rfl th1 hszF al1 ?_)
  change Code.wp _ _ _ ⟨_, _⟩ ((w12.alloc (.cells (List.replicate 16 (.int .u8 0)).toArray 33)).setCells w12.heap.size 0 VA)
  have G13 := G12.trans ga1
  have hC13 := hC12.grow ga1
  have o913 := o912.grow ga1
  obtain ⟨q13, hq⟩ : ∃ q, q = w12.heap.size := ⟨_, rfl⟩
  generalize (w12.alloc (.cells (List.replicate 16 (.int .u8 0)).toArray 33)).setCells w12.heap.size 0 VA = w13 at *
  rw [← hq] at o13 ⊢
  have hge_q13 : w12.heap.size ≤ q13 := by omega
  clear hq th1 al1 ga1 hszF G12 hC12 o912
  have D13 : q13 ∉ fp12 := fun hm => by have := hlt12 q13 hm; omega
  clear hlt12 hge_q13
  have hc := decSC hC13 hb5 (by show 1 ≤ 100000; decide) (by show n ≤ 100000; omega) ⟨#[119]⟩ exX (b16 awA)
  rw [Hbs.out, E4.out, ← Hbs.out, EA.out, EP.out] at hc
  have hrg9 := own_range o913 (by omega)
  have hsA : (Try.prog.info? 33).map (·.size) = some VA.length := by rw [hAl]; exact i16
  go_wp2_with (refine wpList_load_mid rfl 33 _ rfl q9 0 rfl VA _ hrg9 Try.underlying33 rfl hsA ?_)
  refine hc _ ?_
  clear hc hrg9
  intro fp14 w14 hC14 k14 in14
  obtain ⟨G14, hf14⟩ := ci_step G13 hf12 k14 in14
  have o914 := o913.keep k14 (fun g hg => by simp [blk] at hg; subst hg; exact D912)
  have o1314 := o13.keep k14 (fun g hg => by simp [blk] at hg; subst hg; exact D13)
  clear G13 hf12 k14 in14 o913 o13 D912 D13 hC13 hf14
  obtain ⟨o15, ga1, th1, al1⟩ := newvar (t := 33) w14 (.int .u8 0) rfl (by omega) hPl hP1
  have hszF : (Try.prog.info? 33).map (·.size) = some VP.toArray.size := by rw [List.size_toArray, hPl]; exact i16
  go_upto_region 16 with (refine wpList_store_mid rfl 33 _ _ rfl w14.heap.size 0 VP.toArray rfl rfl th1 hszF al1 ?_)
  change Code.wp _ _ _ ⟨_, _⟩ ((w14.alloc (.cells (List.replicate 16 (.int .u8 0)).toArray 33)).setCells w14.heap.size 0 VP)
  have G15 := G14.trans ga1
  have hC15 := hC14.grow ga1
  have o915 := o914.grow ga1
  have o1315 := o1314.grow ga1
  obtain ⟨q15, hq⟩ : ∃ q, q = w14.heap.size := ⟨_, rfl⟩
  generalize (w14.alloc (.cells (List.replicate 16 (.int .u8 0)).toArray 33)).setCells w14.heap.size 0 VP = w15 at *
  rw [← hq] at o15 ⊢
  have hge_q15 : w14.heap.size ≤ q15 := by omega
  clear hq th1 al1 ga1 hszF G14 hC14 o914 o1314
  have hsP : (Try.prog.info? 33).map (·.size) = some VP.length := by rw [hPl]; exact i16
  have ld9 : ∀ w', Keep [] w15 w' → (Instr.loadAt 33 (.pointer (some ⟨q9, 0, none⟩))).run Try.prog w' = .ok (.agg VA.toArray) w' := fun w' k => run_ld Try.underlying33 rfl hsA (own_cells4 (o915.keep k (by simp)) (by omega))
  have ld13 : ∀ w', Keep [] w15 w' → (Instr.loadAt 33 (.pointer (some ⟨q13, 0, none⟩))).run Try.prog w' = .ok (.agg VA.toArray) w' := fun w' k => run_ld Try.underlying33 rfl hsA (own_cells4 (o1315.keep k (by simp)) (by omega))
  have ld15 : ∀ w', Keep [] w15 w' → (Instr.loadAt 33 (.pointer (some ⟨q15, 0, none⟩))).run Try.prog w' = .ok (.agg VP.toArray) w' := fun w' k => run_ld Try.underlying33 rfl hsP (own_cells4 (o15.keep k (by simp)) (by omega))
  have eqA : ∀ w, (Op.equalIn 10000 33 (.agg VA.toArray) (.agg VA.toArray)).run Try.prog w = .ok true w := fun w => by
    have := okB.eq (b16 awA) (b16 awA) w
    rw [decide_eq_true rfl, EA.out] at this
    exact this
  have eqP : ∀ w, (Op.equalIn 10000 33 (.agg VP.toArray) (.agg VP.toArray)).run Try.prog w = .ok true w := fun w => by
    have := okB.eq awP awP w
    rw [decide_eq_true rfl, EP.out] at this
    exact this
  have hbP : ∀ w (R : Ending → World → Prop), (∀ w', Grow w w' → R (.returned (.agg VP.toArray)) w') → Calls Try.prog 26 #[.string ⟨#[112]⟩] w R := fun w R h => blockStr ⟨#[112]⟩ [112] rfl (by decide) w R (by rw [show ekB (b16 [112]) = .agg VP.toArray from EP.out]; exact h)
  have hbA : ∀ w (R : Ending → World → Prop), (∀ w', Grow w w' → R (.returned (.agg VA.toArray)) w') → Calls Try.prog 26 #[.string ⟨#[48, 49, 50, 51, 52, 53, 54, 55, 56, 57, 97, 98, 99, 100, 101, 102]⟩] w R := fun w R h => blockStr _ awA rfl (by decide) w R (by rw [EA.out]; exact h)
  have hleft : ∀ w' (R : Ending → World → Prop), Grow w15 w' → (∀ w2, Grow w' w2 → R (.returned (.int .i64 (rest : Int))) w2) → Calls Try.prog 20 #[.pointer (some ⟨t, 0, none⟩)] w' R := fun w' R g h => leftCi (hC15.grow g) hb5 R (fun w2 g2 => by rw [show bs.length - (exS2 n).a = rest by rw [hlen, HN.out]; show 16 * (n + 1) + rest - 16 * (n + 1) = rest; omega]; exact h w2 g2)
  clear o915 o1315 o15 hA1 hP1 hZ1
  go_upto_region 16 with (fail)
  refine wp_region_R (segT w15 [(4, pIs (.agg VA.toArray)), (26, pIs (.agg VP.toArray)), (31, pIs (.int .i64 1)), (36, pIs (.int .i64 (n : Int))), (42, pIs (.int .i64 (rest : Int))), (47, pIs (.bool true))]) (by kernel_rfl) segT_drew ?_
  unfold segT segK segR
  repeat (first | (refine wpV_skp rfl rfl ?_; simp only [List.set_cons_succ, List.set_cons_zero]) | (refine wpV_val rfl rfl rfl rfl rfl _ (fun w hC => by obtain ⟨n, rfl⟩ := hC; exact exec_load (ld9 _ n.h)) ?_; simp only [List.set_cons_succ, List.set_cons_zero]) | (refine wpV_val rfl rfl rfl rfl rfl _ (fun w hC => by obtain ⟨n, rfl⟩ := hC; exact exec_load (ld13 _ n.h)) ?_; simp only [List.set_cons_succ, List.set_cons_zero]) | (refine wpV_val rfl rfl rfl rfl rfl _ (fun w hC => by obtain ⟨n, rfl⟩ := hC; exact exec_load (ld15 _ n.h)) ?_; simp only [List.set_cons_succ, List.set_cons_zero]) | (refine wpV_look rfl rfl rfl rfl rfl (fun K hK => ?_); go_big_quiet_op; refine hK _ ?_; clear hK K))
  refine wpV_mk rfl rfl rfl [] rfl (fun vs w7 hC _ => yields_call (by kernel_rfl) ?_) (fun vs v w7 hC hV hF => ?_)
  · obtain ⟨⟨w7, hk, -⟩, rfl⟩ := hC
    exact hbA w7 _ (fun w8 g8 => ⟨_, rfl, ⟨Keep.of_grow [] g8, trivial⟩, rfl⟩)
  obtain rfl := hV
  clear hC hF w7
  simp only [List.set_cons_succ, List.set_cons_zero]
  repeat (first | (refine wpV_skp rfl rfl ?_; simp only [List.set_cons_succ, List.set_cons_zero]) | (refine wpV_val rfl rfl rfl rfl rfl _ (fun w hC => by obtain ⟨n, rfl⟩ := hC; exact exec_load (ld9 _ n.h)) ?_; simp only [List.set_cons_succ, List.set_cons_zero]) | (refine wpV_val rfl rfl rfl rfl rfl _ (fun w hC => by obtain ⟨n, rfl⟩ := hC; exact exec_load (ld13 _ n.h)) ?_; simp only [List.set_cons_succ, List.set_cons_zero]) | (refine wpV_val rfl rfl rfl rfl rfl _ (fun w hC => by obtain ⟨n, rfl⟩ := hC; exact exec_load (ld15 _ n.h)) ?_; simp only [List.set_cons_succ, List.set_cons_zero]) | (refine wpV_look rfl rfl rfl rfl rfl (fun K hK => ?_); go_big_quiet_op; refine hK _ ?_; clear hK K))
  refine wpV_mk rfl rfl rfl [] rfl (fun vs w7 hC _ => yields_call (by kernel_rfl) ?_) (fun vs v w7 hC hV hF => ?_)
  · obtain ⟨⟨w7, hk, -⟩, rfl⟩ := hC
    exact hbP w7 _ (fun w8 g8 => ⟨_, rfl, ⟨Keep.of_grow [] g8, trivial⟩, rfl⟩)
  obtain rfl := hV
  clear hC hF w7
  simp only [List.set_cons_succ, List.set_cons_zero]
  repeat (first | (refine wpV_skp rfl rfl ?_; simp only [List.set_cons_succ, List.set_cons_zero]) | (refine wpV_val rfl rfl rfl rfl rfl _ (fun w hC => by obtain ⟨n, rfl⟩ := hC; exact exec_load (ld9 _ n.h)) ?_; simp only [List.set_cons_succ, List.set_cons_zero]) | (refine wpV_val rfl rfl rfl rfl rfl _ (fun w hC => by obtain ⟨n, rfl⟩ := hC; exact exec_load (ld13 _ n.h)) ?_; simp only [List.set_cons_succ, List.set_cons_zero]) | (refine wpV_val rfl rfl rfl rfl rfl _ (fun w hC => by obtain ⟨n, rfl⟩ := hC; exact exec_load (ld15 _ n.h)) ?_; simp only [List.set_cons_succ, List.set_cons_zero]) | (refine wpV_look rfl rfl rfl rfl rfl (fun K hK => ?_); go_big_quiet_op; refine hK _ ?_; clear hK K))
  refine wpV_mk rfl rfl rfl [] (by kernel_rfl) (fun vs w7 hC _ => yields_call (by kernel_rfl) ?_) (fun vs v w7 hC hV hF => ?_)
  · obtain ⟨⟨w7, hk, -⟩, rfl⟩ := hC
    exact pairsC (hC15.grow hk.grow) _ ⟨_, rfl, ⟨Keep.refl _ _, trivial⟩, rfl⟩
  obtain rfl := hV
  clear hC hF w7
  simp only [List.set_cons_succ, List.set_cons_zero]
  repeat (first | (refine wpV_skp rfl rfl ?_; simp only [List.set_cons_succ, List.set_cons_zero]) | (refine wpV_look rfl rfl rfl rfl rfl (fun K hK => ?_); go_big_quiet_op; refine hK _ ?_; clear hK K))
  refine wpV_mk rfl rfl rfl [] (by kernel_rfl) (fun vs w7 hC _ => yields_call (by kernel_rfl) ?_) (fun vs v w7 hC hV hF => ?_)
  · obtain ⟨⟨w7, hk, -⟩, rfl⟩ := hC
    exact againC (hC15.grow hk.grow) _ ⟨_, rfl, ⟨Keep.refl _ _, trivial⟩, rfl⟩
  obtain rfl := hV
  clear hC hF w7
  simp only [List.set_cons_succ, List.set_cons_zero]
  repeat (first | (refine wpV_skp rfl rfl ?_; simp only [List.set_cons_succ, List.set_cons_zero]) | (refine wpV_look rfl rfl rfl rfl rfl (fun K hK => ?_); go_big_quiet_op; refine hK _ ?_; clear hK K))
  refine wpV_mk rfl rfl rfl [] (by kernel_rfl) (fun vs w7 hC _ => yields_call (by kernel_rfl) ?_) (fun vs v w7 hC hV hF => ?_)
  · obtain ⟨⟨w7, hk, -⟩, rfl⟩ := hC
    exact hleft w7 _ hk.grow (fun w8 g8 => ⟨_, rfl, ⟨Keep.of_grow [] g8, trivial⟩, rfl⟩)
  obtain rfl := hV
  clear hC hF w7
  simp only [List.set_cons_succ, List.set_cons_zero]
  repeat (first | (refine wpV_skp rfl rfl ?_; simp only [List.set_cons_succ, List.set_cons_zero]) | (refine wpV_look rfl rfl rfl rfl rfl (fun K hK => ?_); go_big_quiet_op; refine hK _ ?_; clear hK K))
  refine wpV_mk rfl rfl rfl [] rfl (fun vs w7 hC _ => yields_call (by kernel_rfl) ?_) (fun vs v w7 hC hV hF => ?_)
  · obtain ⟨⟨w7, hk, -⟩, rfl⟩ := hC
    exact haw w7 _ (fun w8 g8 => ⟨_, rfl, ⟨Keep.of_grow [] g8, trivial⟩, rfl⟩)
  obtain rfl := hV
  clear hC hF w7
  simp only [List.set_cons_succ, List.set_cons_zero]
  repeat (first | (refine wpV_skp rfl rfl ?_; simp only [List.set_cons_succ, List.set_cons_zero]) | (refine wpV_look rfl rfl rfl rfl rfl (fun K hK => ?_); go_big_quiet_op; refine hK _ ?_; clear hK K))
  refine wpV_nil ?_
  intro w20 hC hF
  obtain ⟨⟨w20, hkw20, -⟩, rfl⟩ := hC
  clear hF
  have hf := hR _ (G15.trans hkw20.grow)
  clear hR
  go_wp2_with fail
  exact hf
end Go.Proofs.Ytfmnkcmicbnfdaa
