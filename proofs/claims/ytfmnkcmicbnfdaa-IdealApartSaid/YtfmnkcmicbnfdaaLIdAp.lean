/- The walk of IdealApart. -/
import Derived.Test.YtfmnkcmicbnfdaaIdlO
import Derived.Test.YtfmnkcmicbnfdaaLIdA0
import Derived.Test.YtfmnkcmicbnfdaaTapS
import Derived.Test.YtfmnkcmicbnfdaaWant
namespace Go.Proofs.Ytfmnkcmicbnfdaa
open Go Go.RowKit

theorem cat_k (b : UInt8) : (⟨#[107]⟩ : ByteArray) ++ str [b] = ⟨#[107, b]⟩ := by
  apply ByteArray.ext
  rw [ByteArray.data_append]
  rfl


set_option maxRecDepth 100000 in
set_option maxHeartbeats 1000000 in
theorem idApS (i : Nat) (hi1 : 1 ≤ i) (hi : i ≤ 20) {c0 c1 c2 c3 c4 c5 c6 c7 c8 c9 c10 c11 c13 c17 c18 c19 c20 c21 c22 c23 c24 c25 c26 c27 c28 c29 c30 c31 c32 c33 c34 c35 c36 c37 c38 c39 c40 c41 c42 c43 c44 c45 c46 c47 c48 c49 c50 c51 c52 c53 c54 c55 c56 c57 c58 c59 c60 c61 c62 c63 c65 c66 c67 c68 c69 c70 c71 c72 c73 c74 c75 c76 c77 c78 c79 c80 c81 c82 c83 c84 c85 c86 c87 c88 c89 c90 c91 c92 c93 c94 c95 c96 c97 c98 c99 c100 c101 c102 c103 c104 c105 c106 c107 c108 c109 c110 c111 c112 c113 c114 c115 c116 c117 c118 c119 c120 c121 c122 c123 c124 c125 c126 c127 c128 c129 c130 c131 c132 c133 c134 c135 c136 c137 c138 c139 c140 c141 c142 : Value} (w : World) {Q : Exit → Act → World → Prop}
    (hQ : ∀ (w' : World), Grow w w' → ∀ {u65 u66 u67 u68 u69 u70 u71 u72 u73 u74 u75 u76 u77 u78 : Value}, Q .normal ⟨List.toArray (c0 :: c1 :: c2 :: c3 :: c4 :: c5 :: c6 :: c7 :: c8 :: c9 :: c10 :: c11 :: .int .i64 (i : Int) :: c13 :: .string (plc i).key :: .int .i64 (plc i).unit :: .int .i64 (plc i).i :: c17 :: c18 :: c19 :: c20 :: c21 :: c22 :: c23 :: c24 :: c25 :: c26 :: c27 :: c28 :: c29 :: c30 :: c31 :: c32 :: c33 :: c34 :: c35 :: c36 :: c37 :: c38 :: c39 :: c40 :: c41 :: c42 :: c43 :: c44 :: c45 :: c46 :: c47 :: c48 :: c49 :: c50 :: c51 :: c52 :: c53 :: c54 :: c55 :: c56 :: c57 :: c58 :: c59 :: c60 :: c61 :: c62 :: c63 :: .int .i64 ((i % 3 : Nat) : Int) :: u65 :: u66 :: u67 :: u68 :: u69 :: u70 :: u71 :: u72 :: u73 :: u74 :: u75 :: u76 :: u77 :: u78 :: c79 :: c80 :: c81 :: c82 :: c83 :: c84 :: c85 :: c86 :: c87 :: c88 :: c89 :: c90 :: c91 :: c92 :: c93 :: c94 :: c95 :: c96 :: c97 :: c98 :: c99 :: c100 :: c101 :: c102 :: c103 :: c104 :: c105 :: c106 :: c107 :: c108 :: c109 :: c110 :: c111 :: c112 :: c113 :: c114 :: c115 :: c116 :: c117 :: c118 :: c119 :: c120 :: c121 :: c122 :: c123 :: c124 :: c125 :: c126 :: c127 :: c128 :: c129 :: c130 :: c131 :: c132 :: c133 :: c134 :: c135 :: c136 :: c137 :: c138 :: c139 :: c140 :: c141 :: c142 :: []), []⟩ w') :
    Code.wp Try.prog (blockAt Try.f5 2) Q ⟨List.toArray (c0 :: c1 :: c2 :: c3 :: c4 :: c5 :: c6 :: c7 :: c8 :: c9 :: c10 :: c11 :: .int .i64 (i : Int) :: c13 :: .string ⟨#[107]⟩ :: .int .i64 0 :: .int .i64 0 :: c17 :: c18 :: c19 :: c20 :: c21 :: c22 :: c23 :: c24 :: c25 :: c26 :: c27 :: c28 :: c29 :: c30 :: c31 :: c32 :: c33 :: c34 :: c35 :: c36 :: c37 :: c38 :: c39 :: c40 :: c41 :: c42 :: c43 :: c44 :: c45 :: c46 :: c47 :: c48 :: c49 :: c50 :: c51 :: c52 :: c53 :: c54 :: c55 :: c56 :: c57 :: c58 :: c59 :: c60 :: c61 :: c62 :: c63 :: .int .i64 ((i % 3 : Nat) : Int) :: c65 :: c66 :: c67 :: c68 :: c69 :: c70 :: c71 :: c72 :: c73 :: c74 :: c75 :: c76 :: c77 :: c78 :: c79 :: c80 :: c81 :: c82 :: c83 :: c84 :: c85 :: c86 :: c87 :: c88 :: c89 :: c90 :: c91 :: c92 :: c93 :: c94 :: c95 :: c96 :: c97 :: c98 :: c99 :: c100 :: c101 :: c102 :: c103 :: c104 :: c105 :: c106 :: c107 :: c108 :: c109 :: c110 :: c111 :: c112 :: c113 :: c114 :: c115 :: c116 :: c117 :: c118 :: c119 :: c120 :: c121 :: c122 :: c123 :: c124 :: c125 :: c126 :: c127 :: c128 :: c129 :: c130 :: c131 :: c132 :: c133 :: c134 :: c135 :: c136 :: c137 :: c138 :: c139 :: c140 :: c141 :: c142 :: []), []⟩ w := by
  have hml : maxLen = 9223372036854775807 := rfl
  have hp0 : ¬ i = 0 := by omega
  conv => arg 2; whnf
  refine wp_block ?_
  obtain ⟨m, hm⟩ : ∃ m, m = i % 3 := ⟨_, rfl⟩
  rw [← hm]
  have hm3 : m < 3 := by omega
  obtain rfl | rfl | rfl : m = 0 ∨ m = 1 ∨ m = 2 := by omega
  · have hpl : plc i = ⟨⟨#[107, UInt8.ofNat (97 + i)]⟩, 0, 0⟩ := by unfold plc; rw [if_neg hp0, if_pos (by omega)]
    obtain ⟨b, hb⟩ : ∃ b, b = UInt8.ofNat (97 + i) := ⟨_, rfl⟩
    have hbv : Value.int .u8 (97 + (i : Int)) = B b := by
      rw [hb]; simp [B, UInt8.toNat_ofNat']; omega
    have hs := sl_obj (C := [B b]) (alloc_new w (.cells #[B b] 5)) 1 rfl (by decide) (by simp [B, Value.oneCell'])
    have cvs := run_str (P := Try.prog) (d := 9) (l := [b]) Try.underlying27 Try.underlying5 Try.underlying9 hs
    have hcat := cat_k b
    rw [← hbv] at cvs
    have hf := @hQ _ (Grow.alloc w (.cells #[.int .u8 (97 + (i : Int))] 5))
    rw [hpl, ← hb, ← hm] at hf
    clear hQ hpl hs hm hb hbv
    go_wp2_with fail
    exact hf
  · have hpl : plc i = ⟨⟨#[107]⟩, i, 0⟩ := by unfold plc; rw [if_neg hp0, if_neg (by omega), if_pos (by omega)]
    have hf := @hQ _ (Grow.refl w)
    rw [hpl, ← hm] at hf
    clear hQ hpl hm
    go_wp2_with fail
    exact hf
  · have hpl : plc i = ⟨⟨#[107]⟩, 0, i⟩ := by unfold plc; rw [if_neg hp0, if_neg (by omega), if_neg (by omega)]
    have hf := @hQ _ (Grow.refl w)
    rw [hpl, ← hm] at hf
    clear hQ hpl hm
    go_wp2_with fail
    exact hf

set_option maxRecDepth 100000 in
set_option maxHeartbeats 2000000 in
theorem idApN (seed : Int) (a0 : Option Addr) (c0 : Nat) (text : List UInt8) (n : Nat) (hn : n ≤ 20) (ht : text.length ≤ 100) (w : World) (s0 : Sl w 1 a0 text.length c0 (text.map B))
    (R : Ending → World → Prop) (hR : ∀ w', Grow w w' → R (.returned (.bool true)) w') :
    Calls Try.prog 5 #[.int .i64 seed, .slice a0 text.length c0, .int .i64 (n : Int)] w R := by
  have hml : maxLen = 9223372036854775807 := rfl
  have haw := awake10C
  have hd1 : decide (100 < (text.length : Int)) = false := decide_eq_false (by omega)
  have hd2 : decide ((n : Int) < 0) = false := decide_eq_false (by omega)
  have hd3 : decide (20 < (n : Int)) = false := decide_eq_false (by omega)
  have htc := alikeTapeC seed 2000 (by decide) w
  have hbl := fun w' (g : Grow w w') => blockC a0 c0 text w' (s0.grow g)
  obtain ⟨x, hx⟩ : ∃ x, x = b16 text := ⟨_, rfl⟩
  have hXl : (x.b.map B).length = 16 := by rw [List.length_map]; exact x.h
  have hX1 := B_one x.b
  have hxb : (blockS text).map B = x.b.map B := by rw [hx]; rfl
  simp only [hxb] at hbl
  obtain ⟨VX, hVX⟩ : ∃ V, V = x.b.map B := ⟨_, rfl⟩
  rw [← hVX] at hXl hX1
  simp only [← hVX] at hbl
  have eX : ekB x = .agg VX.toArray := by rw [hVX]; rfl
  have EX := Lib.hid eX
  have eqX : ∀ w, (Op.equalIn 10000 33 (.agg VX.toArray) (.agg VX.toArray)).run Try.prog w = .ok true w := fun w => by
    have := okB.eq x x w
    rw [decide_eq_true rfl, eX] at this
    exact this
  have hsX : (Try.prog.info? 33).map (·.size) = some VX.length := by rw [hXl]; exact i16
  obtain ⟨tn, htn⟩ : ∃ m, m = text.length := ⟨_, rfl⟩
  simp only [← htn] at hbl hd1 ⊢
  clear hx hxb hVX eX htn s0 ht
  go_enter Try.func5, Try.ntmps5
  go_wp2_with fail
  refine htc _ ?_
  clear htc hd1 hd2 hd3
  intro ao c bs w1 hlen s1 g1
  have hb2 : (bs.map B).length = 2000 := by rw [List.length_map]; exact hlen
  have hc := tapeNew ao c (bs.map B) w1 (by rw [hb2]; exact s1) (by rw [hb2]; decide)
  rw [hb2] at hc
  clear s1
  go_wp2_with fail
  refine hc _ ?_
  clear hc
  intro t wf rb w3 ht g3 f3 _
  go_wp2_with fail
  refine newCi t wf rb bs w3 ht (tape_nodup ht) _ ?_
  clear ht
  intro p P K w4 hC g4 hp hP hK
  obtain ⟨fp, hC4, hf4⟩ := ci_new (g1.trans g3) (fun g hg => Nat.le_trans g1.size (f3 g hg)) hC hp hP hK
  have G4 := (g1.trans g3).trans g4
  clear hC hp hP hK g1 g3 g4 f3
  have hb5 : bs.length ≤ 50000 := by omega
  have hc := hbl w4 G4
  clear hbl
  go_wp2_with fail
  refine hc _ ?_
  clear hc
  intro w5 g5
  have hC5 := hC4.grow g5
  have G5 := G4.trans g5
  have hlt5 := hC5.lt
  clear hC4 g5 G4
  obtain ⟨o9, ga1, th1, al1⟩ := newvar (t := 33) w5 (.int .u8 0) rfl (by omega) hXl hX1
  have hszF : (Try.prog.info? 33).map (·.size) = some VX.toArray.size := by rw [List.size_toArray, hXl]; exact i16
  go_upto_region 8 with (refine wpList_store_mid rfl 33 _ _ rfl w5.heap.size 0 VX.toArray rfl rfl th1 hszF al1 ?_)
  change Code.wp _ _ _ ⟨_, _⟩ ((w5.alloc (.cells (List.replicate 16 (.int .u8 0)).toArray 33)).setCells w5.heap.size 0 VX)
  have G6 := G5.trans ga1
  have hC6 := hC5.grow ga1
  obtain ⟨q9, hq⟩ : ∃ q, q = w5.heap.size := ⟨_, rfl⟩
  generalize (w5.alloc (.cells (List.replicate 16 (.int .u8 0)).toArray 33)).setCells w5.heap.size 0 VX = w6 at *
  rw [← hq] at o9 ⊢
  have hge_q9 : w5.heap.size ≤ q9 := by omega
  clear hq th1 al1 ga1 hszF G5 hC5
  have D9 : q9 ∉ fp := fun hm => by have := hlt5 q9 hm; omega
  clear hlt5 hge_q9
  obtain ⟨a, sA, hfirst, hA⟩ := ap_first bs hlen x
  have hc := encSC hC6 hb5 (by decide) (by decide) ⟨#[119]⟩ exX x
  rw [show (⟨0, [], 0, 0⟩ : IdS) = exS0 from rfl, hfirst, EX.out] at hc
  have hAl : (a.b.map B).length = 16 := by rw [List.length_map]; exact a.h
  have hA1 := B_one a.b
  obtain ⟨VA, hVA⟩ : ∃ V, V = a.b.map B := ⟨_, rfl⟩
  rw [← hVA] at hAl hA1
  have eA : ekB a = .agg VA.toArray := by rw [hVA]; rfl
  have eqA : ∀ w, (Op.equalIn 10000 33 (.agg VA.toArray) (.agg VA.toArray)).run Try.prog w = .ok true w := fun w => by
    have := okB.eq a a w
    rw [decide_eq_true rfl, eA] at this
    exact this
  have EA := Lib.hid eA
  have hsA : (Try.prog.info? 33).map (·.size) = some VA.length := by rw [hAl]; exact i16
  have hrg := own_range o9 (by omega)
  rw [EA.out] at hc
  have HA := Lib.hid hA
  clear hfirst hVA eA hA
  go_wp2_with (refine wpList_load_mid rfl 33 _ rfl q9 0 rfl VX _ hrg Try.underlying33 rfl hsX ?_)
  refine hc _ ?_
  clear hc hrg
  intro fp7 w7 hC7 k7 in7
  obtain ⟨G7, hf7⟩ := ci_step G6 hf4 k7 in7
  have o97 := o9.keep k7 (fun g hg => by simp [blk] at hg; subst hg; exact D9)
  have D97 := ci_out (o9.lt q9 (by simp [blk])) D9 in7
  have hlt7 := hC7.lt
  clear G6 hf4 k7 in7 o9 D9 hC6
  obtain ⟨o10, ga1, th1, al1⟩ := newvar (t := 33) w7 (.int .u8 0) rfl (by omega) hAl hA1
  have hszF : (Try.prog.info? 33).map (·.size) = some VA.toArray.size := by rw [List.size_toArray, hAl]; exact i16
  go_upto_region 9 with (refine wpList_store_mid rfl 33 _ _ rfl w7.heap.size 0 VA.toArray rfl rfl th1 hszF al1 ?_)
  change Code.wp _ _ _ ⟨_, _⟩ ((w7.alloc (.cells (List.replicate 16 (.int .u8 0)).toArray 33)).setCells w7.heap.size 0 VA)
  have G8 := G7.trans ga1
  have hC8 := hC7.grow ga1
  have o98 := o97.grow ga1
  obtain ⟨q10, hq⟩ : ∃ q, q = w7.heap.size := ⟨_, rfl⟩
  generalize (w7.alloc (.cells (List.replicate 16 (.int .u8 0)).toArray 33)).setCells w7.heap.size 0 VA = w8 at *
  rw [← hq] at o10 ⊢
  have hge_q10 : w7.heap.size ≤ q10 := by omega
  clear hq th1 al1 ga1 hszF G7 hC7 o97
  have D10 : q10 ∉ fp7 := fun hm => by have := hlt7 q10 hm; omega
  clear hlt7 hge_q10
  go_wp2_with fail
  go_loopw [12] (fun vi wr => ∃ (i : Nat) (s : IdS) (f2 : List Nat), vi = .int .i64 (i : Int) ∧ 1 ≤ i ∧ i ≤ n + 1 ∧ Hid (ApI x a i s) ∧ CiS wr p t f2 bs s [] ∧ Grow w wr ∧ Hid (∀ g ∈ f2, w.heap.size ≤ g) ∧ Own wr 33 1 (some ⟨q9, 0, none⟩) 16 16 VX ∧ Own wr 33 1 (some ⟨q10, 0, none⟩) 16 16 VA ∧ q9 ∉ f2 ∧ q10 ∉ f2) (fun vi _ => n + 1 - (intOf vi).toNat)
  case atStart => exact ⟨1, sA, fp7, by simp, by omega, by omega, HA, hC8, G8, Lib.hid hf7, o98, o10, D97, D10⟩
  case round =>
    clear hC8 G8 o98 o10 HA
    obtain ⟨i, s, f2, rfl, hi1, hi, hap, hC, G, hf, o9, o10, n9, n10⟩ := hrel
    by_cases hlt : i ≤ n
    · obtain ⟨y, s1, he, hd, hap1⟩ := ap_next bs hlen x a i hi1 (by omega) s hap.out
      have hl0 := leftCi hC hb5
      obtain ⟨L, hL⟩ : ∃ L, L = bs.length - s.a := ⟨_, rfl⟩
      rw [← hL] at hl0
      have hL16 : 16 ≤ L ∧ bs.length - s1.a + 16 = L := by rw [hL, hap.out.fa, hap1.fa, hlen]; omega
      have hL2 : ((bs.length - s1.a : Nat) : Int) = (L : Int) - 16 := by omega
      have hcnt : ((s1.cnt : Nat) : Int) = (i : Int) + 1 := by rw [hap1.fc]; omega
      have hsc : s.cnt ≤ 100000 := by rw [hap.out.fc]; omega
      have hsg : s.ag ≤ 100000 := by rw [hap.out.fg]; omega
      have hsc1 : s1.cnt ≤ 100000 := by rw [hap1.fc]; omega
      have hsg1 : s1.ag ≤ 100000 := by rw [hap1.fg]; omega
      have Hap1 := Lib.hid hap1
      have hLl : L ≤ 2000 := by omega
      clear hap hL hap1
      go_wp2_with fail
      refine hl0 _ ?_
      clear hl0
      intro w9 g9
      have hC9 := hC.grow g9
      have G9 := G.trans g9
      have o99 := o9.grow g9
      have o109 := o10.grow g9
      clear hC G g9 o9 o10
      go_upto_block 2 with (fail)
      rw [show (i : Int) % 3 = ((i % 3 : Nat) : Int) by omega]
      refine idApS i hi1 (by omega) w9 ?_
      intro w10 g10
      intros
      have hC10 := hC9.grow g10
      have G10 := G9.trans g10
      have o910 := o99.grow g10
      have o1010 := o109.grow g10
      obtain ⟨X, hX⟩ : ∃ X, X = plc i := ⟨_, rfl⟩
      rw [← hX] at he hd ⊢
      have hc := encSC hC10 hb5 hsc hsg ⟨#[119]⟩ X x
      rw [he, EX.out] at hc
      have hyl : (y.b.map B).length = 16 := by rw [List.length_map]; exact y.h
      have hy1 := B_one y.b
      obtain ⟨VY, hVY⟩ : ∃ V, V = y.b.map B := ⟨_, rfl⟩
      rw [← hVY] at hyl hy1
      have eY : ekB y = .agg VY.toArray := by rw [hVY]; rfl
      rw [eY] at hc
      have hrg := own_range o910 (by omega)
      have hsY : (Try.prog.info? 33).map (·.size) = some VY.length := by rw [hyl]; exact i16
      have EY := Lib.hid eY
      have Hd := Lib.hid hd
      clear hC9 G9 g10 o99 o109 hX he hd hVY eY
      go_wp2_with (refine wpList_load_mid rfl 33 _ rfl q9 0 rfl VX _ hrg Try.underlying33 rfl hsX ?_)
      refine hc _ ?_
      clear hc hrg
      intro fp11 w11 hC11 k11 in11
      obtain ⟨G11, hf11⟩ := ci_step G10 hf.out k11 in11
      have o911 := o910.keep k11 (fun g hg => by simp [blk] at hg; subst hg; exact n9)
      have o1011 := o1010.keep k11 (fun g hg => by simp [blk] at hg; subst hg; exact n10)
      have n911 := ci_out (o910.lt q9 (by simp [blk])) n9 in11
      have n1011 := ci_out (o1010.lt q10 (by simp [blk])) n10 in11
      have hlt11 := hC11.lt
      clear hC10 G10 o910 o1010 k11 in11 n9 n10 hf
      obtain ⟨o17, ga1, th1, al1⟩ := newvar (t := 33) w11 (.int .u8 0) rfl (by omega) hyl hy1
      have hszF : (Try.prog.info? 33).map (·.size) = some VY.toArray.size := by rw [List.size_toArray, hyl]; exact i16
      go_upto_region 24 with (refine wpList_store_mid rfl 33 _ _ rfl w11.heap.size 0 VY.toArray rfl rfl th1 hszF al1 ?_)
      change Code.wp _ _ _ ⟨_, _⟩ ((w11.alloc (.cells (List.replicate 16 (.int .u8 0)).toArray 33)).setCells w11.heap.size 0 VY)
      have G12 := G11.trans ga1
      have hC12 := hC11.grow ga1
      have o912 := o911.grow ga1
      have o1012 := o1011.grow ga1
      obtain ⟨q17, hq⟩ : ∃ q, q = w11.heap.size := ⟨_, rfl⟩
      generalize (w11.alloc (.cells (List.replicate 16 (.int .u8 0)).toArray 33)).setCells w11.heap.size 0 VY = w12 at *
      rw [← hq] at o17 ⊢
      have hge_q17 : w11.heap.size ≤ q17 := by omega
      clear hq th1 al1 ga1 hszF G11 hC11 o911 o1011
      have n17 : q17 ∉ fp11 := fun hm => by have := hlt11 q17 hm; omega
      clear hlt11 hge_q17
      have hc := decSC hC12 hb5 hsc1 hsg1 ⟨#[119]⟩ X y
      rw [Hd.out, EX.out, EY.out] at hc
      have hrg := own_range o17 (by omega)
      go_wp2_with (refine wpList_load_mid rfl 33 _ rfl q17 0 rfl VY _ hrg Try.underlying33 rfl hsY ?_)
      refine hc _ ?_
      clear hc hrg
      intro fp13 w13 hC13 k13 in13
      obtain ⟨G13, hf13⟩ := ci_step G12 hf11 k13 in13
      have o913 := o912.keep k13 (fun g hg => by simp [blk] at hg; subst hg; exact n911)
      have o1013 := o1012.keep k13 (fun g hg => by simp [blk] at hg; subst hg; exact n1011)
      have n913 := ci_out (o912.lt q9 (by simp [blk])) n911 in13
      have n1013 := ci_out (o1012.lt q10 (by simp [blk])) n1011 in13
      clear hC12 G12 o912 o1012 k13 in13 n911 n1011 hf11 o17 n17 Hd EY hsY
      obtain ⟨o19, ga1, th1, al1⟩ := newvar (t := 33) w13 (.int .u8 0) rfl (by omega) hXl hX1
      have hszF : (Try.prog.info? 33).map (·.size) = some VX.toArray.size := by rw [List.size_toArray, hXl]; exact i16
      go_upto_region 25 with (refine wpList_store_mid rfl 33 _ _ rfl w13.heap.size 0 VX.toArray rfl rfl th1 hszF al1 ?_)
      change Code.wp _ _ _ ⟨_, _⟩ ((w13.alloc (.cells (List.replicate 16 (.int .u8 0)).toArray 33)).setCells w13.heap.size 0 VX)
      have G14 := G13.trans ga1
      have hC14 := hC13.grow ga1
      have o914 := o913.grow ga1
      have o1014 := o1013.grow ga1
      obtain ⟨q19, hq⟩ : ∃ q, q = w13.heap.size := ⟨_, rfl⟩
      generalize (w13.alloc (.cells (List.replicate 16 (.int .u8 0)).toArray 33)).setCells w13.heap.size 0 VX = w14 at *
      rw [← hq] at o19 ⊢
      have hge_q19 : w13.heap.size ≤ q19 := by omega
      clear hq th1 al1 ga1 hszF G13 hC13 o913 o1013
      have hrg9 := own_range o914 (by omega)
      have hrg19 := own_range o19 (by omega)
      have hl1 := leftCi hC14 hb5
      rw [hL2] at hl1
      have hp1 := fun w' (g : Grow w14 w') => pairsC (hC14.grow g)
      rw [hcnt] at hp1
      clear hge_q19
      go_wp2_with (first | refine wpList_load_G 33 _ rfl rfl q19 0 rfl VX _ hrg19 Try.underlying33 rfl hsX ?_ | refine wpList_load_G 33 _ rfl rfl q9 0 rfl VX _ hrg9 Try.underlying33 rfl hsX ?_)
      refine hl1 _ ?_
      clear hl1 hrg9 hrg19
      intro w15 g15
      have hC15 := hC14.grow g15
      have G15 := G14.trans g15
      have o915 := o914.grow g15
      have o1015 := o1014.grow g15
      have hp2 := hp1 w15 g15
      clear hp1 hC14 G14 o914 o1014 g15 o19
      go_wp2_with fail
      refine hp2 _ ?_
      clear hp2
      go_wp2_with fail
      go_roundw
      case rel => exact ⟨i + 1, s1, fp13, by go_num, by omega, by omega, Hap1, hC15, G15, Lib.hid hf13, o915, o1015, n913, n1013⟩
      case measure => simp [intOf]; omega
    · obtain rfl : i = n + 1 := by omega
      obtain ⟨s2, he, hg2⟩ := ap_last bs x a (n + 1) s hap.out
      have hc := encSC hC hb5 (by rw [hap.out.fc]; omega) (by rw [hap.out.fg]; omega) ⟨#[119]⟩ exX x
      rw [he, EX.out, EA.out] at hc
      have hrg := own_range o9 (by omega)
      clear he hap
      go_wp2_with (refine wpList_load_mid rfl 33 _ rfl q9 0 rfl VX _ hrg Try.underlying33 rfl hsX ?_)
      refine hc _ ?_
      clear hc hrg
      intro fp11 w11 hC11 k11 in11
      obtain ⟨G11, -⟩ := ci_step G hf.out k11 in11
      have o1011 := o10.keep k11 (fun g hg => by simp [blk] at hg; subst hg; exact n10)
      clear hC G o9 o10 k11 in11 n9 n10 hf
      obtain ⟨o21, ga1, th1, al1⟩ := newvar (t := 33) w11 (.int .u8 0) rfl (by omega) hAl hA1
      have hszF : (Try.prog.info? 33).map (·.size) = some VA.toArray.size := by rw [List.size_toArray, hAl]; exact i16
      go_upto_region 28 with (refine wpList_store_mid rfl 33 _ _ rfl w11.heap.size 0 VA.toArray rfl rfl th1 hszF al1 ?_)
      change Code.wp _ _ _ ⟨_, _⟩ ((w11.alloc (.cells (List.replicate 16 (.int .u8 0)).toArray 33)).setCells w11.heap.size 0 VA)
      have G12 := G11.trans ga1
      have hC12 := hC11.grow ga1
      have o1012 := o1011.grow ga1
      obtain ⟨q21, hq⟩ : ∃ q, q = w11.heap.size := ⟨_, rfl⟩
      generalize (w11.alloc (.cells (List.replicate 16 (.int .u8 0)).toArray 33)).setCells w11.heap.size 0 VA = w12 at *
      rw [← hq] at o21 ⊢
      have hge_q21 : w11.heap.size ≤ q21 := by omega
      clear hq th1 al1 ga1 hszF G11 hC11 o1011
      have hrg10 := own_range o1012 (by omega)
      have hrg21 := own_range o21 (by omega)
      have hag := againC hC12
      rw [hg2] at hag
      clear hge_q21
      go_wp2_with (first | refine wpList_load_G 33 _ rfl rfl q21 0 rfl VA _ hrg21 Try.underlying33 rfl hsA ?_ | refine wpList_load_G 33 _ rfl rfl q10 0 rfl VA _ hrg10 Try.underlying33 rfl hsA ?_)
      refine hag _ ?_
      clear hag hrg10 hrg21 hC12
      go_wp2_with fail
      refine haw _ _ ?_
      intro w13 g13
      have hf2 := hR _ (G12.trans g13)
      clear hR
      go_wp2_with fail
      exact hf2

set_option maxRecDepth 100000 in
set_option maxHeartbeats 1000000 in
theorem idApW (seed : Int) (a0 : Option Addr) (c0 : Nat) (text : List UInt8) (n0 : Int) (w : World) (_ : (Lit.int IntKind.i64 seed).wf = true) (s0 : Sl w 1 a0 text.length c0 (text.map B)) (_ : (Lit.int IntKind.i64 n0).wf = true)
    (R : Ending → World → Prop) (hR : ∀ w', Grow w w' → R (.returned (.bool true)) w') :
    Calls Try.prog 5 #[.int .i64 seed, .slice a0 text.length c0, .int .i64 n0] w R := by
  have hml : maxLen = 9223372036854775807 := rfl
  have haw := awake10C
  have hm0 := s0.hcap
  have hn0 := s0.hle
  by_cases hx1 : 100 < text.length
  · go_enter Try.func5, Try.ntmps5
    go_wp2_with fail
    refine haw _ _ ?_
    intro w2 g2
    have hf := hR w2 g2
    clear hR
    go_wp2_with fail
    exact hf
  have hg1 : decide (100 < (text.length : Int)) = false := decide_eq_false (by omega)
  by_cases hx2 : n0 < 0
  · go_enter Try.func5, Try.ntmps5
    go_wp2_with fail
    refine haw _ _ ?_
    intro w2 g2
    have hf := hR w2 g2
    clear hR
    go_wp2_with fail
    exact hf
  have hg2 : decide (n0 < 0) = false := decide_eq_false (by omega)
  by_cases hx3 : 20 < n0
  · go_enter Try.func5, Try.ntmps5
    go_wp2_with fail
    refine haw _ _ ?_
    intro w2 g2
    have hf := hR w2 g2
    clear hR
    go_wp2_with fail
    exact hf
  have hg3 : decide (20 < n0) = false := decide_eq_false (by omega)
  obtain ⟨n, rfl⟩ : ∃ n : Nat, n0 = n := ⟨n0.toNat, by omega⟩
  exact idApN seed a0 c0 text n (by omega) (by omega) w s0 R hR
end Go.Proofs.Ytfmnkcmicbnfdaa
