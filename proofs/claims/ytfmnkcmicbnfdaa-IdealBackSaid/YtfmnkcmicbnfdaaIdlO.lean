/- awake of law 10: the walk. -/
import Derived.Test.YtfmnkcmicbnfdaaIdlN
import Derived.Lib.SlBytesConst
import Derived.Test.YtfmnkcmicbnfdaaGTabE
namespace Go.Proofs.Ytfmnkcmicbnfdaa
open Go Go.RowKit

theorem ci_step {w wi w' : World} {fp fp' : List Nat} (G : Grow w wi) (hf : ∀ g ∈ fp, w.heap.size ≤ g) (k : Keep fp wi w') (hin : ∀ g ∈ fp', g ∈ fp ∨ wi.heap.size ≤ g) : Grow w w' ∧ ∀ g ∈ fp', w.heap.size ≤ g :=
  ⟨G.then k hf, fun g hg => (hin g hg).elim (hf g) (fun h => Nat.le_trans G.size h)⟩
theorem ci_out {wi : World} {fp fp' : List Nat} {q : Nat} (hq : q < wi.heap.size) (D : q ∉ fp) (hin : ∀ g ∈ fp', g ∈ fp ∨ wi.heap.size ≤ g) : q ∉ fp' := fun hm => by
  rcases hin q hm with h | h
  · exact D h
  · omega
/-- A cipher of a tape, new. -/
theorem ci_new {w w1 w2 : World} {p t P K : Nat} {wf rb : List Nat} {bs : List UInt8} (g1 : Grow w w1) (f1 : Fr wf w) (hC : Ci w2 p t P K wf rb bs 0 [] [] 0 0) (hp : w1.heap.size ≤ p) (hP : w1.heap.size ≤ P) (hK : w1.heap.size ≤ K) : ∃ fp, CiS w2 p t fp bs ⟨0, [], 0, 0⟩ [] ∧ ∀ g ∈ fp, w.heap.size ≤ g := by
  refine ⟨_, ⟨P, K, wf, rb, [], hC, rfl, rfl⟩, fun g hg => ?_⟩
  have := g1.size
  simp only [fpI, List.flatMap_nil, List.append_nil, List.mem_cons] at hg
  rcases hg with rfl | rfl | rfl | hg
  · omega
  · omega
  · omega
  · exact f1 g hg

set_option maxRecDepth 100000 in
set_option maxHeartbeats 2000000 in
theorem awake10C (w : World) (R : Ending → World → Prop) (hR : ∀ w', Grow w w' → R (.returned (.bool true)) w') :
    Calls Try.prog 14 #[] w R := by
  have hml : maxLen = 9223372036854775807 := rfl
  have kc := fun (w : World) (C : Array Value) (n c : Nat) => Lib.run_convert_bytes_const (P := Try.prog) w 27 5 C n c Try.underlying27 Try.underlying5
  have hsl := sl_obj (C := aw0.map B) (alloc_new w (.cells (aw0.map B).toArray 5 (35, 36))) 35 (by rfl) (by decide) (B_one _)
  have g0 := Grow.alloc w (.cells (aw0.map B).toArray 5 (35, 36))
  have hAl : ((b16 awA).b.map B).length = 16 := by rw [List.length_map]; exact (b16 awA).h
  have hA1 := B_one (b16 awA).b
  have hPl : (awP.b.map B).length = 16 := by rw [List.length_map]; exact awP.h
  have hP1 := B_one awP.b
  have hZl : (b16z.b.map B).length = 16 := by rw [List.length_map]; exact b16z.h
  have hZ1 := B_one b16z.b
  go_enter Try.func14, Try.ntmps14
  go_wp2_with fail
  refine tapeNew _ _ (aw0.map B) _ hsl (by decide) _ ?_
  clear kc hsl
  intro t wf rb w1 ht g1 f1 _
  go_wp2_with fail
  refine newCi t wf rb aw0 w1 ht (tape_nodup ht) _ ?_
  clear ht
  intro p P K w2 hC g2 hp hP hK
  obtain ⟨fp, hC2, hf⟩ := ci_new (g0.trans g1) (fun g hg => Nat.le_trans g0.size (f1 g hg)) hC hp hP hK
  have G2 := (g0.trans g1).trans g2
  clear hC hp hP hK g0 g1 g2 f1
  go_wp2_with fail
  refine blockStr ⟨#[112]⟩ [112] rfl (by decide) _ _ ?_
  intro w3 g3
  have hc := encSC (hC2.grow g3) (by decide) (by decide) (by decide) ⟨#[119]⟩ awX awP
  rw [show (⟨0, [], 0, 0⟩ : IdS) = awS0 from rfl, aw_e1] at hc
  have G3 := G2.trans g3
  clear hC2 g3 G2
  go_wp2_with fail
  refine hc _ ?_
  clear hc
  intro fp4 w4 hC4 k4 in4
  obtain ⟨G4, hf4⟩ := ci_step G3 hf k4 in4
  obtain ⟨VA, hVA⟩ : ∃ V, V = (b16 awA).b.map B := ⟨_, rfl⟩
  obtain ⟨VP, hVP⟩ : ∃ V, V = awP.b.map B := ⟨_, rfl⟩
  obtain ⟨VZ, hVZ⟩ : ∃ V, V = b16z.b.map B := ⟨_, rfl⟩
  rw [← hVA] at hAl hA1
  rw [← hVP] at hPl hP1
  rw [← hVZ] at hZl hZ1
  have eA : ekB (b16 awA) = .agg VA.toArray := by rw [hVA]; rfl
  have eP : ekB awP = .agg VP.toArray := by rw [hVP]; rfl
  have eZ : ekB b16z = .agg VZ.toArray := by rw [hVZ]; rfl
  rw [eA]
  have HA := Lib.hid hVA
  have HP := Lib.hid hVP
  have EA := Lib.hid eA
  have EP := Lib.hid eP
  have EZ := Lib.hid eZ
  clear hVA hVP hVZ eA eP eZ hf k4 in4 G3
  have hlt4 := hC4.lt
  obtain ⟨o2, ga1, th1, al1⟩ := newvar (t := 33) w4 (.int .u8 0) rfl (by omega) hAl hA1
  have hszF : (Try.prog.info? 33).map (·.size) = some VA.toArray.size := by rw [List.size_toArray, hAl]; exact i16
  go_upto_region 5 with (refine wpList_store_mid rfl 33 _ _ rfl w4.heap.size 0 VA.toArray rfl rfl th1 hszF al1 ?_)
  change Code.wp _ _ _ ⟨_, _⟩ ((w4.alloc (.cells (List.replicate 16 (.int .u8 0)).toArray 33)).setCells w4.heap.size 0 VA)
  have G5 := G4.trans ga1
  have hC5 := hC4.grow ga1
  obtain ⟨q2, hq⟩ : ∃ q, q = w4.heap.size := ⟨_, rfl⟩
  generalize (w4.alloc (.cells (List.replicate 16 (.int .u8 0)).toArray 33)).setCells w4.heap.size 0 VA = w5 at *
  rw [← hq] at o2 ⊢
  have hge_q2 : w4.heap.size ≤ q2 := by omega
  clear hq th1 al1 ga1 hszF G4 hC4
  have D2 : q2 ∉ fp4 := fun hm => by have := hlt4 q2 hm; omega
  clear hlt4 hge_q2
  go_wp2_with fail
  refine blockStr ⟨#[112]⟩ [112] rfl (by decide) _ _ ?_
  intro w6 g6
  have hc := encSC (hC5.grow g6) (by decide) (by decide) (by decide) ⟨#[119]⟩ awX awP
  rw [aw_e2] at hc
  have G6 := G5.trans g6
  have o26 := o2.grow g6
  have l26 := o26.lt q2 (by simp [blk])
  clear hC5 g6 G5 o2
  go_wp2_with fail
  refine hc _ ?_
  clear hc
  intro fp7 w7 hC7 k7 in7
  rw [EA.out]
  obtain ⟨G7, hf7⟩ := ci_step G6 hf4 k7 in7
  have o27 := o26.keep k7 (fun g hg => by simp [blk] at hg; subst hg; exact D2)
  have D27 := ci_out l26 D2 in7
  have hlt7 := hC7.lt
  clear G6 hf4 k7 in7 o26 l26 D2
  obtain ⟨o4, ga1, th1, al1⟩ := newvar (t := 33) w7 (.int .u8 0) rfl (by omega) hAl hA1
  have hszF : (Try.prog.info? 33).map (·.size) = some VA.toArray.size := by rw [List.size_toArray, hAl]; exact i16
  go_upto_region 6 with (refine wpList_store_mid rfl 33 _ _ rfl w7.heap.size 0 VA.toArray rfl rfl th1 hszF al1 ?_)
  change Code.wp _ _ _ ⟨_, _⟩ ((w7.alloc (.cells (List.replicate 16 (.int .u8 0)).toArray 33)).setCells w7.heap.size 0 VA)
  have G8 := G7.trans ga1
  have hC8 := hC7.grow ga1
  have o28 := o27.grow ga1
  obtain ⟨q4, hq⟩ : ∃ q, q = w7.heap.size := ⟨_, rfl⟩
  generalize (w7.alloc (.cells (List.replicate 16 (.int .u8 0)).toArray 33)).setCells w7.heap.size 0 VA = w8 at *
  rw [← hq] at o4 ⊢
  have hge_q4 : w7.heap.size ≤ q4 := by omega
  clear hq th1 al1 ga1 hszF G7 hC7 o27
  have D4 : q4 ∉ fp7 := fun hm => by have := hlt7 q4 hm; omega
  clear hlt7 hge_q4
  have hc := decSC hC8 (by decide) (by decide) (by decide) ⟨#[119]⟩ awX (b16 awA)
  rw [aw_e3, EA.out, EP.out] at hc
  have hrg2 := own_range o28 (by omega)
  have hsA : (Try.prog.info? 33).map (·.size) = some VA.length := by rw [hAl]; exact i16
  go_wp2_with (refine wpList_load_mid rfl 33 _ rfl q2 0 rfl VA _ hrg2 Try.underlying33 rfl hsA ?_)
  refine hc _ ?_
  clear hc hrg2
  intro fp9 w9 hC9 k9 in9
  obtain ⟨G9, hf9⟩ := ci_step G8 hf7 k9 in9
  have l28 := o28.lt q2 (by simp [blk])
  have l48 := o4.lt q4 (by simp [blk])
  have o29 := o28.keep k9 (fun g hg => by simp [blk] at hg; subst hg; exact D27)
  have o49 := o4.keep k9 (fun g hg => by simp [blk] at hg; subst hg; exact D4)
  have D29 := ci_out l28 D27 in9
  have D49 := ci_out l48 D4 in9
  have hlt9 := hC9.lt
  clear G8 hf7 k9 in9 o28 o4 l28 l48 D27 D4 hC8
  obtain ⟨o6, ga1, th1, al1⟩ := newvar (t := 33) w9 (.int .u8 0) rfl (by omega) hPl hP1
  have hszF : (Try.prog.info? 33).map (·.size) = some VP.toArray.size := by rw [List.size_toArray, hPl]; exact i16
  go_upto_region 7 with (refine wpList_store_mid rfl 33 _ _ rfl w9.heap.size 0 VP.toArray rfl rfl th1 hszF al1 ?_)
  change Code.wp _ _ _ ⟨_, _⟩ ((w9.alloc (.cells (List.replicate 16 (.int .u8 0)).toArray 33)).setCells w9.heap.size 0 VP)
  have G10 := G9.trans ga1
  have hC10 := hC9.grow ga1
  have o210 := o29.grow ga1
  have o410 := o49.grow ga1
  obtain ⟨q6, hq⟩ : ∃ q, q = w9.heap.size := ⟨_, rfl⟩
  generalize (w9.alloc (.cells (List.replicate 16 (.int .u8 0)).toArray 33)).setCells w9.heap.size 0 VP = w10 at *
  rw [← hq] at o6 ⊢
  have hge_q6 : w9.heap.size ≤ q6 := by omega
  clear hq th1 al1 ga1 hszF G9 hC9 o29 o49
  have D6 : q6 ∉ fp9 := fun hm => by have := hlt9 q6 hm; omega
  clear hlt9 hge_q6
  go_wp2_with fail
  refine blockStr ⟨#[113]⟩ [113] rfl (by decide) _ _ ?_
  intro w11 g11
  have hc := encSC (hC10.grow g11) (by decide) (by decide) (by decide) ⟨#[119]⟩ awX awQ
  rw [aw_e4, EZ.out] at hc
  have G11 := G10.trans g11
  have o211 := o210.grow g11
  have o411 := o410.grow g11
  have o611 := o6.grow g11
  clear hC10 g11 G10 o210 o410 o6
  go_wp2_with fail
  refine hc _ ?_
  clear hc
  intro fp12 w12 hC12 k12 in12
  obtain ⟨G12, hf12⟩ := ci_step G11 hf9 k12 in12
  have o212 := o211.keep k12 (fun g hg => by simp [blk] at hg; subst hg; exact D29)
  have o412 := o411.keep k12 (fun g hg => by simp [blk] at hg; subst hg; exact D49)
  have o612 := o611.keep k12 (fun g hg => by simp [blk] at hg; subst hg; exact D6)
  have D212 := ci_out (o211.lt q2 (by simp [blk])) D29 in12
  have D412 := ci_out (o411.lt q4 (by simp [blk])) D49 in12
  have D612 := ci_out (o611.lt q6 (by simp [blk])) D6 in12
  clear G11 hf9 k12 in12 o211 o411 o611 D29 D49 D6
  obtain ⟨o8, ga1, th1, al1⟩ := newvar (t := 33) w12 (.int .u8 0) rfl (by omega) hZl hZ1
  have hszF : (Try.prog.info? 33).map (·.size) = some VZ.toArray.size := by rw [List.size_toArray, hZl]; exact i16
  go_upto_region 8 with (refine wpList_store_mid rfl 33 _ _ rfl w12.heap.size 0 VZ.toArray rfl rfl th1 hszF al1 ?_)
  change Code.wp _ _ _ ⟨_, _⟩ ((w12.alloc (.cells (List.replicate 16 (.int .u8 0)).toArray 33)).setCells w12.heap.size 0 VZ)
  have G13 := G12.trans ga1
  have hC13 := hC12.grow ga1
  have o213 := o212.grow ga1
  have o413 := o412.grow ga1
  have o613 := o612.grow ga1
  obtain ⟨q8, hq⟩ : ∃ q, q = w12.heap.size := ⟨_, rfl⟩
  generalize (w12.alloc (.cells (List.replicate 16 (.int .u8 0)).toArray 33)).setCells w12.heap.size 0 VZ = w13 at *
  rw [← hq] at o8 ⊢
  have hge_q8 : w12.heap.size ≤ q8 := by omega
  clear hq th1 al1 ga1 hszF G12 hC12 o212 o412 o612
  clear o8 hge_q8
  go_wp2_with fail
  refine idlKeyC hC13 (by decide) ⟨#[119]⟩ none 0 [] none 0 [] 1 3 (Sl.none _ _) (Sl.none _ _) (by decide) (by decide) (by decide) (by decide) (by decide) (by simp [hadS, kvA, look, lookN]) _ ⟨fun h => absurd h (by show ¬ (3 ≤ 0); decide), fun _ h => absurd h (by show ¬ (aw0.length < 32 + (3 - 0)); decide), fun _ _ ao c ks' fp14 w14 o14 hC14 _ k14 in14 hf14 _ => ?_⟩
  have o14b : Own w14 5 1 ao 3 c (([88, 89, 90] : List UInt8).map B) := o14
  obtain ⟨G14, hfp14⟩ := ci_step G13 hf12 k14 in14
  have o214 := o213.keep k14 (fun g hg => by simp [blk] at hg; subst hg; exact D212)
  have o414 := o413.keep k14 (fun g hg => by simp [blk] at hg; subst hg; exact D412)
  have o614 := o613.keep k14 (fun g hg => by simp [blk] at hg; subst hg; exact D612)
  clear o14 hC13 G13 hf12 k14 in14 hf14 o213 o413 o613 D212 D412 D612 hfp14
  have hc := decNil ⟨#[119]⟩ ⟨#[107]⟩ 0 0 (b16 awA) w14
  rw [EA.out, EZ.out] at hc
  have hrg2 := own_range o214 (by omega)
  go_wp2_with (refine wpList_load_mid rfl 33 _ rfl q2 0 rfl VA _ hrg2 Try.underlying33 rfl hsA ?_)
  refine hc _ ?_
  clear hc hrg2
  intro w15 g15
  have G15 := G14.trans g15
  have o215 := o214.grow g15
  have o415 := o414.grow g15
  have o615 := o614.grow g15
  have o14c := o14b.grow g15
  have hC15 := hC14.grow g15
  clear g15 G14 o214 o414 o614 o14b hC14
  obtain ⟨o13, ga1, th1, al1⟩ := newvar (t := 33) w15 (.int .u8 0) rfl (by omega) hZl hZ1
  have hszF : (Try.prog.info? 33).map (·.size) = some VZ.toArray.size := by rw [List.size_toArray, hZl]; exact i16
  go_upto_region 11 with (refine wpList_store_mid rfl 33 _ _ rfl w15.heap.size 0 VZ.toArray rfl rfl th1 hszF al1 ?_)
  change Code.wp _ _ _ ⟨_, _⟩ ((w15.alloc (.cells (List.replicate 16 (.int .u8 0)).toArray 33)).setCells w15.heap.size 0 VZ)
  have G16 := G15.trans ga1
  have hC16 := hC15.grow ga1
  have o216 := o215.grow ga1
  have o416 := o415.grow ga1
  have o616 := o615.grow ga1
  have o14d := o14c.grow ga1
  obtain ⟨q13, hq⟩ : ∃ q, q = w15.heap.size := ⟨_, rfl⟩
  generalize (w15.alloc (.cells (List.replicate 16 (.int .u8 0)).toArray 33)).setCells w15.heap.size 0 VZ = w16 at *
  rw [← hq] at o13 ⊢
  have hge_q13 : w15.heap.size ≤ q13 := by omega
  clear hq th1 al1 ga1 hszF G15 hC15 o215 o415 o615 o14c
  clear o13 hge_q13
  have cvA : ∀ w', Keep [] w16 w' → (convert 27 9 (.slice (some ⟨q2, 0, none⟩) 16 16)).run Try.prog w' = .ok (.string (str awA)) w' := fun w' k => run_str (l := awA) Try.underlying27 Try.underlying5 Try.underlying9 (by have := (o216.keep k (by simp)).sl; rw [HA.out, aw_a] at this; exact this)
  have cvX : ∀ w', Keep [] w16 w' → (convert 27 9 (.slice ao 3 c)).run Try.prog w' = .ok (.string (str [88, 89, 90])) w' := fun w' k => run_str (l := [88, 89, 90]) Try.underlying27 Try.underlying5 Try.underlying9 ((o14d.keep k (by simp)).sl)
  have hsP : (Try.prog.info? 33).map (·.size) = some VP.length := by rw [hPl]; exact i16
  have ld2 : ∀ w', Keep [] w16 w' → (Instr.loadAt 33 (.pointer (some ⟨q2, 0, none⟩))).run Try.prog w' = .ok (.agg VA.toArray) w' := fun w' k => run_ld Try.underlying33 rfl hsA (own_cells4 (o216.keep k (by simp)) (by omega))
  have ld4 : ∀ w', Keep [] w16 w' → (Instr.loadAt 33 (.pointer (some ⟨q4, 0, none⟩))).run Try.prog w' = .ok (.agg VA.toArray) w' := fun w' k => run_ld Try.underlying33 rfl hsA (own_cells4 (o416.keep k (by simp)) (by omega))
  have ld6 : ∀ w', Keep [] w16 w' → (Instr.loadAt 33 (.pointer (some ⟨q6, 0, none⟩))).run Try.prog w' = .ok (.agg VP.toArray) w' := fun w' k => run_ld Try.underlying33 rfl hsP (own_cells4 (o616.keep k (by simp)) (by omega))
  have eqA : ∀ w, (Op.equalIn 10000 33 (.agg VA.toArray) (.agg VA.toArray)).run Try.prog w = .ok true w := fun w => by
    have := okB.eq (b16 awA) (b16 awA) w
    rw [decide_eq_true rfl, EA.out] at this
    exact this
  have eqP : ∀ w, (Op.equalIn 10000 33 (.agg VP.toArray) (.agg VP.toArray)).run Try.prog w = .ok true w := fun w => by
    have := okB.eq awP awP w
    rw [decide_eq_true rfl, EP.out] at this
    exact this
  have hbs : ∀ w (R : Ending → World → Prop), (∀ w', Grow w w' → R (.returned (.agg VP.toArray)) w') → Calls Try.prog 26 #[.string ⟨#[112]⟩] w R := fun w R h => blockStr ⟨#[112]⟩ [112] rfl (by decide) w R (by rw [show ekB (b16 [112]) = .agg VP.toArray from EP.out]; exact h)
  have hpn : ∀ w (R : Ending → World → Prop), (∀ w', Grow w w' → R (.returned (.int .i64 0)) w') → Calls Try.prog 22 #[.pointer none] w R := fun w R h => pairsNil w R (h w (Grow.refl w))
  have sA : (str awA).toList = awA := str_toList _
  have sX : (str [88, 89, 90]).toList = [88, 89, 90] := str_toList _
  have kA : (awA == ByteArray.toList ⟨#[48, 49, 50, 51, 52, 53, 54, 55, 56, 57, 97, 98, 99, 100, 101, 102]⟩) = true := by rw [ByteArray.toList_eq]; kernel_rfl
  have kX : (([88, 89, 90] : List UInt8) == ByteArray.toList ⟨#[88, 89, 90]⟩) = true := by rw [ByteArray.toList_eq]; kernel_rfl
  clear o216 o416 o616 o14d hA1 hP1 hZ1
  go_upto_region 11 with (fail)
  refine wp_region_R (segT w16 [(18, pIs (.agg VP.toArray)), (40, pIs (.int .i64 1)), (45, pIs (.int .i64 1)), (54, pIs (.int .i64 0))]) (by kernel_rfl) segT_drew ?_
  unfold segT segK segR
  repeat (first | (refine wpV_skp rfl rfl ?_; simp only [List.set_cons_succ, List.set_cons_zero]) | (refine wpV_val rfl rfl rfl rfl rfl _ (fun w hC => by obtain ⟨n, rfl⟩ := hC; exact exec_load (ld2 _ n.h)) ?_; simp only [List.set_cons_succ, List.set_cons_zero]) | (refine wpV_val rfl rfl rfl rfl rfl _ (fun w hC => by obtain ⟨n, rfl⟩ := hC; exact exec_load (ld4 _ n.h)) ?_; simp only [List.set_cons_succ, List.set_cons_zero]) | (refine wpV_val rfl rfl rfl rfl rfl _ (fun w hC => by obtain ⟨n, rfl⟩ := hC; exact exec_load (ld6 _ n.h)) ?_; simp only [List.set_cons_succ, List.set_cons_zero]) | (refine wpV_val rfl rfl rfl rfl rfl _ (fun w hC => by obtain ⟨n, rfl⟩ := hC; exact exec_conv (cvA _ n.h)) ?_; simp only [List.set_cons_succ, List.set_cons_zero]) | (refine wpV_look rfl rfl rfl rfl rfl (fun K hK => ?_); go_big_quiet_op; refine hK _ ?_; clear hK K))
  refine wpV_mk rfl rfl rfl [] rfl (fun vs w7 hC _ => yields_call (by kernel_rfl) ?_) (fun vs v w7 hC hV hF => ?_)
  · obtain ⟨⟨w7, hk, -⟩, rfl⟩ := hC
    exact hbs w7 _ (fun w8 g8 => ⟨_, rfl, ⟨Keep.of_grow [] g8, trivial⟩, rfl⟩)
  obtain rfl := hV
  clear hC hF w7
  simp only [List.set_cons_succ, List.set_cons_zero]
  repeat (first | (refine wpV_skp rfl rfl ?_; simp only [List.set_cons_succ, List.set_cons_zero]) | (refine wpV_val rfl rfl rfl rfl rfl _ (fun w hC => by obtain ⟨n, rfl⟩ := hC; exact exec_load (ld2 _ n.h)) ?_; simp only [List.set_cons_succ, List.set_cons_zero]) | (refine wpV_val rfl rfl rfl rfl rfl _ (fun w hC => by obtain ⟨n, rfl⟩ := hC; exact exec_load (ld4 _ n.h)) ?_; simp only [List.set_cons_succ, List.set_cons_zero]) | (refine wpV_val rfl rfl rfl rfl rfl _ (fun w hC => by obtain ⟨n, rfl⟩ := hC; exact exec_load (ld6 _ n.h)) ?_; simp only [List.set_cons_succ, List.set_cons_zero]) | (refine wpV_val rfl rfl rfl rfl rfl _ (fun w hC => by obtain ⟨n, rfl⟩ := hC; exact exec_conv (cvX _ n.h)) ?_; simp only [List.set_cons_succ, List.set_cons_zero]) | (refine wpV_look rfl rfl rfl rfl rfl (fun K hK => ?_); go_big_quiet_op; refine hK _ ?_; clear hK K))
  refine wpV_mk rfl rfl rfl [] (by kernel_rfl) (fun vs w7 hC _ => yields_call (by kernel_rfl) ?_) (fun vs v w7 hC hV hF => ?_)
  · obtain ⟨⟨w7, hk, -⟩, rfl⟩ := hC
    exact pairsC (hC16.grow hk.grow) _ ⟨_, rfl, ⟨Keep.refl _ _, trivial⟩, rfl⟩
  obtain rfl := hV
  clear hC hF w7
  simp only [List.set_cons_succ, List.set_cons_zero]
  repeat (first | (refine wpV_skp rfl rfl ?_; simp only [List.set_cons_succ, List.set_cons_zero]) | (refine wpV_look rfl rfl rfl rfl rfl (fun K hK => ?_); go_big_quiet_op; refine hK _ ?_; clear hK K))
  refine wpV_mk rfl rfl rfl [] (by kernel_rfl) (fun vs w7 hC _ => yields_call (by kernel_rfl) ?_) (fun vs v w7 hC hV hF => ?_)
  · obtain ⟨⟨w7, hk, -⟩, rfl⟩ := hC
    exact againC (hC16.grow hk.grow) _ ⟨_, rfl, ⟨Keep.refl _ _, trivial⟩, rfl⟩
  obtain rfl := hV
  clear hC hF w7
  simp only [List.set_cons_succ, List.set_cons_zero]
  repeat (first | (refine wpV_skp rfl rfl ?_; simp only [List.set_cons_succ, List.set_cons_zero]) | (refine wpV_look rfl rfl rfl rfl rfl (fun K hK => ?_); go_big_quiet_op; refine hK _ ?_; clear hK K))
  refine wpV_mk rfl rfl rfl [] rfl (fun vs w7 hC _ => yields_call (by kernel_rfl) ?_) (fun vs v w7 hC hV hF => ?_)
  · obtain ⟨⟨w7, hk, -⟩, rfl⟩ := hC
    exact hpn w7 _ (fun w8 g8 => ⟨_, rfl, ⟨Keep.of_grow [] g8, trivial⟩, rfl⟩)
  obtain rfl := hV
  clear hC hF w7
  simp only [List.set_cons_succ, List.set_cons_zero]
  repeat (first | (refine wpV_skp rfl rfl ?_; simp only [List.set_cons_succ, List.set_cons_zero]) | (refine wpV_look rfl rfl rfl rfl rfl (fun K hK => ?_); go_big_quiet_op; refine hK _ ?_; clear hK K))
  refine wpV_nil ?_
  intro w20 hC hF
  obtain ⟨⟨w20, hkw20, -⟩, rfl⟩ := hC
  clear hF
  have hf := hR _ (G16.trans hkw20.grow)
  clear hR
  go_wp2_with fail
  exact hf
end Go.Proofs.Ytfmnkcmicbnfdaa
