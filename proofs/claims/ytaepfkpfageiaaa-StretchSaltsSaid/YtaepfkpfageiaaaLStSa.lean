/- The walk of StretchSalts. -/
import Derived.Test.YtaepfkpfageiaaaStrAw
import Derived.Test.YtaepfkpfageiaaaRStr
namespace Go.Proofs.Ytaepfkpfageiaaa
open Go Go.RowKit

set_option maxRecDepth 100000 in
set_option maxHeartbeats 2000000 in
theorem strSaW (a0 : Option Addr) (c0 : Nat) (pass : List UInt8) (a1 : Option Addr) (c1 : Nat) (a : List UInt8) (a2 : Option Addr) (c2 : Nat) (b : List UInt8) (iz kz : Int) (w : World) (s0 : Sl w 1 a0 pass.length c0 (pass.map B)) (s1 : Sl w 1 a1 a.length c1 (a.map B)) (s2 : Sl w 1 a2 b.length c2 (b.map B)) (_ : (Lit.int IntKind.i64 iz).wf = true) (_ : (Lit.int IntKind.i64 kz).wf = true)
    (R : Ending → World → Prop) (hR : ∀ w', Grow w w' → R (.returned (.bool true)) w') :
    Calls Try.prog 13 #[.slice a0 pass.length c0, .slice a1 a.length c1, .slice a2 b.length c2, .int .i64 iz, .int .i64 kz] w R := by
  have hml : maxLen = 9223372036854775807 := rfl
  have haw := awake3C
  have hm0 := s0.hcap
  have hn0 := s0.hle
  have hm1 := s1.hcap
  have hn1 := s1.hle
  have hm2 := s2.hcap
  have hn2 := s2.hle
  by_cases hx1 : 128 < pass.length
  · go_enter Try.func13, Try.ntmps13
    go_wp2_with fail
    refine haw _ _ ?_
    intro w2 g2
    have hf := hR w2 g2
    clear hR
    go_wp2_with fail
    exact hf
  have hg1 : decide (128 < (pass.length : Int)) = false := decide_eq_false (by omega)
  by_cases hx2 : 64 < a.length
  · go_enter Try.func13, Try.ntmps13
    go_wp2_with fail
    refine haw _ _ ?_
    intro w2 g2
    have hf := hR w2 g2
    clear hR
    go_wp2_with fail
    exact hf
  have hg2 : decide (64 < (a.length : Int)) = false := decide_eq_false (by omega)
  by_cases hx3 : 64 < b.length
  · go_enter Try.func13, Try.ntmps13
    go_wp2_with fail
    refine haw _ _ ?_
    intro w2 g2
    have hf := hR w2 g2
    clear hR
    go_wp2_with fail
    exact hf
  have hg3 : decide (64 < (b.length : Int)) = false := decide_eq_false (by omega)
  by_cases hx4 : iz < 1
  · go_enter Try.func13, Try.ntmps13
    go_wp2_with fail
    refine haw _ _ ?_
    intro w2 g2
    have hf := hR w2 g2
    clear hR
    go_wp2_with fail
    exact hf
  have hg4 : decide (iz < 1) = false := decide_eq_false (by omega)
  by_cases hx5 : 1000 < iz
  · go_enter Try.func13, Try.ntmps13
    go_wp2_with fail
    refine haw _ _ ?_
    intro w2 g2
    have hf := hR w2 g2
    clear hR
    go_wp2_with fail
    exact hf
  have hg5 : decide (1000 < iz) = false := decide_eq_false (by omega)
  by_cases hx6 : kz < 1
  · go_enter Try.func13, Try.ntmps13
    go_wp2_with fail
    refine haw _ _ ?_
    intro w2 g2
    have hf := hR w2 g2
    clear hR
    go_wp2_with fail
    exact hf
  have hg6 : decide (kz < 1) = false := decide_eq_false (by omega)
  by_cases hx7 : 1000 < kz
  · go_enter Try.func13, Try.ntmps13
    go_wp2_with fail
    refine haw _ _ ?_
    intro w2 g2
    have hf := hR w2 g2
    clear hR
    go_wp2_with fail
    exact hf
  have hg7 : decide (1000 < kz) = false := decide_eq_false (by omega)
  obtain ⟨i, rfl⟩ : ∃ i : Nat, iz = (i : Int) := ⟨iz.toNat, by omega⟩
  obtain ⟨k, rfl⟩ : ∃ i : Nat, kz = (i : Int) := ⟨kz.toNat, by omega⟩
  have hi : i ≤ 1000 := by omega
  have hk : k ≤ 1000 := by omega
  have hmay : ∀ n, n ≤ 64 → mayB pass.length n ((0 : Nat) + 1) = true := fun n hn => by
    refine decide_eq_true ⟨by omega, hn, by decide, by decide⟩
  have hA := fun w' sp s => strBlockOk a0 c0 pass a1 a.length c1 a 0 i w' sp s (hmay _ (by omega)) (by omega) (by omega)
  have hB := fun w' sp s => strBlockOk a0 c0 pass a2 b.length c2 b 0 k w' sp s (hmay _ (by omega)) (by omega) (by omega)
  rw [show ((0 : Nat) : Int) + 1 = 1 from rfl] at hA hB
  have hnew := rNewC
  have hMA := fun p w' sm sk bo c sb => rMacC p w' sm a0 c0 pass sk (by omega) bo c (a ++ num4 i) sb (by simp [num4_len]; omega)
  have hMB := fun p w' sm sk bo c sb => rMacC p w' sm a0 c0 pass sk (by omega) bo c (b ++ num4 k) sb (by simp [num4_len]; omega)
  rw [show macS pass (a ++ num4 i) = tS pass a i 0 from rfl, List.length_append, num4_len] at hMA
  rw [show macS pass (b ++ num4 k) = tS pass b k 0 from rfl, List.length_append, num4_len] at hMB
  generalize Hs = H at *
  generalize Ks = K at *
  have e1 := eq_hash (tS pass a i 0) (tS pass a i 0) (tS_len _ _ _ _) (tS_len _ _ _ _)
  have e2 := eq_hash (tS pass b k 0) (tS pass b k 0) (tS_len _ _ _ _) (tS_len _ _ _ _)
  rw [beq_self_eq_true] at e1 e2
  have hVl : ((tS pass a i 0).map B).length = 32 := by rw [List.length_map]; exact tS_len _ _ _ _
  have hWl : ((tS pass b k 0).map B).length = 32 := by rw [List.length_map]; exact tS_len _ _ _ _
  obtain ⟨V, hV⟩ : ∃ V, V = (tS pass a i 0).map B := ⟨_, rfl⟩
  obtain ⟨W, hW⟩ : ∃ V, V = (tS pass b k 0).map B := ⟨_, rfl⟩
  have hV1 : ∀ v ∈ V, v.oneCell' = true := by rw [hV]; exact B_one _
  have hW1 : ∀ v ∈ W, v.oneCell' = true := by rw [hW]; exact B_one _
  have i32 : (Try.prog.info? 27).map (·.size) = some 32 := by kernel_rfl
  simp only [← hV] at hVl hA hMA e1
  simp only [← hW] at hWl hB hMB e2
  obtain ⟨N, hN⟩ : ∃ N, N = pass.length := ⟨_, rfl⟩
  obtain ⟨M, hM⟩ : ∃ N, N = a.length := ⟨_, rfl⟩
  obtain ⟨O, hO⟩ : ∃ N, N = b.length := ⟨_, rfl⟩
  have hNl : N ≤ 128 := by omega
  have hMl : M ≤ 64 := by omega
  have hOl : O ≤ 64 := by omega
  rw [← hN] at s0 hg1 hA hB hMA hMB ⊢
  rw [← hM] at s1 hg2 hA hMA ⊢
  rw [← hO] at s2 hg3 hB hMB ⊢
  clear hV hW hN hM hO hmay hx1 hx2 hx3 hx4 hx5 hx6 hx7 hm0 hm1 hm2 hn0 hn1 hn2
  go_enter Try.func13, Try.ntmps13
  go_wp2_with fail
  refine hnew _ _ ?_
  clear hg1 hg2 hg3 hg4 hg5 hg6 hg7 hnew
  intro p w1 sm g1 _
  have c4 := hA w1 (s0.grow g1) (s1.grow g1)
  clear hA
  go_wp2_with fail
  refine c4 _ ?_
  clear c4
  intro w2 g2
  have G2 := g1.trans g2
  have sm2 := sm.grow g2
  clear g1 g2 sm
  obtain ⟨o12, ga1, th1, al1⟩ := newvar (t := 27) w2 (.int .u8 0) rfl (by omega) hVl hV1
  have hszF : (Try.prog.info? 27).map (·.size) = some V.toArray.size := by rw [List.size_toArray, hVl]; exact i32
  go_upto_region 5 with (refine wpList_store_mid rfl 27 _ _ rfl w2.heap.size 0 V.toArray rfl rfl th1 hszF al1 ?_)
  change Code.wp _ _ _ ⟨_, _⟩ ((w2.alloc (.cells (List.replicate 32 (.int .u8 0)).toArray 27)).setCells w2.heap.size 0 V)
  have G3 := G2.trans ga1
  have sm3 := sm2.grow ga1
  obtain ⟨q12, hq⟩ : ∃ q, q = w2.heap.size := ⟨_, rfl⟩
  generalize (w2.alloc (.cells (List.replicate 32 (.int .u8 0)).toArray 27)).setCells w2.heap.size 0 V = w3 at *
  rw [← hq] at o12 ⊢
  have hge_q12 : w2.heap.size ≤ q12 := by omega
  clear hq th1 al1 ga1 hszF G2 sm2
  have c5 := hB w3 (s0.grow G3) (s2.grow G3)
  clear hB
  go_wp2_with fail
  refine c5 _ ?_
  clear c5
  intro w4 g4
  have G4 := G3.trans g4
  have sm4 := sm3.grow g4
  have o12a := o12.grow g4
  clear G3 g4 sm3 o12
  obtain ⟨o14, ga1, th1, al1⟩ := newvar (t := 27) w4 (.int .u8 0) rfl (by omega) hWl hW1
  have hszF : (Try.prog.info? 27).map (·.size) = some W.toArray.size := by rw [List.size_toArray, hWl]; exact i32
  go_upto_region 6 with (refine wpList_store_mid rfl 27 _ _ rfl w4.heap.size 0 W.toArray rfl rfl th1 hszF al1 ?_)
  change Code.wp _ _ _ ⟨_, _⟩ ((w4.alloc (.cells (List.replicate 32 (.int .u8 0)).toArray 27)).setCells w4.heap.size 0 W)
  have G5 := G4.trans ga1
  have sm5 := sm4.grow ga1
  have o12b := o12a.grow ga1
  obtain ⟨q14, hq⟩ : ∃ q, q = w4.heap.size := ⟨_, rfl⟩
  generalize (w4.alloc (.cells (List.replicate 32 (.int .u8 0)).toArray 27)).setCells w4.heap.size 0 W = w5 at *
  rw [← hq] at o14 ⊢
  have hge_q14 : w4.heap.size ≤ q14 := by omega
  clear hq th1 al1 ga1 hszF G4 sm4 o12a
  have s05 := s0.grow G5
  have s15 := s1.grow G5
  have s25 := s2.grow G5
  clear s0 s1 s2
  have o0 : Own (w5.alloc (.cells #[] 5)) 5 1 (some ⟨w5.heap.size, 0, none⟩) 0 0 [] := Own.made (n := 0) (heap_alloc_new w5 _) rfl (by decide) (by simp)
  have g0 := Grow.alloc w5 (.cells #[] 5)
  go_wp2_with (first
    | (at_builtin
       refine wpList_app TBy rfl rfl o0 (s15.grow g0) (by omega) (by omega) ?_
       intro ao1 cap1 wx o7 _ kp blk1
       simp only [Nat.zero_add, List.nil_append] at o7
       have f7 : Fr (blk ao1) w5 := fun y hy => by
         rcases blk1 y hy with h | h
         · simp [blk] at h; omega
         · simp at h; omega
       have ga2 : Grow w5 wx := g0.then kp (fun y hy => by simp [blk] at hy; omega)
       have gN := Grow.alloc wx (.cells #[.int .u8 (0), .int .u8 (0), .int .u8 ((i : Int) / 256), .int .u8 ((i : Int) % 256)] 5)
       have sN := num4_new wx i (0) (0) ((i : Int) / 256) ((i : Int) % 256) (by omega) (by omega) (by omega) (by omega) 5
       have o7N := o7.grow gN
       clear o0 g0 kp blk1 o7)
    | (at_builtin
       refine wpList_app TBy rfl rfl o7N sN (by omega) (by omega) ?_
       intro ao2 cap2 w6 own6 _ kp2 blk2
       rw [← List.map_append] at own6))
  have g6 : Grow w5 w6 := (ga2.trans gN).then kp2 f7
  clear o7N sN gN kp2 blk2 f7 ga2
  have sm6 := sm5.grow g6
  have s06 := s05.grow g6
  have c6 := hMA p w6 sm6 s06 ao2 cap2 own6.sl
  have G6 := G5.trans g6
  have o12c := o12b.grow g6
  have o14c := o14.grow g6
  have s26 := s25.grow g6
  clear hMA G5 g6 own6 sm5 s05 s25 o12b o14 s15
  refine c6 _ ?_
  clear c6
  intro w7 g7
  have G7 := G6.trans g7
  have sm7 := sm6.grow g7
  have s07 := s06.grow g7
  have s27 := s26.grow g7
  have o12d := o12c.grow g7
  have o14d := o14c.grow g7
  clear G6 g7 sm6 s06 s26 o12c o14c
  obtain ⟨o16, ga1, th1, al1⟩ := newvar (t := 27) w7 (.int .u8 0) rfl (by omega) hVl hV1
  have hszF : (Try.prog.info? 27).map (·.size) = some V.toArray.size := by rw [List.size_toArray, hVl]; exact i32
  go_upto_region 7 with (refine wpList_store_mid rfl 27 _ _ rfl w7.heap.size 0 V.toArray rfl rfl th1 hszF al1 ?_)
  change Code.wp _ _ _ ⟨_, _⟩ ((w7.alloc (.cells (List.replicate 32 (.int .u8 0)).toArray 27)).setCells w7.heap.size 0 V)
  have G8 := G7.trans ga1
  have sm8 := sm7.grow ga1
  have s08 := s07.grow ga1
  have s28 := s27.grow ga1
  have o12e := o12d.grow ga1
  have o14e := o14d.grow ga1
  obtain ⟨q16, hq⟩ : ∃ q, q = w7.heap.size := ⟨_, rfl⟩
  generalize (w7.alloc (.cells (List.replicate 32 (.int .u8 0)).toArray 27)).setCells w7.heap.size 0 V = w8 at *
  rw [← hq] at o16 ⊢
  have hge_q16 : w7.heap.size ≤ q16 := by omega
  clear hq th1 al1 ga1 hszF G7 sm7 s07 s27 o12d o14d
  have o0 : Own (w8.alloc (.cells #[] 5)) 5 1 (some ⟨w8.heap.size, 0, none⟩) 0 0 [] := Own.made (n := 0) (heap_alloc_new w8 _) rfl (by decide) (by simp)
  have g0 := Grow.alloc w8 (.cells #[] 5)
  go_wp2_with (first
    | (at_builtin
       refine wpList_app TBy rfl rfl o0 (s28.grow g0) (by omega) (by omega) ?_
       intro ao1 cap1 wx o7 _ kp blk1
       simp only [Nat.zero_add, List.nil_append] at o7
       have f7 : Fr (blk ao1) w8 := fun y hy => by
         rcases blk1 y hy with h | h
         · simp [blk] at h; omega
         · simp at h; omega
       have ga2 : Grow w8 wx := g0.then kp (fun y hy => by simp [blk] at hy; omega)
       have gN := Grow.alloc wx (.cells #[.int .u8 (0), .int .u8 (0), .int .u8 ((k : Int) / 256), .int .u8 ((k : Int) % 256)] 5)
       have sN := num4_new wx k (0) (0) ((k : Int) / 256) ((k : Int) % 256) (by omega) (by omega) (by omega) (by omega) 5
       have o7N := o7.grow gN
       clear o0 g0 kp blk1 o7)
    | (at_builtin
       refine wpList_app TBy rfl rfl o7N sN (by omega) (by omega) ?_
       intro ao2 cap2 w9 own9 _ kp2 blk2
       rw [← List.map_append] at own9))
  have g9 : Grow w8 w9 := (ga2.trans gN).then kp2 f7
  clear o7N sN gN kp2 blk2 f7 ga2
  have sm9 := sm8.grow g9
  have s09 := s08.grow g9
  have c9 := hMB p w9 sm9 s09 ao2 cap2 own9.sl
  have G9 := G8.trans g9
  have o12f := o12e.grow g9
  have o14f := o14e.grow g9
  have o16f := o16.grow g9
  clear hMB G8 g9 own9 sm8 s08 s28 o12e o14e o16
  refine c9 _ ?_
  clear c9
  intro w10 g10
  have G10 := G9.trans g10
  have o12g := o12f.grow g10
  have o14g := o14f.grow g10
  have o16g := o16f.grow g10
  clear G9 g10 sm9 s09 o12f o14f o16f
  obtain ⟨o17, ga1, th1, al1⟩ := newvar (t := 27) w10 (.int .u8 0) rfl (by omega) hWl hW1
  have hszF : (Try.prog.info? 27).map (·.size) = some W.toArray.size := by rw [List.size_toArray, hWl]; exact i32
  go_upto_region 8 with (refine wpList_store_mid rfl 27 _ _ rfl w10.heap.size 0 W.toArray rfl rfl th1 hszF al1 ?_)
  change Code.wp _ _ _ ⟨_, _⟩ ((w10.alloc (.cells (List.replicate 32 (.int .u8 0)).toArray 27)).setCells w10.heap.size 0 W)
  have G11 := G10.trans ga1
  have o12h := o12g.grow ga1
  have o14h := o14g.grow ga1
  have o16h := o16g.grow ga1
  obtain ⟨q17, hq⟩ : ∃ q, q = w10.heap.size := ⟨_, rfl⟩
  generalize (w10.alloc (.cells (List.replicate 32 (.int .u8 0)).toArray 27)).setCells w10.heap.size 0 W = w11 at *
  rw [← hq] at o17 ⊢
  have hge_q17 : w10.heap.size ≤ q17 := by omega
  clear hq th1 al1 ga1 hszF G10 o12g o14g o16g
  have r1 := own_range o12h (by omega)
  have r2 := own_range o16h (by omega)
  have r3 := own_range o14h (by omega)
  have r4 := own_range o17 (by omega)
  have hsV : (Try.prog.info? 27).map (·.size) = some V.length := by rw [hVl]; exact i32
  have hsW : (Try.prog.info? 27).map (·.size) = some W.length := by rw [hWl]; exact i32
  clear o12h o16h o14h o17 hVl hWl hV1 hW1 i32
  go_wp2_with (first | refine wpList_load_G 27 _ rfl rfl q12 0 rfl V _ r1 Try.underlying27 rfl hsV ?_ | refine wpList_load_G 27 _ rfl rfl q16 0 rfl V _ r2 Try.underlying27 rfl hsV ?_ | refine wpList_load_G 27 _ rfl rfl q14 0 rfl W _ r3 Try.underlying27 rfl hsW ?_ | refine wpList_load_G 27 _ rfl rfl q17 0 rfl W _ r4 Try.underlying27 rfl hsW ?_)
  refine haw _ _ ?_
  intro w12 g12
  have hf := hR _ (G11.trans g12)
  clear hR r1 r2 r3 r4
  go_wp2_with fail
  exact hf
end Go.Proofs.Ytaepfkpfageiaaa
