/- The walk of ClaimsKeys. -/
import Derived.Test.YtaepfkpfageiaaaClmAw
import Derived.Test.YtaepfkpfageiaaaRFram
import Derived.Test.YtaepfkpfageiaaaRMac
namespace Go.Proofs.Ytaepfkpfageiaaa
open Go Go.RowKit

theorem forged_k1 (a b t : List UInt8) (h : (a == b) = false) : forgedS [clmS a t true, clmS b t false] = true := by
  have hr := rightS_clm b t false
  have h' : ¬ a = b := by simpa using h
  simp [forgedS, forgedN, forgeS, madeS, hr]
  simp [clmS, h']
theorem forged_k2 (a b t : List UInt8) : forgedS [clmS a t true, clmS b t true, clmS b t false] = false := by
  simp [forgedS, forgedN, forgeS, madeS, clmS]
theorem one_slc {w wi : World} (g : Grow w wi) {ao : Option Addr} {n c : Nat} {l : List UInt8} (s : Sl w 1 ao n c (l.map B)) :
    Sl (wi.alloc (.cells #[.slice ao n c] 22)) 1 (some ⟨wi.heap.size, 0, none⟩) 1 1 [.slice ao n c] ∧ Pt (wi.alloc (.cells #[.slice ao n c] 22)) [.slice ao n c] [l] ∧ Grow wi (wi.alloc (.cells #[.slice ao n c] 22)) := by
  have ga := Grow.alloc wi (.cells #[.slice ao n c] 22)
  exact ⟨sl_obj (C := [.slice ao n c]) (alloc_new wi _) 1 rfl (by decide) (by simp [Value.oneCell']), pt1 (s.grow (g.trans ga)), ga⟩
set_option maxRecDepth 100000 in
set_option maxHeartbeats 2000000 in
theorem clKeW (a0 : Option Addr) (c0 : Nat) (a : List UInt8) (a1 : Option Addr) (c1 : Nat) (b : List UInt8) (a2 : Option Addr) (c2 : Nat) (text : List UInt8) (both : Bool) (w : World) (s0 : Sl w 1 a0 a.length c0 (a.map B)) (s1 : Sl w 1 a1 b.length c1 (b.map B)) (s2 : Sl w 1 a2 text.length c2 (text.map B))
    (R : Ending → World → Prop) (hR : ∀ w', Grow w w' → R (.returned (.bool true)) w') :
    Calls Try.prog 17 #[.slice a0 a.length c0, .slice a1 b.length c1, .slice a2 text.length c2, .bool both] w R := by
  have hml : maxLen = 9223372036854775807 := rfl
  have haw := awake12C
  have hm0 := s0.hcap
  have hn0 := s0.hle
  have hm1 := s1.hcap
  have hn1 := s1.hle
  have hm2 := s2.hcap
  have hn2 := s2.hle
  by_cases hx1 : 100 < a.length
  · go_enter Try.func17, Try.ntmps17
    go_wp2_with fail
    refine haw _ _ ?_
    intro w2 g2
    have hf := hR w2 g2
    clear hR
    go_wp2_with fail
    exact hf
  have hg1 : decide (100 < (a.length : Int)) = false := decide_eq_false (by omega)
  by_cases hx2 : 100 < b.length
  · go_enter Try.func17, Try.ntmps17
    go_wp2_with fail
    refine haw _ _ ?_
    intro w2 g2
    have hf := hR w2 g2
    clear hR
    go_wp2_with fail
    exact hf
  have hg2 : decide (100 < (b.length : Int)) = false := decide_eq_false (by omega)
  by_cases hx3 : 200 < text.length
  · go_enter Try.func17, Try.ntmps17
    go_wp2_with fail
    refine haw _ _ ?_
    intro w2 g2
    have hf := hR w2 g2
    clear hR
    go_wp2_with fail
    exact hf
  have hg3 : decide (200 < (text.length : Int)) = false := decide_eq_false (by omega)
  have cva : (convert 22 9 (.slice a0 a.length c0)).run Try.prog w = .ok (.string (str a)) w := run_str (d := 9) Try.underlying22 Try.underlying5 Try.underlying9 s0
  have cvb : (convert 22 9 (.slice a1 b.length c1)).run Try.prog w = .ok (.string (str b)) w := run_str (d := 9) Try.underlying22 Try.underlying5 Try.underlying9 s1
  have hsa : (str a).toList = a := str_toList _
  have hsb : (str b).toList = b := str_toList _
  by_cases hab : (a == b) = true
  · go_enter Try.func17, Try.ntmps17
    go_wp2_with fail
    refine haw _ _ ?_
    intro w2 g2
    have hf := hR w2 g2
    clear hR
    go_wp2_with fail
    exact hf
  have hab : (a == b) = false := by simpa using hab
  have hnew := newBkC
  have hmk := fun key p ao n c cs w bk (hn : n ≤ 100000) a0 c0 lo cap vs (hk : key.length ≤ 100) sk s pt => makeC p ao n c cs a0 c0 key lo cap vs [text] w sk (by omega) s pt (by simp) (by simp; omega) bk hn
  simp only [List.length_cons, List.length_nil, Nat.zero_add] at hmk
  obtain ⟨F, hF⟩ : ∃ F, F = framS [text] := ⟨_, rfl⟩
  have hFl : F.length = 4 + text.length := by rw [hF, framS_len]; simp
  have hck := fun p ao n c cs w bk (hn : n ≤ 100000) a0 c0 lo cap vs sk s pt R h => checkC p ao n c cs a0 c0 b (shortS (macS b (framS [text]))) (shortS_len _ (macS_len _ _)) lo cap vs [text] w sk (by omega) s pt (by simp) (by simp; omega) bk hn R h (fun e => by simp at e)
  simp only [beq_self_eq_true, forall_const, List.length_cons, List.length_nil, Nat.zero_add] at hck
  have hrf := fun lo cap vs w s pt => rFramC lo cap vs [text] w s pt (by simp) (by simp; omega)
  simp only [List.length_cons, List.length_nil, Nat.zero_add] at hrf
  have hrn := rNewC
  have hrm := fun p w sm sk bo c sb => rMacC p w sm a1 c1 b sk (by omega) bo c (framS [text]) sb (by rw [← hF]; omega)
  have hrs := rShortC (macS b (framS [text])) (macS_len _ _)
  have hfo1 := forged_k1 a b (framS [text]) hab
  have hfo2 := forged_k2 a b (framS [text])
  have hfit : ∀ (k : List UInt8) (m : Bool), k.length ≤ 100 → (clmS k (framS [text]) m).fit := fun k m h => ⟨by show k.length ≤ 900000; omega, by show (framS [text]).length ≤ 900000; rw [← hF]; omega⟩
  have hC1 := fun lo c w s R (hR : ∀ w', Grow w w' → R (.returned (.bool true)) w') => forgedC lo 2 c [clmS a (framS [text]) true, clmS b (framS [text]) false] rfl (by simp only [List.mem_cons, List.not_mem_nil, or_false, forall_eq_or_imp, forall_eq]; exact ⟨hfit _ _ (by omega), hfit _ _ (by omega)⟩) w s R (by rw [hfo1]; exact hR)
  have hC2 := fun lo c w s R (hR : ∀ w', Grow w w' → R (.returned (.bool false)) w') => forgedC lo 3 c [clmS a (framS [text]) true, clmS b (framS [text]) true, clmS b (framS [text]) false] rfl (by simp only [List.mem_cons, List.not_mem_nil, or_false, forall_eq_or_imp, forall_eq]; exact ⟨hfit _ _ (by omega), hfit _ _ (by omega), hfit _ _ (by omega)⟩) w s R (by rw [hfo2]; exact hR)
  generalize Hs = H at *
  generalize Ks = K at *
  simp only [← hF] at hmk hck hrf hrm hrs hC1 hC2
  have hmka := hmk a
  have hmkb := hmk b
  obtain ⟨A1, hA1⟩ : ∃ c, c = clmS a F true := ⟨_, rfl⟩
  obtain ⟨B1, hB1⟩ : ∃ c, c = clmS b F true := ⟨_, rfl⟩
  obtain ⟨B2, hB2⟩ : ∃ c, c = clmS b F false := ⟨_, rfl⟩
  simp only [← hA1, ← hB1, ← hB2] at hmka hmkb hck hC1 hC2
  obtain ⟨MA, hMA⟩ : ∃ c, c = ((macS a F).map B).toArray := ⟨_, rfl⟩
  obtain ⟨MB, hMB⟩ : ∃ c, c = ((macS b F).map B).toArray := ⟨_, rfl⟩
  obtain ⟨SB, hSB⟩ : ∃ c, c = ((shortS (macS b F)).map B).toArray := ⟨_, rfl⟩
  simp only [← hMA] at hmka
  simp only [← hMB] at hmkb hrm hrs
  simp only [← hSB] at hck hrs
  obtain ⟨N, hN⟩ : ∃ N, N = a.length := ⟨_, rfl⟩
  obtain ⟨M, hM⟩ : ∃ N, N = b.length := ⟨_, rfl⟩
  obtain ⟨O, hO⟩ : ∃ N, N = text.length := ⟨_, rfl⟩
  obtain ⟨FL, hFL⟩ : ∃ N, N = F.length := ⟨_, rfl⟩
  simp only [← hN, ← hM, ← hO, ← hFL] at s0 s1 s2 hg1 hg2 hg3 cva cvb hmka hmkb hck hrf hrm ⊢
  have hNl : N ≤ 100 := by omega
  have hMl : M ≤ 100 := by omega
  clear hfo1 hfo2 hfit hmk hF hFl hA1 hB1 hB2 hMA hMB hSB hN hM hO hFL hx1 hx2 hx3 hm0 hm1 hm2 hn0 hn1 hn2
  go_enter Try.func17, Try.ntmps17
  go_wp2_with fail
  refine hnew _ _ ?_
  intro p w1 bk1 g1 hp
  clear cva cvb hsa hsb hab hg1 hg2 hg3 hnew
  obtain ⟨ps, pp, pg⟩ := one_slc g1 s2
  have hc := hmka p none 0 0 [] _ (bk1.grow pg) (by decide) _ _ _ _ _ (by omega) (s0.grow (g1.trans pg)) ps pp
  have G1 := g1.trans pg
  have F1 : Fr (p :: blk none) w := fun g hg => by simp [blk] at hg; omega
  clear ps pp pg g1 bk1 hmka hp s0
  go_wp2_with fail
  refine hc _ ?_
  clear hc
  intro ao1 k1 w2 bk2 kp2 b2
  obtain ⟨G2, F2⟩ := bk_step G1 F1 kp2 b2
  simp only [List.nil_append, Nat.zero_add] at bk2
  clear G1 F1 kp2 b2
  cases both with
  | false =>
    clear hmkb hC2
    go_wp2_with fail
    refine hrn _ _ ?_
    intro h w4 sm4 g4 _
    have G4 := G2.trans g4
    have bk4 := bk2.grow g4
    clear G2 bk2 g4 hrn
    obtain ⟨ps, pp, pg⟩ := one_slc G4 s2
    have hc := hrf _ _ _ _ ps pp
    have G5 := G4.trans pg
    have bk5 := bk4.grow pg
    have sm5 := sm4.grow pg
    clear ps pp pg G4 bk4 sm4 hrf
    go_wp2_with fail
    refine hc _ ?_
    clear hc
    intro fo fc w6 of6 g6 _
    have G6 := G5.trans g6
    have bk6 := bk5.grow g6
    have hc := hrm h w6 (sm5.grow g6) (s1.grow G6) fo fc of6.sl
    clear G5 bk5 sm5 of6 g6 hrm
    go_wp2_with fail
    refine hc _ ?_
    clear hc
    intro w7 g7
    have G7 := G6.trans g7
    have bk7 := bk6.grow g7
    clear G6 bk6 g7
    go_wp2_with fail
    refine hrs _ _ ?_
    clear hrs
    intro w8 g8
    have G8 := G7.trans g8
    have bk8 := bk7.grow g8
    clear G7 bk7 g8
    obtain ⟨ps, pp, pg⟩ := one_slc G8 s2
    have hc := hck p ao1 1 k1 [A1] _ (bk8.grow pg) (by decide) _ _ _ _ _ (s1.grow (G8.trans pg)) ps pp
    have G9 := G8.trans pg
    clear ps pp pg bk8 hck G8 s1 s2
    go_wp2_with fail
    refine hc _ ?_
    clear hc
    intro ao5 k5 w10 bk10 kp10 b10
    obtain ⟨G10, F10⟩ := bk_step G9 F2 kp10 b10
    simp only [List.cons_append, List.nil_append, Nat.reduceAdd] at bk10
    clear G9 F2 kp10 b10 F10
    have hal := allC p ao5 2 k5 _ w10 bk10 (by decide)
    clear bk10
    go_wp2_with fail
    refine hal _ ?_
    clear hal
    intro lo lc w11 ol g11 _
    have G11 := G10.trans g11
    have hc := hC1 lo lc w11 ol.sl
    clear g11 ol hC1 G10
    go_wp2_with fail
    refine hc _ ?_
    clear hc
    intro w12 g12
    have G12 := G11.trans g12
    clear G11 g12
    go_wp2_with fail
    refine haw _ _ ?_
    intro w13 g13
    have hf := hR _ (G12.trans g13)
    clear hR
    go_wp2_with fail
    exact hf
  | true =>
    clear hC1
    obtain ⟨ps, pp, pg⟩ := one_slc G2 s2
    have hc := hmkb p ao1 1 k1 [A1] _ (bk2.grow pg) (by decide) _ _ _ _ _ (by omega) (s1.grow (G2.trans pg)) ps pp
    have G2b := G2.trans pg
    clear ps pp pg bk2 hmkb G2
    go_wp2_with fail
    refine hc _ ?_
    clear hc
    intro ao2 k2 w3 bk3 kp3 b3
    obtain ⟨G3, F3⟩ := bk_step G2b F2 kp3 b3
    simp only [List.cons_append, List.nil_append, Nat.reduceAdd] at bk3
    clear G2b F2 kp3 b3
    go_wp2_with fail
    refine hrn _ _ ?_
    intro h w4 sm4 g4 _
    have G4 := G3.trans g4
    have bk4 := bk3.grow g4
    clear G3 bk3 g4 hrn
    obtain ⟨ps, pp, pg⟩ := one_slc G4 s2
    have hc := hrf _ _ _ _ ps pp
    have G5 := G4.trans pg
    have bk5 := bk4.grow pg
    have sm5 := sm4.grow pg
    clear ps pp pg G4 bk4 sm4 hrf
    go_wp2_with fail
    refine hc _ ?_
    clear hc
    intro fo fc w6 of6 g6 _
    have G6 := G5.trans g6
    have bk6 := bk5.grow g6
    have hc := hrm h w6 (sm5.grow g6) (s1.grow G6) fo fc of6.sl
    clear G5 bk5 sm5 of6 g6 hrm
    go_wp2_with fail
    refine hc _ ?_
    clear hc
    intro w7 g7
    have G7 := G6.trans g7
    have bk7 := bk6.grow g7
    clear G6 bk6 g7
    go_wp2_with fail
    refine hrs _ _ ?_
    clear hrs
    intro w8 g8
    have G8 := G7.trans g8
    have bk8 := bk7.grow g8
    clear G7 bk7 g8
    obtain ⟨ps, pp, pg⟩ := one_slc G8 s2
    have hc := hck p ao2 2 k2 [A1, B1] _ (bk8.grow pg) (by decide) _ _ _ _ _ (s1.grow (G8.trans pg)) ps pp
    have G9 := G8.trans pg
    clear ps pp pg bk8 hck G8 s1 s2
    go_wp2_with fail
    refine hc _ ?_
    clear hc
    intro ao5 k5 w10 bk10 kp10 b10
    obtain ⟨G10, F10⟩ := bk_step G9 F3 kp10 b10
    simp only [List.cons_append, List.nil_append, Nat.reduceAdd] at bk10
    clear G9 F3 kp10 b10 F10
    have hal := allC p ao5 3 k5 _ w10 bk10 (by decide)
    clear bk10
    go_wp2_with fail
    refine hal _ ?_
    clear hal
    intro lo lc w11 ol g11 _
    have G11 := G10.trans g11
    have hc := hC2 lo lc w11 ol.sl
    clear g11 ol hC2 G10
    go_wp2_with fail
    refine hc _ ?_
    clear hc
    intro w12 g12
    have G12 := G11.trans g12
    clear G11 g12
    go_wp2_with fail
    refine haw _ _ ?_
    intro w13 g13
    have hf := hR _ (G12.trans g13)
    clear hR
    go_wp2_with fail
    exact hf
end Go.Proofs.Ytaepfkpfageiaaa
