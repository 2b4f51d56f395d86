/- awake of law 20. -/
import Derived.Test.YtfmnkcmicbnfdaaHtPz
import Derived.Test.YtfmnkcmicbnfdaaHtPw
import Derived.Test.YtfmnkcmicbnfdaaHtKt
import Derived.Test.YtfmnkcmicbnfdaaGHt5
import Derived.Test.YtfmnkcmicbnfdaaHtVh
import Derived.Test.YtfmnkcmicbnfdaaClashC
namespace Go.Proofs.Ytfmnkcmicbnfdaa
open Go Go.RowKit

theorem wl5 : (wl 5).length = 3 := by rw [wl_more (by omega), wl_more (by omega), wl_one (by omega)]; rfl

/-- A block, held against the one of noughts. -/
theorem eqB0 (x : B16) (w : World) : (Op.equalIn 10000 33 (.agg (x.b.map B).toArray) (.agg #[.int .u8 0, .int .u8 0, .int .u8 0, .int .u8 0, .int .u8 0, .int .u8 0, .int .u8 0, .int .u8 0, .int .u8 0, .int .u8 0, .int .u8 0, .int .u8 0, .int .u8 0, .int .u8 0, .int .u8 0, .int .u8 0])).run Try.prog w = .ok (x.b == B0.b) w :=
  eq_blk x.b B0.b x.h B0.h w

set_option maxRecDepth 100000 in
set_option maxHeartbeats 4000000 in
theorem awake20C (w : World) (R : Ending → World → Prop) (hR : ∀ w', Grow w w' → R (.returned (.bool true)) w') :
    Calls Try.prog 27 #[] w R := by
  have hml : maxLen = 9223372036854775807 := rfl
  have kc := fun (w : World) (C : Array Value) (n c : Nat) => Lib.run_convert_bytes_const (P := Try.prog) w 27 5 C n c Try.underlying27 Try.underlying5
  have HR := Lib.hid hR
  clear hR
  go_enter Try.func27, Try.ntmps27
  go_wp2_with fail
  refine newBkC _ _ ?_
  intro p w1 bk1 g1 hp
  have b1 : BkO w1 (.pointer (some ⟨p, 0, none⟩)) (p :: blk none) [] := .inr ⟨p, none, 0, 0, rfl, rfl, bk1⟩
  go_wp2_with fail
  refine keyC _ _ ?_
  intro ko kc2 w2 ok g2 fk
  have hn := newTC 5 (by omega) (by omega) ko kc2 lawK lawK_len _ (cs := []) (by simp) w2 ok.sl (b1.grow g2)
  clear b1 bk1 ok
  go_wp2_with fail
  refine hn _ ?_
  clear hn
  intro t FP ds T w3 hb tb tk tn tl agr hnd hdl k3 hfr inn
  rw [List.nil_append] at hb
  have hs1 := g1.size
  have hs2 := g2.size
  have G3 : Grow w w3 := (g1.trans g2).then k3 (fun y hy => by simp [blk] at hy; omega)
  have F3 : Fr (t.hard ++ FP) w := fun y hy => by
    rcases List.mem_append.1 hy with h | h
    · have := hfr y (.inl h); omega
    · rcases inn y h with h | h
      · simp [blk] at h; omega
      · omega
  have tl3 : t.L = 3 := by rw [tl, wl5]
  have htl : t.L = (wl t.n).length := by rw [tl, tn]
  clear k3 hfr inn hnd g1 g2 fk hs1 hs2
  go_wp2_with fail
  refine keyC _ _ ?_
  intro ko2 kc3 w4 ok2 g4 _
  have hbad := newBad 0 (by decide) ko2 32 kc3 (.pointer (some ⟨p, 0, none⟩)) (.inl (by simp [wide])) w4
  clear ok2
  go_wp2_with fail
  refine hbad _ ?_
  clear hbad
  intro w5 g5
  have hb5 := (hb.grow g4).grow g5
  have G5 := (G3.trans g4).trans g5
  clear hb G3 g4 g5
  obtain ⟨sx, gx⟩ := lit1 w5 [120] 1 rfl (by decide) (1, 2)
  have hlt5 := hb5.lt
  have hs := setIn t 4 (by omega) htl (by omega) (by rw [tk]; exact lawK_len) _ 1 1 [120] (by decide) (lv := fun _ => B0) (by rw [tk, tn]; exact agr) (by omega) _ (hb5.grow gx) sx (fun g hg hm => by have := hlt5 g hm; simp [bz, blk] at hg; omega)
  have G6 := G5.trans gx
  clear hb5 sx gx G5 agr hlt5
  go_wp2_with fail
  refine hs _ ?_
  clear hs
  intro FP6 ds6 T6 w6 hb6 agr6 hd6 hl6 k6 inn6
  rw [tk, tn, tl3] at agr6
  rw [tk] at hb6
  have G7 := G6.then k6 F3
  have F7 : Fr FP6 w := fun y hy => by
    rcases inn6 y hy with h | h
    · exact F3 y (List.mem_append_right _ h)
    · have := G6.size; omega
  have hcl6 : (ds ++ clmS lawK (framS (leafP 4 [120])) true :: ds6).length ≤ 3000 := by rw [List.length_append, List.length_cons]; omega
  obtain ⟨cs6, hcs6⟩ : ∃ x, x = ds ++ clmS lawK (framS (leafP 4 [120])) true :: ds6 := ⟨_, rfl⟩
  rw [← hcs6] at hb6 hcl6
  clear hd6 hl6 k6 inn6 G6 hcs6 F3 hdl
  have ho := setOut hb6.ht (by omega) 5 (.inr (by rw [tn]; decide)) (.slice none 0 0)
  go_wp2_with fail
  refine ho _ ?_
  clear ho
  have htn : t.n ≤ 1000 := by omega
  have htn1 : 1 ≤ t.n := by omega
  have hpf := proofTC hb6.ht htl htn1 htn 4
  have agr7 : Agr lawK 5 3 (upL (fun _ => B0) 4 (leafT lawK 4 [120])) T6 := agr6
  have hpa := proofA_agr agr7 (by omega) (by omega) wl5.symm
  have hra := rootA_agr agr7 (by omega) (by omega) wl5.symm
  rw [tn] at hpf
  rw [hpa] at hpf
  obtain ⟨P, hP⟩ : ∃ P, P = proofA 5 (nd lawK 5 (upL (fun _ => B0) 4 (leafT lawK 4 [120]))) (beside (5 : Nat) (4 : Nat)) := ⟨_, rfl⟩
  have hPl : P.length = 3 := by rw [hP, proof_all 5 4 _ (by omega) (by omega) (by omega), wl5]; decide +kernel
  have hpf2 : ∀ (R : Ending → World → Prop), (∀ ao c w', Own w' 33 16 ao 3 c (bVs P) → Grow w6 w' → Fr (blk ao) w6 → R (.returned (.slice ao 3 c)) w') → Calls Try.prog 34 #[.pointer (some ⟨t.p, 0, none⟩), .int .i64 4] w6 R := fun R hR => by
    refine hpf R (fun ao n c w' hn o g f => ?_)
    have e : proofA 5 (nd lawK 5 (upL (fun _ => B0) 4 (leafT lawK 4 [120]))) (beside ((5 : Nat) : Int) 4) = P := hP.symm
    rw [e] at hn o
    rw [hPl] at hn
    subst hn
    exact hR ao c w' o g f
  clear hpf hpa
  go_wp2_with fail
  refine hpf2 _ ?_
  clear hpf2
  intro po pc w7 op g7 fp
  have hb6lt := hb6.lt
  have hb7 := hb6.grow g7
  have G8 := G7.trans g7
  clear hb6 G7 g7
  have hsz := sizeTC hb7.ht (by omega)
  rw [tn] at hsz
  go_wp2_with fail
  refine hsz _ ?_
  clear hsz
  have hlf := leafTC hb7.ht htl htn1 htn
  rw [tn] at hlf
  have hl0 := hlf 0
  have hl4 := fun w' (g : Grow w7 w') => leafTC (hb7.ht.grow g) htl htn1 htn 4
  rw [tn] at hl4
  have e0 : nodeA 5 T6 0 0 = B0 := (nodeA_nat 5 T6 0 0 (by omega) (by omega) (by rw [lw_zero]; omega)).trans (agr7 0 (by omega) 0 (by rw [lw_zero]; omega))
  have e4 : nodeA 5 T6 0 4 = leafT lawK 4 [120] := (nodeA_nat 5 T6 0 4 (by omega) (by omega) (by rw [lw_zero]; omega)).trans (agr7 0 (by omega) 4 (by rw [lw_zero]; omega))
  rw [e0] at hl0
  rw [e4] at hl4
  have eq0 := eqB0 B0
  rw [beq_self_eq_true] at eq0
  have eq4 := eqB0 (leafT lawK 4 [120])
  have neL : ((leafT lawK 4 [120]).b == B0.b) = false := neX
  rw [neL] at eq4
  obtain ⟨V0, hV0⟩ : ∃ V, V = (B0.b.map B).toArray := ⟨_, rfl⟩
  obtain ⟨V4, hV4⟩ : ∃ V, V = ((leafT lawK 4 [120]).b.map B).toArray := ⟨_, rfl⟩
  rw [← hV0] at hl0 eq0
  rw [← hV4] at hl4 eq4
  have e40 : T6 0 4 = leafT lawK 4 [120] := agr7 0 (by omega) 4 (by rw [lw_zero]; omega)
  clear hV0 hV4 e0 e4 hlf neL
  go_wp2_with fail
  refine hl0 _ ?_
  clear hl0
  intro w8 g8
  have hx4 := hl4 w8 g8
  clear hl4
  have hb8 := hb7.grow g8
  have op8 := op.grow g8
  have G9 := G8.trans g8
  clear hb7 op G8 g8
  go_wp2_with fail
  refine hx4 _ ?_
  clear hx4
  intro w9 g9
  have hb9 := hb8.grow g9
  have op9 := op8.grow g9
  have G10 := G9.trans g9
  clear hb8 op8 G9 g9
  obtain ⟨sx, gx⟩ := lit1 w9 [120] 1 rfl (by decide) (1, 2)
  have hlt9 := hb9.lt
  have htl32 : t.key.length = 32 := by rw [tk]; exact lawK_len
  have hc := checkHas t 4 (by omega) htl htn htl32 _ 1 1 [120] (by decide) (by simp) (by omega) true (by rw [tk, e40]; exact (beq_self_eq_true _).symm) _ (hb9.grow gx) sx (fun g hg hm => by have := hlt9 g (List.mem_append_right _ hm); simp [bz, blk] at hg; omega)
  have op10 := op9.grow gx
  have hpo9 : ∀ y ∈ blk po, y ∉ FP6 := fun y hy hm => by
    have h1 := fp y hy
    have h2 := hb6lt y (List.mem_append_right _ hm)
    omega
  have G11 := G10.trans gx
  have hgx := gx.size
  have hpl9 : ∀ y ∈ blk po, y < w9.heap.size := fun y hy => op9.lt y hy
  clear hb9 op9 G10 sx gx hlt9
  go_wp2_with fail
  refine hc _ ?_
  clear hc
  intro FP12 w12 hb12 k12 inn12
  simp only [↓reduceIte] at hb12
  have G12 := G11.then k12 F7
  have F12 : Fr FP12 w := fun y hy => by
    rcases inn12 y hy with h | h
    · exact F7 y h
    · have := G11.size; omega
  have op12 := op10.keep k12 hpo9
  have hpo12 : ∀ y ∈ blk po, y ∉ FP12 := fun y hy hm => by
    rcases inn12 y hm with h | h
    · exact hpo9 y hy h
    · have := hpl9 y hy; omega
  clear k12 inn12 op10 G11 F7 hpo9 hpl9 hgx
  obtain ⟨cs12, hcs12⟩ : ∃ x, x = cs6 ++ [clmS t.key (framS (leafP 4 [120])) false] := ⟨_, rfl⟩
  rw [← hcs12] at hb12
  have hcl12 : cs12.length ≤ 3001 := by rw [hcs12, List.length_append, List.length_singleton]; omega
  clear hcs12 hcl6
  obtain ⟨sy, gy⟩ := lit1 w12 [121] 1 rfl (by decide) (1, 2)
  have hlt12 := hb12.lt
  have hc := checkHas t 4 (by omega) htl htn htl32 _ 1 1 [121] (by decide) (by simp) (by omega) false (by rw [tk, e40]; exact neXY.symm) _ (hb12.grow gy) sy (fun g hg hm => by have := hlt12 g (List.mem_append_right _ hm); simp [bz, blk] at hg; omega)
  have op13 := op12.grow gy
  have G13 := G12.trans gy
  have hgy := gy.size
  have hpl12 : ∀ y ∈ blk po, y < w12.heap.size := fun y hy => op12.lt y hy
  clear hb12 op12 G12 sy gy hlt12
  go_wp2_with fail
  refine hc _ ?_
  clear hc
  intro FP14 w14 hb14 k14 inn14
  simp only [Bool.false_eq_true, if_false, List.append_nil] at hb14
  have G14 := G13.then k14 F12
  have F14 : Fr FP14 w := fun y hy => by
    rcases inn14 y hy with h | h
    · exact F12 y h
    · have := G13.size; omega
  have op14 := op13.keep k14 hpo12
  have hpo14 : ∀ y ∈ blk po, y ∉ FP14 := fun y hy hm => by
    rcases inn14 y hm with h | h
    · exact hpo12 y hy h
    · have := hpl12 y hy; omega
  clear k14 inn14 op13 G13 F12 hpo12 hpl12 hgy
  go_wp2_with fail
  refine keyC _ _ ?_
  intro ko15 kc15 w15 ok15 g15 f15
  have hb15 := hb14.grow g15
  have op15 := op14.grow g15
  have G15 := G14.trans g15
  have hlt14 := hb14.lt
  have hko15 : ∀ y ∈ blk ko15, y ∉ FP14 := fun y hy hm => by
    have h1 := f15 y hy
    have h2 := hlt14 y (List.mem_append_right _ hm)
    omega
  clear hb14 op14 G14 g15 hlt14 f15
  have hrt := fun w' (g : Grow w15 w') => rootTC (hb15.ht.grow g) htl htn1 htn
  obtain ⟨RT, hRT0⟩ : ∃ x, x = rootA 5 T6 := ⟨_, rfl⟩
  have hRT := hRT0.trans hra
  simp only [tn, ← hRT0] at hrt
  have hv1 : verS lawK 5 4 [120] RT P = true := by
    rw [hRT, hP]
    have := verS_own lawK 5 4 (upL (fun _ => B0) 4 (leafT lawK 4 [120])) [120] (by omega) (by omega) (by omega)
    refine this.trans ?_
    simp [upL]
  have hv2 : verS lawK 5 3 [120] RT P = false := verS_len _ _ _ _ _ _ (by rw [hPl, wl5]; decide +kernel)
  have hr1 := hrt w15 (Grow.refl _)
  have HRT0 := Lib.hid hRT0
  clear hra hRT hRT0 hP
  go_wp2_with fail
  refine hr1 _ ?_
  clear hr1
  intro w16 g16
  have hb16 := hb15.grow g16
  have op16 := op15.grow g16
  have ok16 := ok15.grow g16
  have G16 := G15.trans g16
  clear hb15 op15 ok15 G15
  obtain ⟨sz, gz⟩ := lit1 w16 [120] 1 rfl (by decide) (1, 2)
  have hlt16 := hb16.lt
  have hv := verifyC 5 4 (by omega) (by omega) ko15 kc15 lawK lawK_len (some ⟨p, 0, none⟩) (FP := FP14) (cs := cs12) (by omega) RT _ 1 1 [120] (by decide) po 3 pc P hPl.symm (by omega) _ (ok16.grow gz).sl sz (op16.grow gz).sl (by have := (hb16.grow gz).bk; rwa [tb] at this) (fun y hy => by
    simp only [List.mem_append] at hy
    rcases hy with hy | hy | hy
    · exact ⟨hko15 y hy, (ok16.grow gz).lt y hy⟩
    · simp [bz, blk] at hy
      subst hy
      exact ⟨fun hm => by have := hlt16 _ (List.mem_append_right _ hm); omega, by rw [sz_al]; omega⟩
    · exact ⟨hpo14 y hy, (op16.grow gz).lt y hy⟩)
  rw [hv1] at hv
  have hbz := hb16.grow gz
  have opz := op16.grow gz
  have Gz := G16.trans gz
  have hpz : ∀ y ∈ blk po, y < w16.heap.size := fun y hy => op16.lt y hy
  have hgz := gz.size
  clear hb16 op16 ok16 G16 sz gz hlt16 hko15
  go_wp2_with fail
  refine hv _ ?_
  clear hv
  intro FP17 ds17 w17 bk17 hd17 _ k17 inn17
  have hb17 := hbz.book (by rw [tb]; exact bk17) k17 inn17
  have op17 := opz.keep k17 hpo14
  have G17 := Gz.then k17 F14
  have hpo17 : ∀ y ∈ blk po, y ∉ FP17 := fun y hy hm => by
    rcases inn17 y hm with h | h
    · exact hpo14 y hy h
    · have := hpz y hy; omega
  have F17 : Fr FP17 w := fun y hy => by
    rcases inn17 y hy with h | h
    · exact F14 y h
    · have := Gz.size; omega
  have hcl17 : (cs12 ++ ds17).length ≤ 5000 := by rw [List.length_append]; omega
  clear hbz opz Gz bk17 k17 inn17 hpo14 hd17 hpz hgz F14 hv1
  go_wp2_with fail
  refine keyC _ _ ?_
  intro ko18 kc18 w18 ok18 g18 f18
  have hb18 := hb17.grow g18
  have op18 := op17.grow g18
  have G18 := G17.trans g18
  have hlt17 := hb17.lt
  have hko18 : ∀ y ∈ blk ko18, y ∉ FP17 := fun y hy hm => by
    have h1 := f18 y hy
    have h2 := hlt17 y (List.mem_append_right _ hm)
    omega
  clear hb17 op17 G17 g18 hlt17 f18
  have hr2 := rootTC hb18.ht htl htn1 htn
  simp only [tn, ← HRT0.out] at hr2
  clear hrt
  go_wp2_with fail
  refine hr2 _ ?_
  clear hr2
  intro w19 g19
  have hb19 := hb18.grow g19
  have op19 := op18.grow g19
  have ok19 := ok18.grow g19
  have G19 := G18.trans g19
  clear hb18 op18 ok18 G18
  obtain ⟨sz, gz⟩ := lit1 w19 [120] 1 rfl (by decide) (1, 2)
  have hlt19 := hb19.lt
  have hv := verifyC 5 3 (by omega) (by omega) ko18 kc18 lawK lawK_len (some ⟨p, 0, none⟩) (FP := FP17) (cs := cs12 ++ ds17) (by omega) RT _ 1 1 [120] (by decide) po 3 pc P hPl.symm (by omega) _ (ok19.grow gz).sl sz (op19.grow gz).sl (by have := (hb19.grow gz).bk; rwa [tb] at this) (fun y hy => by
    simp only [List.mem_append] at hy
    rcases hy with hy | hy | hy
    · exact ⟨hko18 y hy, (ok19.grow gz).lt y hy⟩
    · simp [bz, blk] at hy
      subst hy
      exact ⟨fun hm => by have := hlt19 _ (List.mem_append_right _ hm); omega, by rw [sz_al]; omega⟩
    · exact ⟨hpo17 y hy, (op19.grow gz).lt y hy⟩)
  rw [hv2] at hv
  have hbz := hb19.grow gz
  have Gz := G19.trans gz
  clear hb19 op19 ok19 G19 sz gz hlt19 hko18 hpo17 hv2
  go_wp2_with fail
  refine hv _ ?_
  clear hv
  intro FP20 ds20 w20 bk20 _ _ k20 inn20
  have hb20 := hbz.book (by rw [tb]; exact bk20) k20 inn20
  have G20 := Gz.then k20 F17
  clear hbz Gz bk20 k20 inn20 F17
  have hnd := nodeTC hb20.ht htl htn1 htn 2 0
  have hrA : rootA 5 T6 = nodeA 5 T6 2 0 := by unfold rootA; rw [wl5]; rfl
  simp only [tn, ← hrA, ← HRT0.out] at hnd
  have hr3 := fun w' (g : Grow w20 w') => rootTC (hb20.ht.grow g) htl htn1 htn
  simp only [tn, ← HRT0.out] at hr3
  have heq := eq_blk RT.b RT.b RT.h RT.h
  rw [beq_self_eq_true] at heq
  obtain ⟨VR, hVR⟩ : ∃ V, V = (RT.b.map B).toArray := ⟨_, rfl⟩
  simp only [← hVR] at hnd hr3 heq
  clear hrA hVR HRT0 agr7 hb20
  go_wp2_with fail
  refine hnd _ ?_
  clear hnd
  intro w21 g21
  have hr4 := hr3 w21 g21
  clear hr3
  go_wp2_with fail
  refine hr4 _ ?_
  clear hr4
  intro w22 g22
  have hf := HR.out w22 ((G20.trans g21).trans g22)
  clear HR
  go_wp2_with fail
  exact hf
end Go.Proofs.Ytfmnkcmicbnfdaa
