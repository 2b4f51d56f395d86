/- awake of law 1. -/
import Derived.Test.YtekfggeedljdkaaShaQ
import Derived.Test.YtekfggeedljdkaaEqA
import Derived.Test.YtekfggeedljdkaaNewV
import Derived.Test.YtekfggeedljdkaaShaH
import Derived.Deep.DeepCutAuto
import Derived.Lib.SlBytesConst
namespace Go.Proofs.Ytekfggeedljdkaa
open Go Go.RowKit

set_option maxRecDepth 100000 in
set_option maxHeartbeats 4000000 in
theorem awakeC (w : World) (R : Ending → World → Prop) (hR : ∀ w', Grow w w' → R (.returned (.bool true)) w') :
    Calls Try.prog 10 #[] w R := by
  have hml : maxLen = 9223372036854775807 := rfl
  have hs := fun w' R h => sumTop none 0 [] [] w' (Sl.none w' 1) ⟨rfl, fun i h => by simp at h⟩ (by simp) (by simp) R h
  have hs0 : sumS ([] : List (List UInt8)).flatten = kS0 := kn0
  rw [hs0] at hs
  simp only [List.length_nil] at hs
  have hp := parseC ⟨kX0.toArray⟩ kX0 (by simp)
  rw [par0] at hp
  have hq := parseC ⟨#[69, 51]⟩ [69, 51] rfl
  rw [parE3] at hq
  have hpl := parseS_len [69, 51]
  obtain ⟨E3, hE3⟩ : ∃ E, E = (parseS [69, 51]).1 := ⟨_, rfl⟩
  rw [← hE3] at hq hpl
  clear hE3 hs0
  simp only [] at hp
  have hk0 : kS0.length = 32 := rfl
  have i32 : (Try.prog.info? 26).map (·.size) = some 32 := by kernel_rfl
  obtain ⟨F, hF⟩ : ∃ F, F = kS0.map B := ⟨_, rfl⟩
  have hFl : F.length = 32 := by rw [hF, List.length_map]; exact hk0
  have hF1 : ∀ v ∈ F, v.oneCell' = true := by rw [hF]; exact B_one _
  have heq : ∀ w, (Op.equalIn 10000 26 (.agg F.toArray) (.agg F.toArray)).run Try.prog w = .ok true w := fun w => by
    rw [hF, eq_hash _ _ hk0 hk0]; simp
  rw [← hF] at hs hp
  have hszF : (Try.prog.info? 26).map (·.size) = some F.toArray.size := by rw [List.size_toArray, hFl]; exact i32
  obtain ⟨G, hG⟩ : ∃ G, G = E3.map B := ⟨_, rfl⟩
  have hGl : G.length = 32 := by rw [hG, List.length_map]; exact hpl
  have hG1 : ∀ v ∈ G, v.oneCell' = true := by rw [hG]; exact B_one _
  rw [← hG] at hq
  have hszG : (Try.prog.info? 26).map (·.size) = some G.toArray.size := by rw [List.size_toArray, hGl]; exact i32
  clear hF hG hk0 hpl
  go_enter Try.func10, Try.ntmps10
  go_wp2_with fail
  refine hs _ _ ?_
  intro w1 g1
  obtain ⟨o1, ga1, th1, al1⟩ := newvar (t := 26) w1 (.int .u8 0) rfl (by omega) hFl hF1
  go_wp2_with (refine wpList_store_mid rfl 26 _ _ rfl w1.heap.size 0 F.toArray rfl rfl th1 hszF al1 ?_)
  change Calls _ _ _ ((w1.alloc (.cells (List.replicate 32 (.int .u8 0)).toArray 26)).setCells w1.heap.size 0 F) _
  obtain ⟨q1, hq1⟩ : ∃ q, q = w1.heap.size := ⟨_, rfl⟩
  clear th1 al1
  have G1 := g1.trans ga1
  generalize (w1.alloc (.cells (List.replicate 32 (.int .u8 0)).toArray 26)).setCells w1.heap.size 0 F = w2 at *
  rw [← hq1] at o1 ⊢
  clear ga1 g1 hq1
  refine hp w2 _ ?_
  intro w3 g3
  have G3 := G1.trans g3
  have p1 := o1.grow g3
  clear o1 G1 g3
  obtain ⟨o2, ga2, th2, al2⟩ := newvar (t := 26) w3 (.int .u8 0) rfl (by omega) hFl hF1
  have p1' := p1.grow ga2
  have G3' := G3.trans ga2
  go_wp2_with (refine wpList_store_mid rfl 26 _ _ rfl w3.heap.size 0 F.toArray rfl rfl th2 hszF al2 ?_)
  change Calls _ _ _ ((w3.alloc (.cells (List.replicate 32 (.int .u8 0)).toArray 26)).setCells w3.heap.size 0 F) _
  obtain ⟨q2, hq2⟩ : ∃ q, q = w3.heap.size := ⟨_, rfl⟩
  clear th2 al2 ga2 p1 G3
  generalize (w3.alloc (.cells (List.replicate 32 (.int .u8 0)).toArray 26)).setCells w3.heap.size 0 F = w4 at *
  rw [← hq2] at o2 ⊢
  clear hq2
  refine hq w4 _ ?_
  intro w5 g5
  have G5 := G3'.trans g5
  have p1 := p1'.grow g5
  have p2 := o2.grow g5
  clear o2 p1' G3' g5
  obtain ⟨o3, ga3, th3, al3⟩ := newvar (t := 26) w5 (.int .u8 0) rfl (by omega) hGl hG1
  have p1' := p1.grow ga3
  have p2' := p2.grow ga3
  have G5' := G5.trans ga3
  go_wp2_with (refine wpList_store_mid rfl 26 _ _ rfl w5.heap.size 0 G.toArray rfl rfl th3 hszG al3 ?_)
  change Calls _ _ _ ((w5.alloc (.cells (List.replicate 32 (.int .u8 0)).toArray 26)).setCells w5.heap.size 0 G) _
  obtain ⟨q3, hq3⟩ : ∃ q, q = w5.heap.size := ⟨_, rfl⟩
  clear th3 al3 ga3 p1 p2 G5
  generalize (w5.alloc (.cells (List.replicate 32 (.int .u8 0)).toArray 26)).setCells w5.heap.size 0 G = w6 at *
  rw [← hq3] at o3 ⊢
  clear hq3 o3
  have hcc := constC
  have h0 : Hs.getD 0 0 = 1779033703 := by rw [Hs_lit]; rfl
  have h63 : Ks.getD 63 0 = 3329325298 := by rw [Ks_lit]; rfl
  have h8 := Hs_len
  have h64 := Ks_len
  generalize Hs = H at *
  generalize Ks = K at *
  refine hcc w6 _ ?_
  intro w7 g7
  have p1 := p1'.grow g7
  have p2 := p2'.grow g7
  have G7 := G5'.trans g7
  clear p1' p2' G5' g7 hcc
  have hHl : (H.map U).length = 8 := by rw [List.length_map]; exact h8
  have hKl : (K.map U).length = 64 := by rw [List.length_map]; exact h64
  have hszH : (Try.prog.info? 38).map (·.size) = some (H.map U).toArray.size := by rw [List.size_toArray, hHl]; kernel_rfl
  have hszK : (Try.prog.info? 39).map (·.size) = some (K.map U).toArray.size := by rw [List.size_toArray, hKl]; kernel_rfl
  have oa := (own_new (t := 38) (n := 8) w7 (U 0) rfl (by omega)).grow (Grow.alloc _ (.cells (List.replicate 64 (U 0)).toArray 39))
  have ob := own_new (t := 39) (n := 64) (w7.alloc (.cells (List.replicate 8 (U 0)).toArray 38)) (U 0) rfl (by omega)
  rw [sz_al] at ob
  have gab := (Grow.alloc w7 (.cells (List.replicate 8 (U 0)).toArray 38)).trans (Grow.alloc _ (.cells (List.replicate 64 (U 0)).toArray 39))
  have tha := own_there oa (H.map U).toArray.size (by simpa using hHl)
  have ka := Keep.setCells w7.heap.size (H.map U) 0 ((w7.alloc (.cells (List.replicate 8 (U 0)).toArray 38)).alloc (.cells (List.replicate 64 (U 0)).toArray 39))
  have ob2 := ob.keep ka (by simp [blk])
  have thb := own_there ob2 (K.map U).toArray.size (by simpa using hKl)
  have oa2 := own_whole oa hHl (oneU H)
  have kb := Keep.setCells (w7.heap.size + 1) (K.map U) 0 (((w7.alloc (.cells (List.replicate 8 (U 0)).toArray 38)).alloc (.cells (List.replicate 64 (U 0)).toArray 39)).setCells w7.heap.size 0 (H.map U))
  have oa3 := oa2.keep kb (by simp [blk])
  have ob3 := own_whole ob2 hKl (oneU K)
  have g8 := (gab.then ka (fun x hx => by simp at hx; omega)).then kb (fun x hx => by simp at hx; omega)
  have alH := one_all (oneU H)
  have alK := one_all (oneU K)
  go_upto_region 5 with (first | refine wpList_store_mid rfl 38 _ _ rfl w7.heap.size 0 (H.map U).toArray rfl rfl tha hszH alH ?_ | refine wpList_store_mid rfl 39 _ _ rfl (w7.heap.size + 1) 0 (K.map U).toArray rfl rfl thb hszK alK ?_)
  change Code.wp _ _ _ _ ((((w7.alloc (.cells (List.replicate 8 (U 0)).toArray 38)).alloc (.cells (List.replicate 64 (U 0)).toArray 39)).setCells w7.heap.size 0 (H.map U)).setCells (w7.heap.size + 1) 0 (K.map U))
  have p1' := p1.grow g8
  have p2' := p2.grow g8
  have G8 := G7.trans g8
  obtain ⟨q7, hq7⟩ : ∃ q, q = w7.heap.size := ⟨_, rfl⟩
  clear tha thb ka kb oa ob ob2 oa2 gab g8 p1 p2 G7 alH alK
  generalize (((w7.alloc (.cells (List.replicate 8 (U 0)).toArray 38)).alloc (.cells (List.replicate 64 (U 0)).toArray 39)).setCells w7.heap.size 0 (H.map U)).setCells (w7.heap.size + 1) 0 (K.map U) = w8 at *
  rw [← hq7] at oa3 ob3 ⊢
  clear hq7 hszF hszG hszH hszK
  have r1 := own_range p1' (by omega)
  have r2 := own_range p2' (by omega)
  have hiF : (Try.prog.info? 26).map (·.size) = some F.length := by rw [hFl]; exact i32
  obtain ⟨g', off', eg, hcs⟩ := oa3.sl.hat (by omega)
  cases eg
  have ca := U_at hcs (i := 0) (by omega)
  rw [h0] at ca
  obtain ⟨g', off', eg, hcs2⟩ := ob3.sl.hat (by omega)
  cases eg
  have cb := U_at hcs2 (i := 63) (by omega)
  rw [h63] at cb
  simp only [Nat.zero_add, Nat.add_zero] at ca cb
  clear h0 h63 hcs hcs2 oa3 ob3 hF1 hG1 i32
  have kc := fun (w : World) (C : Array Value) (n c : Nat) => Lib.run_convert_bytes_const (P := Try.prog) w 31 5 C n c Try.underlying31 Try.underlying5
  go_wp2_with (first | refine wpList_load_mid rfl 26 _ rfl q1 0 rfl F _ r1 Try.underlying26 rfl hiF ?_ | refine wpList_load_mid rfl 26 _ rfl q2 0 rfl F _ r2 Try.underlying26 rfl hiF ?_)
  have sA : Sl ((w8.alloc (.cells #[.int .u8 97, .int .u8 98, .int .u8 99] 5 (3, 4))).alloc (.cells #[.slice (some ⟨w8.heap.size, 0, none⟩) 3 3] 31)) 1 (some ⟨w8.heap.size, 0, none⟩) kT1.length 3 (kT1.map B) :=
    sl_obj (C := kT1.map B) (alloc_old _ _ _ (alloc_new w8 _)) 3 rfl (by omega) (B_one _)
  have sB : Sl ((w8.alloc (.cells #[.int .u8 97, .int .u8 98, .int .u8 99] 5 (3, 4))).alloc (.cells #[.slice (some ⟨w8.heap.size, 0, none⟩) 3 3] 31)) 1 (some ⟨w8.heap.size + 1, 0, none⟩) [kT1].length 1 [.slice (some ⟨w8.heap.size, 0, none⟩) kT1.length 3] := by
    have h := alloc_new (w8.alloc (.cells #[.int .u8 97, .int .u8 98, .int .u8 99] 5 (3, 4))) (.cells #[.slice (some ⟨w8.heap.size, 0, none⟩) 3 3] 31)
    rw [sz_al] at h
    exact sl_obj (C := [.slice (some ⟨w8.heap.size, 0, none⟩) kT1.length 3]) h 1 rfl (by omega) (by simp [Value.oneCell'])
  have gAB := (Grow.alloc w8 (.cells #[.int .u8 97, .int .u8 98, .int .u8 99] 5 (3, 4))).trans (Grow.alloc _ (.cells #[.slice (some ⟨w8.heap.size, 0, none⟩) 3 3] 31))
  refine sumTop _ 1 _ [kT1] _ sB (one_part sA) (by decide) (by decide) _ ?_
  intro w10 g10
  have hk1 : sumS [kT1].flatten = kS1 := kn1
  rw [hk1]
  have ht := textC kS1 rfl
  rw [kx1] at ht
  have hst : (str kX1).toList = kX1 := str_toList _
  have hx1 : kX1 = kX1 := rfl
  unfold kX1 at hst
  have G10 := (G8.trans gAB).trans g10
  generalize kS1.map B = S1m at *
  go_wp2_with fail
  refine ht _ _ ?_
  intro w11 g11
  have hf := hR _ (G10.trans g11)
  clear hR
  have hkk : (kX1 == kX1) = true := by simp
  unfold kX1 at hkk
  have hkk2 : ∀ l, l = kX1 → (kX1 == l) = true := fun l e => by subst e; simp
  go_wp2_with fail

  exact hf
end Go.Proofs.Ytekfggeedljdkaa
