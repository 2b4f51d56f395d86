/- A book of claims: Make, Check, All. -/
import Derived.Test.YtaepfkpfageiaaaBk
namespace Go.Proofs.Ytaepfkpfageiaaa
open Go Go.RowKit

set_option maxRecDepth 100000 in
set_option maxHeartbeats 1000000 in
theorem makeC (p : Nat) (ao : Option Addr) (n c : Nat) (cs : List Clm) (a0 : Option Addr) (c0 : Nat) (key : List UInt8) (lo : Option Addr) (cap : Nat) (vs : List Value) (ls : List (List UInt8)) (w : World) (sk : Sl w 1 a0 key.length c0 (key.map B)) (hkl : key.length ≤ 900000) (s : Sl w 1 lo ls.length cap vs) (pt : Pt w vs ls) (hl : ls.length ≤ 100000) (ht : ls.flatten.length ≤ 400000) (bk : Bk w p ao n c cs) (hn : n ≤ 100000)
    (R : Ending → World → Prop) (hR : ∀ ao' c' w', Bk w' p ao' (n + 1) c' (cs ++ [clmS key (framS ls) true]) → Keep (p :: blk ao) w w' → (∀ g ∈ blk ao', g ∈ blk ao ∨ w.heap.size ≤ g) → R (.returned (.agg ((macS key (framS ls)).map B).toArray)) w') :
    Calls Try.prog 45 #[.pointer (some ⟨p, 0, none⟩), .slice a0 key.length c0, .slice lo ls.length cap] w R := by
  have hml : maxLen = 9223372036854775807 := rfl
  have i32 : (Try.prog.info? 27).map (·.size) = some 32 := by kernel_rfl
  have hcl := fun w s s' pt => claimC a0 c0 key lo cap vs ls w s hkl s' pt hl ht
  have hm : clM (clmS key (framS ls) false) = clmS key (framS ls) true := rfl
  have hset := clV_set (clmS key (framS ls) false)
  rw [hm] at hset
  have hCl := clV_len (clmS key (framS ls) false)
  have hC1 := clV_one (clmS key (framS ls) false)
  have hDl := clV_len (clmS key (framS ls) true)
  have hat := clV_made (clmS key (framS ls) false)
  have htg : ∀ i v, ((macS key (framS ls)).map B)[i]? = some v → (clV (clmS key (framS ls) true))[2 + i]? = some v := fun i v hv => by
    obtain ⟨hi, hv⟩ := List.getElem?_eq_some_iff.1 hv
    have hi' := hi
    rw [List.length_map, macS_len] at hi'
    rw [clV_tag _ i hi', ← hv, List.getElem_map]
    rfl
  have hTl : ((macS key (framS ls)).map B).length = 32 := by rw [List.length_map]; exact macS_len _ _
  have hput := fun w' (g : Grow w w') => putC p ao n c cs (clmS key (framS ls) true) w' (bk.grow g) hn
  have hlt := bk.lt
  clear bk
  obtain ⟨T, hT⟩ : ∃ T, T = (macS key (framS ls)).map B := ⟨_, rfl⟩
  have hT1 : ∀ v ∈ T, v.oneCell' = true := by rw [hT]; exact B_one _
  rw [← hT] at hTl
  simp only [← hT] at hR htg
  obtain ⟨C, hC⟩ : ∃ C, C = clV (clmS key (framS ls) false) := ⟨_, rfl⟩
  obtain ⟨D, hD⟩ : ∃ C, C = clV (clmS key (framS ls) true) := ⟨_, rfl⟩
  rw [← hC] at hset hCl hC1 hat
  rw [← hD] at hset hDl
  simp only [← hC] at hcl
  simp only [← hD] at htg hput
  obtain ⟨N, hN⟩ : ∃ N, N = key.length := ⟨_, rfl⟩
  obtain ⟨n2, hn2⟩ : ∃ N, N = ls.length := ⟨_, rfl⟩
  simp only [← hN, ← hn2] at sk s hcl ⊢
  have o6 : Own (w.alloc (.cells (List.replicate 32 (.int .u8 0)).toArray 27)) 27 1 (some ⟨w.heap.size, 0, none⟩) 32 32 (List.replicate 32 (.int .u8 0)) := own_new w _ rfl (by omega)
  have ga := Grow.alloc w (.cells (List.replicate 32 (.int .u8 0)).toArray 27)
  have hc1 := hcl (w.alloc (.cells (List.replicate 32 (.int .u8 0)).toArray 27)) (sk.grow ga) (s.grow ga) (pt.grow ga)
  have Hset := Lib.hid hset
  have Htg := Lib.hid htg
  clear hT hC hD hN hn2 hcl hset hm hkl hl ht htg sk s pt
  go_enter Try.func45, Try.ntmps45
  go_wp2_with fail
  change Calls _ _ _ (w.alloc (.cells (List.replicate 32 (.int .u8 0)).toArray 27)) _
  obtain ⟨q6, hq6⟩ : ∃ q, q = w.heap.size := ⟨_, rfl⟩
  have hge6 : w.heap.size ≤ q6 := by omega
  generalize w.alloc (.cells (List.replicate 32 (.int .u8 0)).toArray 27) = w1 at *
  rw [← hq6] at o6 ⊢
  clear hq6
  refine hc1 _ ?_
  clear hc1
  intro w2 g2
  have G2 := ga.trans g2
  have o62 := o6.grow g2
  clear ga g2 o6
  obtain ⟨o7, ga1, th1, al1⟩ := newvarZ (t := 66) w2 clZ clZ_len clZ_one (by omega) hCl hC1
  have hszF : (Try.prog.info? 66).map (·.size) = some C.toArray.size := by rw [List.size_toArray, hCl]; exact i35
  go_upto_region 2 with (refine wpList_store_mid rfl 66 _ _ rfl w2.heap.size 0 C.toArray rfl rfl th1 hszF al1 ?_)
  change Code.wp _ _ _ ⟨_, _⟩ ((w2.alloc (.cells clZ.toArray 66)).setCells w2.heap.size 0 C)
  have G3 := G2.trans ga1
  have o63 := o62.grow ga1
  have hlt6 := o62.lt q6 (by simp [blk])
  obtain ⟨q7, hq7⟩ : ∃ q, q = w2.heap.size := ⟨_, rfl⟩
  have hge7 : w2.heap.size ≤ q7 := by omega
  generalize (w2.alloc (.cells clZ.toArray 66)).setCells w2.heap.size 0 C = w3 at *
  rw [← hq7] at o7 ⊢
  clear hq7 th1 al1 ga1 hszF o62
  obtain ⟨g3, v, eg, hv, hfz, hst⟩ := own_put o7 (i := 34) (by omega)
  cases eg
  have o7b := hst (.bool true) rfl
  rw [Hset.out] at o7b
  have k7 := Keep.setCell (fp := [q7]) w3 ⟨q7, 34, none⟩ (by simp) (.bool true)
  have G4 := G3.then k7 (fun x hx => by simp at hx; have := G2.size; omega)
  have o64 := o63.keep k7 (by simp [blk]; omega)
  clear hst o7 Hset o63 k7 hat
  go_upto_region 3 with (fail)
  clear hv hfz
  generalize w3.setCell ⟨q7, 34, none⟩ (.bool true) = w4 at *
  have hsD : (Try.prog.info? 66).map (·.size) = some D.length := by rw [hDl]; exact i35
  have hrg := own_range o7b (by omega)
  have hlt7 := o7b.lt q7 (by simp [blk])
  have hc4 := hput w4 G4
  clear hput
  go_wp2_with (refine wpList_load_mid rfl 66 _ rfl q7 0 rfl D _ hrg Try.underlying66 rfl hsD ?_)
  refine hc4 _ ?_
  clear hc4 hrg hsD
  intro ao' c' w5 bk5 k5 b5
  have o65 := o64.keep k5 (fun g hg hm => by simp [blk] at hg; have := hlt g hm; omega)
  have o75 := o7b.keep k5 (fun g hg hm => by simp [blk] at hg; have := hlt g hm; have := G2.size; omega)
  clear o64 o7b
  have hrT : w5.rangeAt q7 2 T := fun j v hj => by
    obtain ⟨g', off', eg, hcs⟩ := o75.sl.hat (by omega)
    cases eg
    have h1 := hcs.at (Htg.out j v hj)
    rw [Nat.zero_add] at h1
    exact h1
  have hsT : (Try.prog.info? 27).map (·.size) = some T.length := by rw [hTl]; exact i32
  obtain ⟨r1, r3, r4⟩ := store_arr (P := Try.prog) hTl hT1 o65 i32
  have hth := own_there o65 T.toArray.size (by simpa using hTl)
  have hsz : (Try.prog.info? 27).map (·.size) = some T.toArray.size := by rw [List.size_toArray, hTl]; exact i32
  have hall := one_all hT1
  have hsz2 := G2.size
  have hsz4 := G4.size
  have hn6 : q6 ∉ p :: blk ao' := fun hm => by
    rcases List.mem_cons.1 hm with h | h
    · have := hlt p (by simp); omega
    · rcases b5 q6 h with h' | h'
      · have := hlt q6 (by simp [h']); omega
      · omega
  have hf := hR ao' c' _ (bk5.keep r4 (fun h => hn6 (by simp at h; simp [h])) (fun g hg hm => hn6 (by simp at hm; rw [← hm]; simp [hg]))) (((Keep.of_grow _ G4).trans k5).trans' r4 (fun x hx => by simp at hx; exact .inr (by omega))) (fun g hg => (b5 g hg).imp id fun h => by omega)
  clear bk5 k5 b5
  clear hR r1 r4 Htg o75 o65
  go_wp2_with (first | refine wpList_load_mid rfl 27 _ rfl q7 2 rfl T _ hrT Try.underlying27 rfl hsT ?_ | refine wpList_store_mid rfl 27 _ _ rfl q6 0 T.toArray rfl rfl hth hsz hall ?_)
  exact bodyPost_ret (v := .agg T.toArray) (ret_bytes Try.results45 _ _ q6 T _ _ 32 rfl r3 (by decide) Try.underlying27 rfl i32) rfl hf

set_option maxRecDepth 100000 in
set_option maxHeartbeats 1000000 in
theorem makeN (a0 : Option Addr) (c0 : Nat) (key : List UInt8) (lo : Option Addr) (cap : Nat) (vs : List Value) (ls : List (List UInt8)) (w : World) (sk : Sl w 1 a0 key.length c0 (key.map B)) (hkl : key.length ≤ 900000) (s : Sl w 1 lo ls.length cap vs) (pt : Pt w vs ls) (hl : ls.length ≤ 100000) (ht : ls.flatten.length ≤ 400000)
    (R : Ending → World → Prop) (hR : ∀ w', Grow w w' → R (.returned (.agg ((macS key (framS ls)).map B).toArray)) w') :
    Calls Try.prog 45 #[.pointer none, .slice a0 key.length c0, .slice lo ls.length cap] w R := by
  have hml : maxLen = 9223372036854775807 := rfl
  have i32 : (Try.prog.info? 27).map (·.size) = some 32 := by kernel_rfl
  have hcl := fun w s s' pt => claimC a0 c0 key lo cap vs ls w s hkl s' pt hl ht
  have hm : clM (clmS key (framS ls) false) = clmS key (framS ls) true := rfl
  have hset := clV_set (clmS key (framS ls) false)
  rw [hm] at hset
  have hCl := clV_len (clmS key (framS ls) false)
  have hC1 := clV_one (clmS key (framS ls) false)
  have hDl := clV_len (clmS key (framS ls) true)
  have hat := clV_made (clmS key (framS ls) false)
  have htg : ∀ i v, ((macS key (framS ls)).map B)[i]? = some v → (clV (clmS key (framS ls) true))[2 + i]? = some v := fun i v hv => by
    obtain ⟨hi, hv⟩ := List.getElem?_eq_some_iff.1 hv
    have hi' := hi
    rw [List.length_map, macS_len] at hi'
    rw [clV_tag _ i hi', ← hv, List.getElem_map]
    rfl
  have hTl : ((macS key (framS ls)).map B).length = 32 := by rw [List.length_map]; exact macS_len _ _
  have hput := fun w' (g : Grow w w') => putNil (clV (clmS key (framS ls) true)).toArray w'
  obtain ⟨T, hT⟩ : ∃ T, T = (macS key (framS ls)).map B := ⟨_, rfl⟩
  have hT1 : ∀ v ∈ T, v.oneCell' = true := by rw [hT]; exact B_one _
  rw [← hT] at hTl
  simp only [← hT] at hR htg
  obtain ⟨C, hC⟩ : ∃ C, C = clV (clmS key (framS ls) false) := ⟨_, rfl⟩
  obtain ⟨D, hD⟩ : ∃ C, C = clV (clmS key (framS ls) true) := ⟨_, rfl⟩
  rw [← hC] at hset hCl hC1 hat
  rw [← hD] at hset hDl
  simp only [← hC] at hcl
  simp only [← hD] at htg hput
  obtain ⟨N, hN⟩ : ∃ N, N = key.length := ⟨_, rfl⟩
  obtain ⟨n2, hn2⟩ : ∃ N, N = ls.length := ⟨_, rfl⟩
  simp only [← hN, ← hn2] at sk s hcl ⊢
  have o6 : Own (w.alloc (.cells (List.replicate 32 (.int .u8 0)).toArray 27)) 27 1 (some ⟨w.heap.size, 0, none⟩) 32 32 (List.replicate 32 (.int .u8 0)) := own_new w _ rfl (by omega)
  have ga := Grow.alloc w (.cells (List.replicate 32 (.int .u8 0)).toArray 27)
  have hc1 := hcl (w.alloc (.cells (List.replicate 32 (.int .u8 0)).toArray 27)) (sk.grow ga) (s.grow ga) (pt.grow ga)
  have Hset := Lib.hid hset
  have Htg := Lib.hid htg
  clear hT hC hD hN hn2 hcl hset hm hkl hl ht htg sk s pt
  go_enter Try.func45, Try.ntmps45
  go_wp2_with fail
  change Calls _ _ _ (w.alloc (.cells (List.replicate 32 (.int .u8 0)).toArray 27)) _
  obtain ⟨q6, hq6⟩ : ∃ q, q = w.heap.size := ⟨_, rfl⟩
  have hge6 : w.heap.size ≤ q6 := by omega
  generalize w.alloc (.cells (List.replicate 32 (.int .u8 0)).toArray 27) = w1 at *
  rw [← hq6] at o6 ⊢
  clear hq6
  refine hc1 _ ?_
  clear hc1
  intro w2 g2
  have G2 := ga.trans g2
  have o62 := o6.grow g2
  clear ga g2 o6
  obtain ⟨o7, ga1, th1, al1⟩ := newvarZ (t := 66) w2 clZ clZ_len clZ_one (by omega) hCl hC1
  have hszF : (Try.prog.info? 66).map (·.size) = some C.toArray.size := by rw [List.size_toArray, hCl]; exact i35
  go_upto_region 2 with (refine wpList_store_mid rfl 66 _ _ rfl w2.heap.size 0 C.toArray rfl rfl th1 hszF al1 ?_)
  change Code.wp _ _ _ ⟨_, _⟩ ((w2.alloc (.cells clZ.toArray 66)).setCells w2.heap.size 0 C)
  have G3 := G2.trans ga1
  have o63 := o62.grow ga1
  have hlt6 := o62.lt q6 (by simp [blk])
  obtain ⟨q7, hq7⟩ : ∃ q, q = w2.heap.size := ⟨_, rfl⟩
  have hge7 : w2.heap.size ≤ q7 := by omega
  generalize (w2.alloc (.cells clZ.toArray 66)).setCells w2.heap.size 0 C = w3 at *
  rw [← hq7] at o7 ⊢
  clear hq7 th1 al1 ga1 hszF o62
  obtain ⟨g3, v, eg, hv, hfz, hst⟩ := own_put o7 (i := 34) (by omega)
  cases eg
  have o7b := hst (.bool true) rfl
  rw [Hset.out] at o7b
  have k7 := Keep.setCell (fp := [q7]) w3 ⟨q7, 34, none⟩ (by simp) (.bool true)
  have G4 := G3.then k7 (fun x hx => by simp at hx; have := G2.size; omega)
  have o64 := o63.keep k7 (by simp [blk]; omega)
  clear hst o7 Hset o63 k7 hat
  go_upto_region 3 with (fail)
  clear hv hfz
  generalize w3.setCell ⟨q7, 34, none⟩ (.bool true) = w4 at *
  have hsD : (Try.prog.info? 66).map (·.size) = some D.length := by rw [hDl]; exact i35
  have hrg := own_range o7b (by omega)
  have hlt7 := o7b.lt q7 (by simp [blk])
  have hc4 := hput w4 G4
  clear hput
  go_wp2_with (refine wpList_load_mid rfl 66 _ rfl q7 0 rfl D _ hrg Try.underlying66 rfl hsD ?_)
  refine hc4 _ ?_
  clear hc4 hrg hsD
  intro w5 g5
  have o65 := o64.grow g5
  have o75 := o7b.grow g5
  clear o64 o7b
  have hrT : w5.rangeAt q7 2 T := fun j v hj => by
    obtain ⟨g', off', eg, hcs⟩ := o75.sl.hat (by omega)
    cases eg
    have h1 := hcs.at (Htg.out j v hj)
    rw [Nat.zero_add] at h1
    exact h1
  have hsT : (Try.prog.info? 27).map (·.size) = some T.length := by rw [hTl]; exact i32
  obtain ⟨r1, r3, r4⟩ := store_arr (P := Try.prog) hTl hT1 o65 i32
  have hth := own_there o65 T.toArray.size (by simpa using hTl)
  have hsz : (Try.prog.info? 27).map (·.size) = some T.toArray.size := by rw [List.size_toArray, hTl]; exact i32
  have hall := one_all hT1
  have hf := hR _ ((G4.trans g5).then r4 (fun x hx => by simp at hx; omega))
  clear hR r1 r4 Htg o75 o65
  go_wp2_with (first | refine wpList_load_mid rfl 27 _ rfl q7 2 rfl T _ hrT Try.underlying27 rfl hsT ?_ | refine wpList_store_mid rfl 27 _ _ rfl q6 0 T.toArray rfl rfl hth hsz hall ?_)
  exact bodyPost_ret (v := .agg T.toArray) (ret_bytes Try.results45 _ _ q6 T _ _ 32 rfl r3 (by decide) Try.underlying27 rfl i32) rfl hf

end Go.Proofs.Ytaepfkpfageiaaa
