/- A book of claims: Check, All. -/
import Derived.Test.YtaepfkpfageiaaaBkM
namespace Go.Proofs.Ytaepfkpfageiaaa
open Go Go.RowKit

set_option maxRecDepth 100000 in
set_option maxHeartbeats 1000000 in
theorem checkC (p : Nat) (ao : Option Addr) (n c : Nat) (cs : List Clm) (a0 : Option Addr) (c0 : Nat) (key T : List UInt8) (hTl : T.length = 16) (lo : Option Addr) (cap : Nat) (vs : List Value) (ls : List (List UInt8)) (w : World) (sk : Sl w 1 a0 key.length c0 (key.map B)) (hkl : key.length ≤ 900000) (s : Sl w 1 lo ls.length cap vs) (pt : Pt w vs ls) (hl : ls.length ≤ 100000) (ht : ls.flatten.length ≤ 400000) (bk : Bk w p ao n c cs) (hn : n ≤ 100000)
    (R : Ending → World → Prop) (hR : (shortS (macS key (framS ls)) == T) = true → ∀ ao' c' w', Bk w' p ao' (n + 1) c' (cs ++ [clmS key (framS ls) false]) → Keep (p :: blk ao) w w' → (∀ g ∈ blk ao', g ∈ blk ao ∨ w.heap.size ≤ g) → R (.returned (.bool true)) w') (hRf : (shortS (macS key (framS ls)) == T) = false → ∀ w', Grow w w' → R (.returned (.bool false)) w') :
    Calls Try.prog 46 #[.pointer (some ⟨p, 0, none⟩), .slice a0 key.length c0, .agg (T.map B).toArray, .slice lo ls.length cap] w R := by
  have hml : maxLen = 9223372036854775807 := rfl
  have i16 : (Try.prog.info? 34).map (·.size) = some 16 := by kernel_rfl
  have hcl := fun w s s' pt => claimC a0 c0 key lo cap vs ls w s hkl s' pt hl ht
  have hCl := clV_len (clmS key (framS ls) false)
  have hC1 := clV_one (clmS key (framS ls) false)
  have hSl := shortS_len (macS key (framS ls)) (macS_len _ _)
  have htg : ∀ i v, ((macS key (framS ls)).map B)[i]? = some v → (clV (clmS key (framS ls) false))[2 + i]? = some v := fun i v hv => by
    obtain ⟨hi, hv⟩ := List.getElem?_eq_some_iff.1 hv
    have hi' := hi
    rw [List.length_map, macS_len] at hi'
    rw [clV_tag _ i hi', ← hv, List.getElem_map]
    rfl
  have hMl : ((macS key (framS ls)).map B).length = 32 := by rw [List.length_map]; exact macS_len _ _
  have hsh := shortMC (macS key (framS ls)) (macS_len _ _)
  have heq := fun ao bo w sa sb => equalC ao 16 (shortS (macS key (framS ls))) bo 16 T w sa sb
  rw [hSl, hTl] at heq
  have hput := fun w' (g : Grow w w') => putC p ao n c cs (clmS key (framS ls) false) w' (bk.grow g) hn
  clear bk
  obtain ⟨e, he⟩ : ∃ e, e = (shortS (macS key (framS ls)) == T) := ⟨_, rfl⟩
  rw [← he] at hR hRf
  simp only [← he] at heq
  obtain ⟨S, hS⟩ : ∃ T, T = shortS (macS key (framS ls)) := ⟨_, rfl⟩
  rw [← hS] at hSl hsh
  simp only [← hS] at heq
  obtain ⟨M, hM⟩ : ∃ T, T = (macS key (framS ls)).map B := ⟨_, rfl⟩
  rw [← hM] at hMl hsh
  simp only [← hM] at htg
  obtain ⟨C, hC⟩ : ∃ C, C = clV (clmS key (framS ls) false) := ⟨_, rfl⟩
  rw [← hC] at hCl hC1
  simp only [← hC] at hcl htg hput
  obtain ⟨U, hU⟩ : ∃ U, U = T.map B := ⟨_, rfl⟩
  have hUl : U.length = 16 := by rw [hU, List.length_map]; exact hTl
  have hU1 : ∀ v ∈ U, v.oneCell' = true := by rw [hU]; exact B_one _
  obtain ⟨W, hW⟩ : ∃ U, U = S.map B := ⟨_, rfl⟩
  have hWl : W.length = 16 := by rw [hW, List.length_map]; exact hSl
  have hW1 : ∀ v ∈ W, v.oneCell' = true := by rw [hW]; exact B_one _
  rw [← hU] at heq ⊢
  simp only [← hW] at hsh heq
  obtain ⟨N, hN⟩ : ∃ N, N = key.length := ⟨_, rfl⟩
  obtain ⟨n2, hn2⟩ : ∃ N, N = ls.length := ⟨_, rfl⟩
  simp only [← hN, ← hn2] at sk s hcl ⊢
  have ob : Own (w.alloc (.cells U.toArray 34)) 34 1 (some ⟨w.heap.size, 0, none⟩) 16 16 U := Own.made (n := 16) (sz := 1) (heap_alloc_new w (.cells U.toArray 34)) (by simp [hUl]) (by omega) (by simpa using hU1)
  have ga := Grow.alloc w (.cells U.toArray 34)
  have hc1 := hcl (w.alloc (.cells U.toArray 34)) (sk.grow ga) (s.grow ga) (pt.grow ga)
  have Htg := Lib.hid htg
  clear he hS hM hC hU hW hN hn2 hcl hkl hl ht htg sk s pt hSl hTl
  go_enter Try.func46, Try.ntmps46
  go_wp2_with fail
  change Calls _ _ _ (w.alloc (.cells U.toArray 34)) _
  obtain ⟨qb, hqb⟩ : ∃ q, q = w.heap.size := ⟨_, rfl⟩
  generalize w.alloc (.cells U.toArray 34) = w1 at *
  rw [← hqb] at ob ⊢
  clear hqb
  refine hc1 _ ?_
  clear hc1
  intro w2 g2
  have G2 := ga.trans g2
  have ob2 := ob.grow g2
  clear ga g2 ob
  obtain ⟨o7, ga1, th1, al1⟩ := newvarZ (t := 66) w2 clZ clZ_len clZ_one (by omega) hCl hC1
  have hszF : (Try.prog.info? 66).map (·.size) = some C.toArray.size := by rw [List.size_toArray, hCl]; exact i35
  go_upto_region 2 with (refine wpList_store_mid rfl 66 _ _ rfl w2.heap.size 0 C.toArray rfl rfl th1 hszF al1 ?_)
  change Code.wp _ _ _ ⟨_, _⟩ ((w2.alloc (.cells clZ.toArray 66)).setCells w2.heap.size 0 C)
  have G3 := G2.trans ga1
  have ob3 := ob2.grow ga1
  obtain ⟨q9, hq9⟩ : ∃ q, q = w2.heap.size := ⟨_, rfl⟩
  generalize (w2.alloc (.cells clZ.toArray 66)).setCells w2.heap.size 0 C = w3 at *
  rw [← hq9] at o7 ⊢
  clear hq9 th1 al1 ga1 hszF ob2 G2
  have hrM : w3.rangeAt q9 2 M := fun j v hj => by
    obtain ⟨g', off', eg, hcs⟩ := o7.sl.hat (by omega)
    cases eg
    have h1 := hcs.at (Htg.out j v hj)
    rw [Nat.zero_add] at h1
    exact h1
  have hsM : (Try.prog.info? 27).map (·.size) = some M.length := by rw [hMl]; kernel_rfl
  go_wp2_with (refine wpList_load_mid rfl 27 _ rfl q9 2 rfl M _ hrM Try.underlying27 rfl hsM ?_)
  refine hsh _ _ ?_
  clear hsh hrM hsM Htg
  intro w4 g4
  have G4 := G3.trans g4
  have ob4 := ob3.grow g4
  have o74 := o7.grow g4
  clear G3 g4 ob3 o7
  obtain ⟨o10, ga1, th1, al1⟩ := newvar (t := 34) w4 (.int .u8 0) rfl (by omega) hWl hW1
  have hszF : (Try.prog.info? 34).map (·.size) = some W.toArray.size := by rw [List.size_toArray, hWl]; exact i16
  go_upto_region 3 with (refine wpList_store_mid rfl 34 _ _ rfl w4.heap.size 0 W.toArray rfl rfl th1 hszF al1 ?_)
  change Code.wp _ _ _ ⟨_, _⟩ ((w4.alloc (.cells (List.replicate 16 (.int .u8 0)).toArray 34)).setCells w4.heap.size 0 W)
  have G5 := G4.trans ga1
  have ob5 := ob4.grow ga1
  have o75 := o74.grow ga1
  obtain ⟨q10, hq⟩ : ∃ q, q = w4.heap.size := ⟨_, rfl⟩
  generalize (w4.alloc (.cells (List.replicate 16 (.int .u8 0)).toArray 34)).setCells w4.heap.size 0 W = w5 at *
  rw [← hq] at o10 ⊢
  have hge_q10 : w4.heap.size ≤ q10 := by omega
  clear hq th1 al1 ga1 hszF G4 ob4 o74
  have sa := o10.sl
  have sb := ob5.sl
  refine wp_region_R (segT w5 [(2, pIs (.bool e))]) (by kernel_rfl) segT_drew ?_
  unfold segT segK segR
  repeat (first | (refine wpV_skp rfl rfl ?_; simp only [List.set_cons_succ, List.set_cons_zero]) | (refine wpV_look rfl rfl rfl rfl rfl (fun K hK => ?_); go_big_quiet_op; refine hK _ ?_; clear hK K))
  refine wpV_mk rfl rfl rfl [] (by kernel_rfl) (fun vs w7 hC hF => yields_call (by kernel_rfl) ?_) (fun vs v w7 hC hV hF => ?_)
  · obtain ⟨⟨w7, hk, -⟩, rfl⟩ := hC
    exact heq _ _ w7 (sa.keep hk (by simp)) (sb.keep hk (by simp)) _ (fun w8 g8 => ⟨_, rfl, ⟨Keep.of_grow [] g8, trivial⟩, rfl⟩)
  obtain rfl := hV
  clear hC hF w7
  simp only [List.set_cons_succ, List.set_cons_zero]
  repeat (first | (refine wpV_skp rfl rfl ?_; simp only [List.set_cons_succ, List.set_cons_zero]) | (refine wpV_look rfl rfl rfl rfl rfl (fun K hK => ?_); go_big_quiet_op; refine hK _ ?_; clear hK K))
  refine wpV_nil ?_
  intro w6 hC hF
  obtain ⟨⟨w6, hkw6, -⟩, rfl⟩ := hC
  clear hF
  have G6 := G5.trans hkw6.grow
  have o76 := o75.keep hkw6 (by simp)
  clear o75 ob5 o10 sa sb G5 hkw6 heq
  cases e with
  | false =>
    have hf := hRf rfl w6 G6
    clear hR hRf hput o76
    go_wp2_with fail
    exact hf
  | true =>
    have hc6 := hput w6 G6
    have hR2 := hR rfl
    have hsC : (Try.prog.info? 66).map (·.size) = some C.length := by rw [hCl]; exact i35
    have hrg := own_range o76 (by omega)
    clear hput hRf o76 hR
    go_wp2_with (refine wpList_load_mid rfl 66 _ rfl q9 0 rfl C _ hrg Try.underlying66 rfl hsC ?_)
    refine hc6 _ ?_
    clear hc6 hrg hsC
    intro ao' c' w7 bk7 k7 b7
    have hsz6 := G6.size
    have hf := hR2 ao' c' w7 bk7 ((Keep.of_grow _ G6).trans k7) (fun g hg => (b7 g hg).imp id fun h => by omega)
    clear hR2
    go_wp2_with fail
    exact hf

set_option maxRecDepth 100000 in
set_option maxHeartbeats 1000000 in
theorem checkN (a0 : Option Addr) (c0 : Nat) (key T : List UInt8) (hTl : T.length = 16) (lo : Option Addr) (cap : Nat) (vs : List Value) (ls : List (List UInt8)) (w : World) (sk : Sl w 1 a0 key.length c0 (key.map B)) (hkl : key.length ≤ 900000) (s : Sl w 1 lo ls.length cap vs) (pt : Pt w vs ls) (hl : ls.length ≤ 100000) (ht : ls.flatten.length ≤ 400000)
    (R : Ending → World → Prop) (hR : (shortS (macS key (framS ls)) == T) = true → ∀ w', Grow w w' → R (.returned (.bool true)) w') (hRf : (shortS (macS key (framS ls)) == T) = false → ∀ w', Grow w w' → R (.returned (.bool false)) w') :
    Calls Try.prog 46 #[.pointer none, .slice a0 key.length c0, .agg (T.map B).toArray, .slice lo ls.length cap] w R := by
  have hml : maxLen = 9223372036854775807 := rfl
  have i16 : (Try.prog.info? 34).map (·.size) = some 16 := by kernel_rfl
  have hcl := fun w s s' pt => claimC a0 c0 key lo cap vs ls w s hkl s' pt hl ht
  have hCl := clV_len (clmS key (framS ls) false)
  have hC1 := clV_one (clmS key (framS ls) false)
  have hSl := shortS_len (macS key (framS ls)) (macS_len _ _)
  have htg : ∀ i v, ((macS key (framS ls)).map B)[i]? = some v → (clV (clmS key (framS ls) false))[2 + i]? = some v := fun i v hv => by
    obtain ⟨hi, hv⟩ := List.getElem?_eq_some_iff.1 hv
    have hi' := hi
    rw [List.length_map, macS_len] at hi'
    rw [clV_tag _ i hi', ← hv, List.getElem_map]
    rfl
  have hMl : ((macS key (framS ls)).map B).length = 32 := by rw [List.length_map]; exact macS_len _ _
  have hsh := shortMC (macS key (framS ls)) (macS_len _ _)
  have heq := fun ao bo w sa sb => equalC ao 16 (shortS (macS key (framS ls))) bo 16 T w sa sb
  rw [hSl, hTl] at heq
  have hput := fun w' (g : Grow w w') => putNil (clV (clmS key (framS ls) false)).toArray w'
  obtain ⟨e, he⟩ : ∃ e, e = (shortS (macS key (framS ls)) == T) := ⟨_, rfl⟩
  rw [← he] at hR hRf
  simp only [← he] at heq
  obtain ⟨S, hS⟩ : ∃ T, T = shortS (macS key (framS ls)) := ⟨_, rfl⟩
  rw [← hS] at hSl hsh
  simp only [← hS] at heq
  obtain ⟨M, hM⟩ : ∃ T, T = (macS key (framS ls)).map B := ⟨_, rfl⟩
  rw [← hM] at hMl hsh
  simp only [← hM] at htg
  obtain ⟨C, hC⟩ : ∃ C, C = clV (clmS key (framS ls) false) := ⟨_, rfl⟩
  rw [← hC] at hCl hC1
  simp only [← hC] at hcl htg hput
  obtain ⟨U, hU⟩ : ∃ U, U = T.map B := ⟨_, rfl⟩
  have hUl : U.length = 16 := by rw [hU, List.length_map]; exact hTl
  have hU1 : ∀ v ∈ U, v.oneCell' = true := by rw [hU]; exact B_one _
  obtain ⟨W, hW⟩ : ∃ U, U = S.map B := ⟨_, rfl⟩
  have hWl : W.length = 16 := by rw [hW, List.length_map]; exact hSl
  have hW1 : ∀ v ∈ W, v.oneCell' = true := by rw [hW]; exact B_one _
  rw [← hU] at heq ⊢
  simp only [← hW] at hsh heq
  obtain ⟨N, hN⟩ : ∃ N, N = key.length := ⟨_, rfl⟩
  obtain ⟨n2, hn2⟩ : ∃ N, N = ls.length := ⟨_, rfl⟩
  simp only [← hN, ← hn2] at sk s hcl ⊢
  have ob : Own (w.alloc (.cells U.toArray 34)) 34 1 (some ⟨w.heap.size, 0, none⟩) 16 16 U := Own.made (n := 16) (sz := 1) (heap_alloc_new w (.cells U.toArray 34)) (by simp [hUl]) (by omega) (by simpa using hU1)
  have ga := Grow.alloc w (.cells U.toArray 34)
  have hc1 := hcl (w.alloc (.cells U.toArray 34)) (sk.grow ga) (s.grow ga) (pt.grow ga)
  have Htg := Lib.hid htg
  clear he hS hM hC hU hW hN hn2 hcl hkl hl ht htg sk s pt hSl hTl
  go_enter Try.func46, Try.ntmps46
  go_wp2_with fail
  change Calls _ _ _ (w.alloc (.cells U.toArray 34)) _
  obtain ⟨qb, hqb⟩ : ∃ q, q = w.heap.size := ⟨_, rfl⟩
  generalize w.alloc (.cells U.toArray 34) = w1 at *
  rw [← hqb] at ob ⊢
  clear hqb
  refine hc1 _ ?_
  clear hc1
  intro w2 g2
  have G2 := ga.trans g2
  have ob2 := ob.grow g2
  clear ga g2 ob
  obtain ⟨o7, ga1, th1, al1⟩ := newvarZ (t := 66) w2 clZ clZ_len clZ_one (by omega) hCl hC1
  have hszF : (Try.prog.info? 66).map (·.size) = some C.toArray.size := by rw [List.size_toArray, hCl]; exact i35
  go_upto_region 2 with (refine wpList_store_mid rfl 66 _ _ rfl w2.heap.size 0 C.toArray rfl rfl th1 hszF al1 ?_)
  change Code.wp _ _ _ ⟨_, _⟩ ((w2.alloc (.cells clZ.toArray 66)).setCells w2.heap.size 0 C)
  have G3 := G2.trans ga1
  have ob3 := ob2.grow ga1
  obtain ⟨q9, hq9⟩ : ∃ q, q = w2.heap.size := ⟨_, rfl⟩
  generalize (w2.alloc (.cells clZ.toArray 66)).setCells w2.heap.size 0 C = w3 at *
  rw [← hq9] at o7 ⊢
  clear hq9 th1 al1 ga1 hszF ob2 G2
  have hrM : w3.rangeAt q9 2 M := fun j v hj => by
    obtain ⟨g', off', eg, hcs⟩ := o7.sl.hat (by omega)
    cases eg
    have h1 := hcs.at (Htg.out j v hj)
    rw [Nat.zero_add] at h1
    exact h1
  have hsM : (Try.prog.info? 27).map (·.size) = some M.length := by rw [hMl]; kernel_rfl
  go_wp2_with (refine wpList_load_mid rfl 27 _ rfl q9 2 rfl M _ hrM Try.underlying27 rfl hsM ?_)
  refine hsh _ _ ?_
  clear hsh hrM hsM Htg
  intro w4 g4
  have G4 := G3.trans g4
  have ob4 := ob3.grow g4
  have o74 := o7.grow g4
  clear G3 g4 ob3 o7
  obtain ⟨o10, ga1, th1, al1⟩ := newvar (t := 34) w4 (.int .u8 0) rfl (by omega) hWl hW1
  have hszF : (Try.prog.info? 34).map (·.size) = some W.toArray.size := by rw [List.size_toArray, hWl]; exact i16
  go_upto_region 3 with (refine wpList_store_mid rfl 34 _ _ rfl w4.heap.size 0 W.toArray rfl rfl th1 hszF al1 ?_)
  change Code.wp _ _ _ ⟨_, _⟩ ((w4.alloc (.cells (List.replicate 16 (.int .u8 0)).toArray 34)).setCells w4.heap.size 0 W)
  have G5 := G4.trans ga1
  have ob5 := ob4.grow ga1
  have o75 := o74.grow ga1
  obtain ⟨q10, hq⟩ : ∃ q, q = w4.heap.size := ⟨_, rfl⟩
  generalize (w4.alloc (.cells (List.replicate 16 (.int .u8 0)).toArray 34)).setCells w4.heap.size 0 W = w5 at *
  rw [← hq] at o10 ⊢
  have hge_q10 : w4.heap.size ≤ q10 := by omega
  clear hq th1 al1 ga1 hszF G4 ob4 o74
  have sa := o10.sl
  have sb := ob5.sl
  refine wp_region_R (segT w5 [(2, pIs (.bool e))]) (by kernel_rfl) segT_drew ?_
  unfold segT segK segR
  repeat (first | (refine wpV_skp rfl rfl ?_; simp only [List.set_cons_succ, List.set_cons_zero]) | (refine wpV_look rfl rfl rfl rfl rfl (fun K hK => ?_); go_big_quiet_op; refine hK _ ?_; clear hK K))
  refine wpV_mk rfl rfl rfl [] (by kernel_rfl) (fun vs w7 hC hF => yields_call (by kernel_rfl) ?_) (fun vs v w7 hC hV hF => ?_)
  · obtain ⟨⟨w7, hk, -⟩, rfl⟩ := hC
    exact heq _ _ w7 (sa.keep hk (by simp)) (sb.keep hk (by simp)) _ (fun w8 g8 => ⟨_, rfl, ⟨Keep.of_grow [] g8, trivial⟩, rfl⟩)
  obtain rfl := hV
  clear hC hF w7
  simp only [List.set_cons_succ, List.set_cons_zero]
  repeat (first | (refine wpV_skp rfl rfl ?_; simp only [List.set_cons_succ, List.set_cons_zero]) | (refine wpV_look rfl rfl rfl rfl rfl (fun K hK => ?_); go_big_quiet_op; refine hK _ ?_; clear hK K))
  refine wpV_nil ?_
  intro w6 hC hF
  obtain ⟨⟨w6, hkw6, -⟩, rfl⟩ := hC
  clear hF
  have G6 := G5.trans hkw6.grow
  have o76 := o75.keep hkw6 (by simp)
  clear o75 ob5 o10 sa sb G5 hkw6 heq
  cases e with
  | false =>
    have hf := hRf rfl w6 G6
    clear hR hRf hput o76
    go_wp2_with fail
    exact hf
  | true =>
    have hc6 := hput w6 G6
    have hR2 := hR rfl
    have hsC : (Try.prog.info? 66).map (·.size) = some C.length := by rw [hCl]; exact i35
    have hrg := own_range o76 (by omega)
    clear hput hRf o76 hR
    go_wp2_with (refine wpList_load_mid rfl 66 _ rfl q9 0 rfl C _ hrg Try.underlying66 rfl hsC ?_)
    refine hc6 _ ?_
    clear hc6 hrg hsC
    intro w7 g7
    have hf := hR2 w7 (G6.trans g7)
    clear hR2
    go_wp2_with fail
    exact hf

set_option maxRecDepth 100000 in
theorem cloneCl (ao : Option Addr) (n c : Nat) (vs : List Value) (w : World) (s : Sl w 35 ao n c vs) (hn : n ≤ 100000) (R : Ending → World → Prop)
    (hR : ∀ ao' c' w', Own w' 66 35 ao' n c' vs → Grow w w' → Fr (blk ao') w → R (.returned (.slice ao' n c')) w') :
    Calls Try.prog 64 #[.slice ao n c] w R := by
  have hml : maxLen = 9223372036854775807 := rfl
  have heq := fun w => Lib.run_eql_slice_nil (P := Try.prog) w 62 66 ao n c 0 0 Try.underlying62
  cases ao with
  | none =>
    have hc := s.hnil rfl
    have hle := s.hle
    obtain rfl : n = 0 := by omega
    subst hc
    obtain rfl : vs = [] := List.eq_nil_of_length_eq_zero (by simpa using s.hlen)
    have hf := hR none 0 w (Own.none _ _ _) (Grow.refl _) (by simp [blk, Fr])
    go_enter Try.func64, Try.ntmps64
    go_wp2_with fail
    exact hf
  | some a =>
    have o0 : Own (w.alloc (.cells #[] 66)) 66 35 (some ⟨w.heap.size, 0, none⟩) 0 0 [] := Own.made (n := 0) (heap_alloc_new w _) rfl (by decide) (by simp)
    obtain ⟨ao', cap', w', hr, own1, g1, blk1⟩ := run_app0 TCl (w.alloc (.cells #[] 66)) 62 o0 (s.grow (Grow.alloc w _)) (by omega) (by omega)
    have hf := hR ao' cap' w' own1 ((Grow.alloc w _).trans g1) (fun g hg => by
      rcases blk1 g hg with h | h
      · simp [blk] at h; omega
      · rw [sz_al] at h; omega)
    clear hR o0 own1 g1 blk1
    go_enter Try.func64, Try.ntmps64
    go_wp2_with (at_builtin; refine wpList_appendR rfl rfl hr ?_)
    exact hf
set_option maxRecDepth 100000 in
theorem allC (p : Nat) (ao : Option Addr) (n c : Nat) (cs : List Clm) (w : World) (bk : Bk w p ao n c cs) (hn : n ≤ 100000) (R : Ending → World → Prop)
    (hR : ∀ ao' c' w', Own w' 66 35 ao' n c' (clVs cs) → Grow w w' → Fr (blk ao') w → R (.returned (.slice ao' n c')) w') :
    Calls Try.prog 49 #[.pointer (some ⟨p, 0, none⟩)] w R := by
  have cc := obj_cell bk.obj 0 rfl
  have hc := cloneCl ao n c _ w bk.own.sl hn
  clear bk
  go_enter Try.func49, Try.ntmps49
  go_wp2_with fail
  refine hc _ ?_
  clear hc
  intro ao' c' w' o g f
  have hf := hR ao' c' w' o g f
  clear hR
  go_wp2_with fail
  exact hf
set_option maxRecDepth 100000 in
theorem allN (w : World) (R : Ending → World → Prop) (hR : R (.returned (.slice none 0 0)) w) :
    Calls Try.prog 49 #[.pointer none] w R := by
  go_enter Try.func49, Try.ntmps49
  go_wp2_with fail
  exact hR
end Go.Proofs.Ytaepfkpfageiaaa
