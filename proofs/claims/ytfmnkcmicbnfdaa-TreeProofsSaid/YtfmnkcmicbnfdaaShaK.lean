/- The document's constants. -/
import Derived.Test.YtfmnkcmicbnfdaaGTab
import Derived.Test.YtfmnkcmicbnfdaaGSha1
import Derived.Test.YtfmnkcmicbnfdaaGMem
import Derived.Test.YtfmnkcmicbnfdaaGNew
namespace Go.Proofs.Ytfmnkcmicbnfdaa
open Go Go.RowKit

set_option maxRecDepth 100000 in
set_option maxHeartbeats 1000000 in
theorem cubeC (p : Nat) (hp : p < 512) (w : World) (R : Ending → World → Prop) (hR : ∀ w', Grow w w' → R (.returned (.int .u32 ((cubF p 36 0 % 4294967296 : Nat) : Int))) w') :
    Calls Try.prog 101 #[.int .u64 (p : Int)] w R := by
  obtain ⟨r, hr⟩ : ∃ r, r = cubF p 36 0 := ⟨_, rfl⟩
  simp only [← hr] at hR
  have Hr := Lib.hid hr
  clear hr
  go_enter Try.func101, Try.ntmps101
  go_wp2_with fail
  go_loopw [3, 4] (fun vx vb wr => ∃ j x : Nat, vx = .int .u64 (x : Int) ∧ vb = .int .i64 ((j : Int) - 1) ∧ Hid (r = cubF p j x) ∧ Hid (j ≤ 36 ∧ x + 2 ^ j ≤ 68719476736 ∧ x % 2 ^ j = 0) ∧ Grow w wr) (fun _ vb _ => (intOf vb + 1).toNat)
  case atStart => exact ⟨36, 0, by simp, by simp, Hr, Lib.hid (by decide), Grow.refl _⟩
  case round =>
    obtain ⟨j, x, rfl, rfl, hrj, hxj, hg⟩ := hrel
    cases j with
    | zero =>
      have hrx : r = x := hrj.out
      have hx := hxj.out.2.1
      rw [show (((0 : Nat) : Int) - 1) = -1 by rfl]
      subst hrx
      have hf := hR _ hg
      clear hrj hxj hR
      go_wp2_with fail
      rw [Int.natCast_emod] at hf
      exact hf
    | succ j =>
      obtain ⟨hj37, hxb, hm⟩ := hxj.out
      have hj36 : j ≤ 36 := by omega
      rw [show (((j + 1 : Nat) : Int) - 1) = (j : Int) by omega]
      have hp2 : 0 < 2 ^ j := Nat.two_pow_pos j
      rw [Nat.pow_succ] at hxb
      have hor := Lib.hid (or_bit x j hj36 (by omega) hm)
      obtain ⟨hm1, hm2⟩ := mod_down x j hm
      have hrr := hrj.out
      rw [cubF] at hrr
      have hyes : abvF (cubW (x + 2 ^ j)) p 6 = false → Hid (r = cubF p j (x + 2 ^ j)) := fun h => Lib.hid (by rw [hrr, if_neg (by rw [h]; decide)])
      have hno : abvF (cubW (x + 2 ^ j)) p 6 = true → Hid (r = cubF p j x) := fun h => Lib.hid (by rw [hrr, if_pos h])
      have k1 : Hid (j ≤ 36 ∧ (x + 2 ^ j) + 2 ^ j ≤ 68719476736 ∧ (x + 2 ^ j) % 2 ^ j = 0) := Lib.hid ⟨by omega, by omega, hm2⟩
      have k2 : Hid (j ≤ 36 ∧ x + 2 ^ j ≤ 68719476736 ∧ x % 2 ^ j = 0) := Lib.hid ⟨by omega, by omega, hm1⟩
      go_upto_region 6 with (fail)
      simp only [hor.out]
      have hyl : x + 2 ^ j < 68719476736 := by omega
      have hcall := aboveC (x + 2 ^ j) p (by omega) hp wr
      obtain ⟨V, hV⟩ : ∃ V, V = abvF (cubW (x + 2 ^ j)) p 6 := ⟨_, rfl⟩
      simp only [← hV] at hyes hno hcall
      clear hor hrr hm1 hm2 hrj hxj hxb hm hp2 hV
      obtain ⟨y, hy⟩ : ∃ y, y = x + 2 ^ j := ⟨_, rfl⟩
      simp only [← hy] at hyes hcall k1 hyl ⊢
      clear hy
      cases V with
      | true =>
        have hd1 := hno rfl
        clear hyes hno
        go_wp2_with fail
        refine hcall _ ?_
        intro w2 g2
        have hg2 := hg.trans g2
        go_wp2_with fail
        go_roundw
        case rel => exact ⟨j, x, rfl, by simp, hd1, k2, hg2⟩
        case measure => simp [intOf]
      | false =>
        have hd1 := hyes rfl
        clear hyes hno
        go_wp2_with fail
        refine hcall _ ?_
        intro w2 g2
        have hg2 := hg.trans g2
        go_wp2_with fail
        go_roundw
        case rel => exact ⟨j, y, rfl, by simp, hd1, k1, hg2⟩
        case measure => simp [intOf]
-- CONSTANTS
def cub (p : Nat) : Nat := cubF p 36 0 % 4294967296
theorem cub_Ks : ((pl 312).take 64).map cub = Ks := by
  unfold Ks
  refine List.map_congr_left fun p hp => ?_
  have := List.all_eq_true.1 cub_rt p hp
  simpa [cub] using this
set_option maxRecDepth 100000 in
set_option maxHeartbeats 2000000 in
theorem startC (w : World) (R : Ending → World → Prop) (hR : ∀ w', Grow w w' → R (.returned (.agg ((((pl 312).take 8).map rt2).map U).toArray)) w') :
    Calls Try.prog 79 #[] w R := by
  have hp8 := rPrimesC 8 (by omega) pl312
  have hlt : ∀ x ∈ pl 312, x < 512 := fun x h => by have := pl_ge 312 x h; omega
  have c2 : ∀ p, p < 512 → ∀ (w : World) (R : Ending → World → Prop), (∀ w', Grow w w' → R (.returned (.int .u32 ((rt2 p : Nat) : Int))) w') → Calls Try.prog 100 #[.int .u64 (p : Int)] w R := fun p h w R hR => squareC p h w R (hR w (Grow.refl w))
  have hl8 : ((pl 312).take 8).length = 8 := by rw [List.length_take, pl312]; rfl
  have hlt8 : ∀ x ∈ (pl 312).take 8, x < 512 := fun x h => hlt x (List.mem_of_mem_take h)
  obtain ⟨P8, e8⟩ : ∃ P, P = (pl 312).take 8 := ⟨_, rfl⟩
  simp only [← e8] at hp8 hl8 hlt8 hR
  generalize rt2 = r2 at c2 hR
  clear e8 hlt
  have i8 : (Try.prog.info? 141).map (·.size) = some 8 := by kernel_rfl
  have o0 : Own (w.alloc (.cells (List.replicate 8 (U 0)).toArray 141)) 141 1 (some ⟨w.heap.size, 0, none⟩) 8 8 ((List.replicate 8 0).map U) := by
    have := Own.made (n := 8) (sz := 1) (heap_alloc_new w (.cells (List.replicate 8 (U 0)).toArray 141)) rfl (by decide) (by simp [U, Value.oneCell'])
    simpa using this
  have o0' := o0.grow (Grow.alloc _ (.cells (List.replicate 8 (U 0)).toArray 141))
  have o1 : Own ((w.alloc (.cells (List.replicate 8 (U 0)).toArray 141)).alloc (.cells (List.replicate 8 (U 0)).toArray 141)) 141 1 (some ⟨w.heap.size + 1, 0, none⟩) 8 8 (arrN 8 []) := by
    have := Own.made (n := 8) (sz := 1) (heap_alloc_new (w.alloc (.cells (List.replicate 8 (U 0)).toArray 141)) (.cells (List.replicate 8 (U 0)).toArray 141)) rfl (by decide) (by simp [U, Value.oneCell'])
    rwa [sz_al] at this
  have g1 : Grow w ((w.alloc (.cells (List.replicate 8 (U 0)).toArray 141)).alloc (.cells (List.replicate 8 (U 0)).toArray 141)) := (Grow.alloc w _).trans (Grow.alloc _ _)
  obtain ⟨q, hq⟩ : ∃ q, q = w.heap.size := ⟨_, rfl⟩
  clear o0
  go_enter Try.func79, Try.ntmps79
  go_wp2_with fail
  change Calls _ _ _ ((w.alloc (.cells (List.replicate 8 (U 0)).toArray 141)).alloc (.cells (List.replicate 8 (U 0)).toArray 141)) _
  generalize ((w.alloc (.cells (List.replicate 8 (U 0)).toArray 141)).alloc (.cells (List.replicate 8 (U 0)).toArray 141)) = w1 at *
  rw [← hq] at o0' o1 ⊢
  have Hq := Lib.hid hq
  clear hq
  refine hp8 w1 _ ?_
  intro ao cap w2 oP g2 fP
  have o0b := o0'.grow g2
  have o1b := o1.grow g2
  have g12 := g1.trans g2
  have qo := o0'.lt q (by simp [blk])
  have qo1 := o1.lt (q + 1) (by simp [blk])
  clear o0' o1
  go_wp2_with fail
  go_loopw [3] (fun vj wr => ∃ j : Nat, vj = .int .i64 (j : Int) ∧ j ≤ 8 ∧ Own wr 141 1 (some ⟨q + 1, 0, none⟩) 8 8 (arrN 8 ((P8.take j).map r2)) ∧ Keep [q + 1] w2 wr) (fun vj _ => 8 - (intOf vj).toNat)
  case atStart => exact ⟨0, by simp, by omega, by simpa using o1b, Keep.refl _ _⟩
  case round =>
    obtain ⟨j, rfl, hj, oj, kj⟩ := hrel
    by_cases hj8 : j < 8
    · obtain ⟨gp, offp, eg, hcs⟩ := (oP.keep kj (fun g hg => by have := fP g hg; simp; omega)).sl.hat (by omega)
      subst eg
      have hjp : j < P8.length := by omega
      have c1 := hcs.at (i := j) (v := V64 P8[j]) (by simp [hjp])
      have hp5 := hlt8 P8[j] (List.getElem_mem hjp)
      have htl : ((P8.take j).map r2).length = j := by simp; omega
      obtain ⟨y, hy⟩ : ∃ y, y = P8[j] := ⟨_, rfl⟩
      have hcc := c2 P8[j] hp5 wr
      simp only [V64] at c1
      simp only [← hy] at c1 hcc
      have Hy := Lib.hid hy
      clear hcs hy
      go_wp2_with fail
      refine hcc _ ?_
      intro w5 g5
      have oj5 := oj.grow g5
      have hnx := putN_next oj5 (by omega) (r2 y)
      rw [htl, show (P8.take j).map r2 ++ [r2 y] = (P8.take (j + 1)).map r2 by rw [List.take_add_one, List.getElem?_eq_getElem hjp, List.map_append, Hy.out]; rfl] at hnx
      obtain ⟨g3, v, eg, hv, hfz, -⟩ := own_put oj5 (i := j) (by omega)
      cases eg
      have kj2 := (kj.trans (Keep.of_grow _ g5)).trans (Keep.setCell (fp := [q + 1]) w5 ⟨q + 1, j, none⟩ (by simp) (.int .u32 ((r2 y : Nat) : Int)))
      clear htl oj oj5
      go_wp2_with fail
      go_roundw
      case rel => exact ⟨j + 1, by go_num, by omega, hnx, kj2⟩
      case measure => simp [intOf]; omega
    · obtain rfl : j = 8 := by omega
      rw [show arrN 8 ((P8.take 8).map r2) = (P8.map r2).map U by rw [List.take_of_length_le (by omega)]; unfold arrN; simp [hl8]] at oj
      have o0c := o0b.keep kj (by simp [blk])
      have g3 := g12.then kj (fun x hx => by simp at hx; have := Hq.out; omega)
      have hXl : (P8.map r2).length = 8 := by simpa using hl8
      obtain ⟨X, hX⟩ : ∃ X, X = P8.map r2 := ⟨_, rfl⟩
      rw [← hX] at oj hXl
      simp only [← hX] at hR
      clear hX kj o0b o1b oP
      obtain ⟨r1, r2', r3⟩ := store_words (P := Try.prog) hXl o0c i8
      have hrg : wr.rangeAt (q + 1) 0 (X.map U) := fun j v hj => by
        obtain ⟨g', off', eg, hcs⟩ := oj.sl.hat (by omega)
        cases eg
        exact hcs.at hj
      have hth := own_there o0c (X.map U).toArray.size (by simpa using hXl)
      have hsz : (Try.prog.info? 141).map (·.size) = some (X.map U).length := by rw [List.length_map, hXl]; exact i8
      have hall := one_all (oneU X)
      have gg := g3.then r3 (fun x hx => by simp at hx; have := Hq.out; omega)
      clear r1 r3
      go_wp2_with (first | refine wpList_load_mid rfl 141 _ rfl (q + 1) 0 rfl (X.map U) _ hrg Try.underlying141 rfl hsz ?_ | refine wpList_store_mid rfl 141 _ _ rfl q 0 (X.map U).toArray rfl rfl hth (by simpa using hsz) hall ?_)
      exact bodyPost_ret (v := .agg (X.map U).toArray) (ret_bytes Try.results79 _ _ q (X.map U) _ _ 8 rfl r2' (by decide) Try.underlying141 rfl i8) rfl (hR _ gg)
set_option maxRecDepth 100000 in
set_option maxHeartbeats 2000000 in
theorem roundsC (w : World) (R : Ending → World → Prop) (hR : ∀ w', Grow w w' → R (.returned (.agg ((((pl 312).take 64).map cub).map U).toArray)) w') :
    Calls Try.prog 80 #[] w R := by
  have hp8 := rPrimesC 64 (by omega) pl312
  have hlt : ∀ x ∈ pl 312, x < 512 := fun x h => by have := pl_ge 312 x h; omega
  have c2 : ∀ p, p < 512 → ∀ (w : World) (R : Ending → World → Prop), (∀ w', Grow w w' → R (.returned (.int .u32 ((cub p : Nat) : Int))) w') → Calls Try.prog 101 #[.int .u64 (p : Int)] w R := fun p h w R hR => cubeC p h w R hR
  have hl8 : ((pl 312).take 64).length = 64 := by rw [List.length_take, pl312]; rfl
  have hlt8 : ∀ x ∈ (pl 312).take 64, x < 512 := fun x h => hlt x (List.mem_of_mem_take h)
  obtain ⟨P8, e8⟩ : ∃ P, P = (pl 312).take 64 := ⟨_, rfl⟩
  simp only [← e8] at hp8 hl8 hlt8 hR
  generalize cub = r2 at c2 hR
  clear e8 hlt
  have i8 : (Try.prog.info? 143).map (·.size) = some 64 := by kernel_rfl
  have o0 : Own (w.alloc (.cells (List.replicate 64 (U 0)).toArray 143)) 143 1 (some ⟨w.heap.size, 0, none⟩) 64 64 ((List.replicate 64 0).map U) := by
    have := Own.made (n := 64) (sz := 1) (heap_alloc_new w (.cells (List.replicate 64 (U 0)).toArray 143)) rfl (by decide) (by simp [U, Value.oneCell'])
    simpa using this
  have o0' := o0.grow (Grow.alloc _ (.cells (List.replicate 64 (U 0)).toArray 143))
  have o1 : Own ((w.alloc (.cells (List.replicate 64 (U 0)).toArray 143)).alloc (.cells (List.replicate 64 (U 0)).toArray 143)) 143 1 (some ⟨w.heap.size + 1, 0, none⟩) 64 64 (arrN 64 []) := by
    have := Own.made (n := 64) (sz := 1) (heap_alloc_new (w.alloc (.cells (List.replicate 64 (U 0)).toArray 143)) (.cells (List.replicate 64 (U 0)).toArray 143)) rfl (by decide) (by simp [U, Value.oneCell'])
    rwa [sz_al] at this
  have g1 : Grow w ((w.alloc (.cells (List.replicate 64 (U 0)).toArray 143)).alloc (.cells (List.replicate 64 (U 0)).toArray 143)) := (Grow.alloc w _).trans (Grow.alloc _ _)
  obtain ⟨q, hq⟩ : ∃ q, q = w.heap.size := ⟨_, rfl⟩
  clear o0
  go_enter Try.func80, Try.ntmps80
  go_wp2_with fail
  change Calls _ _ _ ((w.alloc (.cells (List.replicate 64 (U 0)).toArray 143)).alloc (.cells (List.replicate 64 (U 0)).toArray 143)) _
  generalize ((w.alloc (.cells (List.replicate 64 (U 0)).toArray 143)).alloc (.cells (List.replicate 64 (U 0)).toArray 143)) = w1 at *
  rw [← hq] at o0' o1 ⊢
  have Hq := Lib.hid hq
  clear hq
  refine hp8 w1 _ ?_
  intro ao cap w2 oP g2 fP
  have o0b := o0'.grow g2
  have o1b := o1.grow g2
  have g12 := g1.trans g2
  have qo := o0'.lt q (by simp [blk])
  have qo1 := o1.lt (q + 1) (by simp [blk])
  clear o0' o1
  go_wp2_with fail
  go_loopw [3] (fun vj wr => ∃ j : Nat, vj = .int .i64 (j : Int) ∧ j ≤ 64 ∧ Own wr 143 1 (some ⟨q + 1, 0, none⟩) 64 64 (arrN 64 ((P8.take j).map r2)) ∧ Keep [q + 1] w2 wr) (fun vj _ => 64 - (intOf vj).toNat)
  case atStart => exact ⟨0, by simp, by omega, by simpa using o1b, Keep.refl _ _⟩
  case round =>
    obtain ⟨j, rfl, hj, oj, kj⟩ := hrel
    by_cases hj8 : j < 64
    · obtain ⟨gp, offp, eg, hcs⟩ := (oP.keep kj (fun g hg => by have := fP g hg; simp; omega)).sl.hat (by omega)
      subst eg
      have hjp : j < P8.length := by omega
      have c1 := hcs.at (i := j) (v := V64 P8[j]) (by simp [hjp])
      have hp5 := hlt8 P8[j] (List.getElem_mem hjp)
      have htl : ((P8.take j).map r2).length = j := by simp; omega
      obtain ⟨y, hy⟩ : ∃ y, y = P8[j] := ⟨_, rfl⟩
      have hcc := c2 P8[j] hp5 wr
      simp only [V64] at c1
      simp only [← hy] at c1 hcc
      have Hy := Lib.hid hy
      clear hcs hy
      go_wp2_with fail
      refine hcc _ ?_
      intro w5 g5
      have oj5 := oj.grow g5
      have hnx := putN_next oj5 (by omega) (r2 y)
      rw [htl, show (P8.take j).map r2 ++ [r2 y] = (P8.take (j + 1)).map r2 by rw [List.take_add_one, List.getElem?_eq_getElem hjp, List.map_append, Hy.out]; rfl] at hnx
      obtain ⟨g3, v, eg, hv, hfz, -⟩ := own_put oj5 (i := j) (by omega)
      cases eg
      have kj2 := (kj.trans (Keep.of_grow _ g5)).trans (Keep.setCell (fp := [q + 1]) w5 ⟨q + 1, j, none⟩ (by simp) (.int .u32 ((r2 y : Nat) : Int)))
      clear htl oj oj5
      go_wp2_with fail
      go_roundw
      case rel => exact ⟨j + 1, by go_num, by omega, hnx, kj2⟩
      case measure => simp [intOf]; omega
    · obtain rfl : j = 64 := by omega
      rw [show arrN 64 ((P8.take 64).map r2) = (P8.map r2).map U by rw [List.take_of_length_le (by omega)]; unfold arrN; simp [hl8]] at oj
      have o0c := o0b.keep kj (by simp [blk])
      have g3 := g12.then kj (fun x hx => by simp at hx; have := Hq.out; omega)
      have hXl : (P8.map r2).length = 64 := by simpa using hl8
      obtain ⟨X, hX⟩ : ∃ X, X = P8.map r2 := ⟨_, rfl⟩
      rw [← hX] at oj hXl
      simp only [← hX] at hR
      clear hX kj o0b o1b oP
      obtain ⟨r1, r2', r3⟩ := store_words (P := Try.prog) hXl o0c i8
      have hrg : wr.rangeAt (q + 1) 0 (X.map U) := fun j v hj => by
        obtain ⟨g', off', eg, hcs⟩ := oj.sl.hat (by omega)
        cases eg
        exact hcs.at hj
      have hth := own_there o0c (X.map U).toArray.size (by simpa using hXl)
      have hsz : (Try.prog.info? 143).map (·.size) = some (X.map U).length := by rw [List.length_map, hXl]; exact i8
      have hall := one_all (oneU X)
      have gg := g3.then r3 (fun x hx => by simp at hx; have := Hq.out; omega)
      clear r1 r3
      go_wp2_with (first | refine wpList_load_mid rfl 143 _ rfl (q + 1) 0 rfl (X.map U) _ hrg Try.underlying143 rfl hsz ?_ | refine wpList_store_mid rfl 143 _ _ rfl q 0 (X.map U).toArray rfl rfl hth (by simpa using hsz) hall ?_)
      exact bodyPost_ret (v := .agg (X.map U).toArray) (ret_bytes Try.results80 _ _ q (X.map U) _ _ 64 rfl r2' (by decide) Try.underlying143 rfl i8) rfl (hR _ gg)

set_option maxRecDepth 100000 in
set_option maxHeartbeats 1000000 in
theorem rNewC (w : World) (R : Ending → World → Prop) (hR : ∀ p w', Sm w' p Hs Ks → Grow w w' → w.heap.size ≤ p → R (.returned (.pointer (some ⟨p, 0, none⟩))) w') :
    Calls Try.prog 49 #[] w R := by
  have h1 := startC
  have h2 := roundsC
  rw [cub_Ks] at h2
  have h8 := Hs_len
  have h64 := Ks_len
  have hlt := Ks_lt
  have hHs : ((pl 312).take 8).map rt2 = Hs := rfl
  rw [hHs] at h1
  clear hHs
  generalize Hs = H at *
  generalize Ks = K at *
  have hb : Try.prog.built 146 [(0, .agg (H.map U).toArray), (1, .agg (K.map U).toArray)] = some ((H ++ K).map U).toArray :=
    built_struct (n := 72) (places := [(0, 8), (8, 64)]) Try.underlying146 (by kernel_rfl) (by kernel_rfl) (fun Z hZ => by
      rw [fill_cons (off := 0) (size := 8) (vs := H.map U) rfl rfl (by simpa using h8) (by omega), fill_cons (off := 8) (size := 64) (vs := K.map U) rfl rfl (by simpa using h64) (by rw [splice_len _ _ _ (by simp; omega)]; omega), fill_nil, splice_first, splice_next _ _ _ 8 (by simpa using h8), List.drop_of_length_le (by simp; omega), List.append_nil, List.map_append])
  have hsm : ∀ w' : World, Sm (w'.alloc (.cells ((H ++ K).map U).toArray 146)) w'.heap.size H K := fun w' =>
    ⟨fun i hi => by rw [Nat.zero_add]; exact obj_cell (heap_alloc_new w' _) i (by simp), h8, h64, hlt⟩
  go_enter Try.func49, Try.ntmps49
  go_wp2_with fail
  refine h1 _ _ ?_
  intro w2 g2
  go_wp2_with fail
  refine h2 _ _ ?_
  intro w3 g3
  have gg := (g2.trans g3).trans (Grow.alloc w3 (.cells ((H ++ K).map U).toArray 146))
  have hf := hR _ _ (hsm w3) gg (by have := (g2.trans g3).size; omega)
  clear h1 h2 hR hsm
  obtain ⟨HK, hHK⟩ : ∃ HK, HK = (H ++ K).map U := ⟨_, rfl⟩
  rw [← hHK] at hf hb
  clear hHK
  go_wp2_with (refine wpList_built rfl _ _ rfl rfl hb ?_)
  exact hf
end Go.Proofs.Ytfmnkcmicbnfdaa
