/- The walk of ShaConstants. -/
import Derived.Test.YtekfggeedljdkaaShaAw
import Derived.Test.YtekfggeedljdkaaRound
import Derived.Test.YtekfggeedljdkaaShaK
namespace Go.Proofs.Ytekfggeedljdkaa
open Go Go.RowKit

theorem eq_h8 (xs : List Nat) (hx : xs.length = 8) (w : World) : (Op.equalIn 10000 38 (.agg (xs.map U).toArray) (.agg (xs.map U).toArray)).run Try.prog w = .ok true w := by
  rw [run_equalIn_words w 9998 38 37 8 Try.underlying38 Try.underlying37 (sizeOf_of (by kernel_rfl)) xs xs hx hx]; simp
theorem eq_h64 (xs : List Nat) (hx : xs.length = 64) (w : World) : (Op.equalIn 10000 39 (.agg (xs.map U).toArray) (.agg (xs.map U).toArray)).run Try.prog w = .ok true w := by
  rw [run_equalIn_words w 9998 39 37 64 Try.underlying39 Try.underlying37 (sizeOf_of (by kernel_rfl)) xs xs hx hx]; simp

set_option maxRecDepth 100000 in
set_option maxHeartbeats 4000000 in
theorem shaCoW (a0 : Int) (w : World) (_ : (Lit.int IntKind.i64 a0).wf = true) (R : Ending → World → Prop) (hR : ∀ w', Grow w w' → R (.returned (.bool true)) w') :
    Calls Try.prog 5 #[.int .i64 a0] w R := by
  have hml : maxLen = 9223372036854775807 := rfl
  have hcc := constC
  have hst := startC
  have hro := roundsC
  rw [cub_Ks] at hro
  have hHs : ((pl 312).take 8).map rt2 = Hs := rfl
  rw [hHs] at hst
  have hne : ∀ k, k < 64 → Ks.getD k 0 ≠ 0 := fun k hk => by
    have := List.all_eq_true.1 (by decide +kernel : (List.range 64).all (fun k => KsL.getD k 0 != 0) = true) k (List.mem_range.2 hk)
    rw [Ks_lit]
    simpa using this
  have hKlt : ∀ k, Ks.getD k 0 < 4294967296 := W32.getD Ks_lt
  have h8 := Hs_len
  have h64 := Ks_len
  have haw := awakeC
  clear hHs
  generalize Hs = H at *
  generalize Ks = K at *
  have hk := rnd_lt a0 64 (by decide)
  have hrc := roundC a0 64 (by decide) (by decide)
  obtain ⟨k, hke⟩ : ∃ k, k = rnd a0 64 := ⟨_, rfl⟩
  simp only [← hke] at hk hrc
  clear hke
  have hHl : (H.map U).length = 8 := by rw [List.length_map]; exact h8
  have hKl : (K.map U).length = 64 := by rw [List.length_map]; exact h64
  have hszH : (Try.prog.info? 38).map (·.size) = some (H.map U).toArray.size := by rw [List.size_toArray, hHl]; kernel_rfl
  have hszK : (Try.prog.info? 39).map (·.size) = some (K.map U).toArray.size := by rw [List.size_toArray, hKl]; kernel_rfl
  go_enter Try.func5, Try.ntmps5
  go_wp2_with fail
  refine hcc w _ ?_
  intro w7 g7
  clear hcc
  have oa := (own_new (t := 38) (n := 8) w7 (U 0) rfl (by omega)).grow (Grow.alloc _ (.cells (List.replicate 64 (U 0)).toArray 39))
  have ob := own_new (t := 39) (n := 64) (w7.alloc (.cells (List.replicate 8 (U 0)).toArray 38)) (U 0) rfl (by omega)
  rw [sz_al] at ob
  have gab := (Grow.alloc w7 (.cells (List.replicate 8 (U 0)).toArray 38)).trans (Grow.alloc _ (.cells (List.replicate 64 (U 0)).toArray 39))
  have tha := own_there oa (H.map U).toArray.size (by simpa using hHl)
  have ka := Keep.setCells w7.heap.size (H.map U) 0 ((w7.alloc (.cells (List.replicate 8 (U 0)).toArray 38)).alloc (.cells (List.replicate 64 (U 0)).toArray 39))
  have ob2 := ob.keep ka (by simp [blk])
  have thb := own_there ob2 (K.map U).toArray.size (by simpa using hKl)
  have oa2 := own_whole oa hHl (oneU H)
  have kb := Keep.setCells (w7.heap.size + 1) (K.map U) 0 (((w7.alloc (.cells (List.replicate 8 (U 0)).toArray 38)).alloc (.cells (List.replicate 64 (U 0)).toArray 39)).setCells w7.heap.size 0 (H.map U))
  have oa3 := oa2.keep kb (by simp [blk])
  have ob3 := own_whole ob2 hKl (oneU K)
  have g8 := (gab.then ka (fun x hx => by simp at hx; omega)).then kb (fun x hx => by simp at hx; omega)
  have alH := one_all (oneU H)
  have alK := one_all (oneU K)
  go_upto_region 2 with (first | refine wpList_store_mid rfl 38 _ _ rfl w7.heap.size 0 (H.map U).toArray rfl rfl tha hszH alH ?_ | refine wpList_store_mid rfl 39 _ _ rfl (w7.heap.size + 1) 0 (K.map U).toArray rfl rfl thb hszK alK ?_)
  change Code.wp _ _ _ _ ((((w7.alloc (.cells (List.replicate 8 (U 0)).toArray 38)).alloc (.cells (List.replicate 64 (U 0)).toArray 39)).setCells w7.heap.size 0 (H.map U)).setCells (w7.heap.size + 1) 0 (K.map U))
  have G8 := g7.trans g8
  obtain ⟨q7, hq7⟩ : ∃ q, q = w7.heap.size := ⟨_, rfl⟩
  clear tha thb ka kb oa ob ob2 oa2 gab g8 g7 alH alK
  generalize (((w7.alloc (.cells (List.replicate 8 (U 0)).toArray 38)).alloc (.cells (List.replicate 64 (U 0)).toArray 39)).setCells w7.heap.size 0 (H.map U)).setCells (w7.heap.size + 1) 0 (K.map U) = w8 at *
  rw [← hq7] at oa3 ob3 ⊢
  clear hq7 hszH hszK
  go_wp2_with fail
  refine hrc _ _ ?_
  go_wp2_with fail
  have i8 : (Try.prog.info? 38).map (·.size) = some 8 := by kernel_rfl
  have i64 : (Try.prog.info? 39).map (·.size) = some 64 := by kernel_rfl
  have ld8 : ∀ w', Keep [] w8 w' → (Instr.loadAt 38 (.pointer (some ⟨q7, 0, none⟩))).run Try.prog w' = .ok (.agg (H.map U).toArray) w' := fun w' k => load_words (n := 8) (by decide) h8 (oa3.keep k (by simp)) Try.underlying38 rfl i8
  have ld64 : ∀ w', Keep [] w8 w' → (Instr.loadAt 39 (.pointer (some ⟨q7 + 1, 0, none⟩))).run Try.prog w' = .ok (.agg (K.map U).toArray) w' := fun w' k => load_words (n := 64) (by decide) h64 (ob3.keep k (by simp)) Try.underlying39 rfl i64
  have q8 := eq_h8 H h8
  have q64 := eq_h64 K h64
  obtain ⟨g', off', eg, hcs⟩ := ob3.sl.hat (by omega)
  cases eg
  have c0 := U_at hcs (i := k) (by omega)
  rw [Nat.zero_add] at c0
  have hn0 := hne k hk
  have hl0 := hKlt k
  obtain ⟨x, hx⟩ : ∃ x, x = K.getD k 0 := ⟨_, rfl⟩
  rw [← hx] at c0 hn0 hl0
  have hxd : ((x : Int) == 0) = false := by simp; omega
  have hxd2 : ((x : Int) != 0) = true := by simp; omega
  have c1 := KW.cell (fp := []) (p0 := tt) c0 (by simp)
  clear hcs hx c0 hne hKlt hrc
  let V : Nat → Array Value → Value → World → Prop := fun i _ v _ => (i = 1 → v = .agg (H.map U).toArray) ∧ (i = 5 → v = .agg (K.map U).toArray) ∧ (i = 15 → v = .bool true)
  refine wp_region_R (segK [] w8 [1, 5, 15] V (fun _ _ _ _ _ _ h => h)) (by kernel_rfl) segK_drew ?_
  unfold segK segR
  refine wpV_val rfl rfl rfl rfl rfl _ (fun w hC => by obtain ⟨n, rfl⟩ := hC; exact exec_load (ld8 _ n.h)) ?_
  simp only [List.set_cons_succ, List.set_cons_zero]
  refine wpV_mk rfl rfl rfl [] rfl (fun vs w7 hC _ => yields_call (by kernel_rfl) ?_) (fun vs v w7 hC hV hF => ?_)
  · obtain ⟨⟨w7, hk, -⟩, rfl⟩ := hC
    exact hst w7 _ (fun w8 g8 => ⟨_, rfl, ⟨Keep.of_grow [] g8, trivial⟩, by simp [V]⟩)
  obtain rfl := hV.1 rfl
  clear hV hC hF w7
  simp only [List.set_cons_succ, List.set_cons_zero]
  repeat (first | (refine wpV_skp rfl rfl ?_; simp only [List.set_cons_succ, List.set_cons_zero]) | (refine wpV_val rfl rfl rfl rfl rfl _ (fun w hC => by obtain ⟨n, rfl⟩ := hC; exact exec_load (ld64 _ n.h)) ?_; simp only [List.set_cons_succ, List.set_cons_zero]) | (refine wpV_look rfl rfl rfl rfl rfl (fun K hK => ?_); go_big_quiet_op; refine hK _ ?_; clear hK K))
  refine wpV_mk rfl rfl rfl [] rfl (fun vs w7 hC _ => yields_call (by kernel_rfl) ?_) (fun vs v w7 hC hV hF => ?_)
  · obtain ⟨⟨w7, hk, -⟩, rfl⟩ := hC
    exact hro w7 _ (fun w8 g8 => ⟨_, rfl, ⟨Keep.of_grow [] g8, trivial⟩, by simp [V]⟩)
  obtain rfl := hV.2.1 rfl
  clear hV hC hF w7
  simp only [List.set_cons_succ, List.set_cons_zero]
  repeat (first | (refine wpV_skp rfl rfl ?_; simp only [List.set_cons_succ, List.set_cons_zero]) | (refine wpV_look rfl rfl rfl rfl rfl (fun K hK => ?_); go_big_quiet_op; refine hK _ ?_; clear hK K))
  refine wpV_mk rfl rfl rfl [] rfl (fun vs w7 hC _ => yields_call (by kernel_rfl) ?_) (fun vs v w7 hC hV hF => ?_)
  · obtain ⟨⟨w7, hk, -⟩, rfl⟩ := hC
    exact haw w7 _ (fun w8 g8 => ⟨_, rfl, ⟨Keep.of_grow [] g8, trivial⟩, by simp [V]⟩)
  obtain rfl := hV.2.2 rfl
  clear hV hC hF w7
  simp only [List.set_cons_succ, List.set_cons_zero]
  repeat (first | (refine wpV_skp rfl rfl ?_; simp only [List.set_cons_succ, List.set_cons_zero]) | (refine wpV_look rfl rfl rfl rfl rfl (fun K hK => ?_); go_big_quiet_op; refine hK _ ?_; clear hK K))
  refine wpV_nil ?_
  intro w9 hC hF
  obtain ⟨⟨w9, hk9, -⟩, rfl⟩ := hC
  have hf := hR _ (G8.trans hk9.grow)
  clear hF hR ld8 ld64 q8 q64 c1
  go_wp2_with fail
  exact hf
end Go.Proofs.Ytekfggeedljdkaa
