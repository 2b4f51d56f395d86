/- sha.New. -/
import Derived.Test.YtaepfkpfageiaaaShaC
namespace Go.Proofs.Ytaepfkpfageiaaa
open Go Go.RowKit

theorem Hs_len : Hs.length = 8 := by unfold Hs; rw [List.length_map, List.length_take, pl312]; rfl
theorem Ks_len : Ks.length = 64 := by unfold Ks; rw [List.length_map, List.length_take, pl312]; rfl
theorem Ks_lt : ∀ x ∈ Ks, x < 4294967296 := fun x h => by
  obtain ⟨y, -, rfl⟩ := List.mem_map.1 h
  exact Nat.mod_lt _ (by decide)
theorem Hs_lt : ∀ x ∈ Hs, x < 4294967296 := fun x h => by
  obtain ⟨y, -, rfl⟩ := List.mem_map.1 h
  exact Nat.mod_lt _ (by decide)

set_option maxRecDepth 100000 in
set_option maxHeartbeats 1000000 in
theorem newS (w : World) (R : Ending → World → Prop) (hR : ∀ p w', Sm w' p Hs Ks → Grow w w' → w.heap.size ≤ p → R (.returned (.pointer (some ⟨p, 0, none⟩))) w') :
    Calls Try.prog 73 #[] w R := by
  have hcc := constC
  have h8 := Hs_len
  have h64 := Ks_len
  have hlt := Ks_lt
  generalize Hs = H at *
  generalize Ks = K at *
  have o0 : Own (w.alloc (.cells (List.replicate 72 (U 0)).toArray 110)) 110 1 (some ⟨w.heap.size, 0, none⟩) 72 72 (List.replicate 72 (U 0)) := Own.made (n := 72) (heap_alloc_new w _) rfl (by decide) (by simp [U, Value.oneCell'])
  have g1 := Grow.alloc w (.cells (List.replicate 72 (U 0)).toArray 110)
  have hz : (zeroValue 110).run Try.prog w = .ok (.agg (List.replicate 72 (U 0)).toArray) w := by
    have h : (Try.prog.info? 110).map (·.zero) = some (some (.agg (List.replicate 72 (U 0)).toArray)) := by kernel_rfl
    cases hq : Try.prog.info? 110 with
    | none => rw [hq] at h; cases h
    | some i =>
      rw [hq] at h
      have hi : i.zero = some (.agg (List.replicate 72 (U 0)).toArray) := by simpa using h
      simp [zeroValue, typeInfo, hq, hi]
  obtain ⟨q, hq⟩ : ∃ q, q = w.heap.size := ⟨_, rfl⟩
  go_enter Try.func73, Try.ntmps73
  go_wp2_with fail
  change Calls _ _ _ (w.alloc (.cells (List.replicate 72 (U 0)).toArray 110)) _
  generalize (w.alloc (.cells (List.replicate 72 (U 0)).toArray 110)) = w1 at *
  rw [← hq] at o0 ⊢
  have Hq := Lib.hid hq
  clear hq
  refine hcc w1 _ ?_
  intro w2 g2
  have o2 := o0.grow g2
  have hth : ∀ o n, o + n ≤ 72 → w2.there q o n := fun o n h j hj => by
    obtain ⟨g3, v, eg, hv, hfz, -⟩ := own_put o2 (i := o + j) (by omega)
    cases eg
    exact ⟨by rw [hv]; rfl, hfz⟩
  have i8 : (Try.prog.info? 77).map (·.size) = some (H.map U).toArray.size := by simp only [List.size_toArray, List.length_map, h8]; kernel_rfl
  have i64 : (Try.prog.info? 79).map (·.size) = some (K.map U).toArray.size := by simp only [List.size_toArray, List.length_map, h64]; kernel_rfl
  have a8 : (H.map U).toArray.all (·.oneCell') = true := by
    rw [Array.all_eq_true_iff_forall_mem]; intro v hv; exact oneU H v (by simpa using hv)
  have a64 : (K.map U).toArray.all (·.oneCell') = true := by
    rw [Array.all_eq_true_iff_forall_mem]; intro v hv; exact oneU K v (by simpa using hv)
  have t1 : w2.there q 0 (H.map U).toArray.size := hth 0 _ (by simp [h8])
  have t2 : (w2.setCells q 0 (H.map U)).there q 8 (K.map U).toArray.size := World.there_setCells (hth 8 _ (by simp [h64])) q 0 (H.map U)
  have k12 := (Keep.setCells q (H.map U) 0 w2).trans (Keep.setCells q (K.map U) 8 (w2.setCells q 0 (H.map U)))
  have gg := (g1.trans g2).then k12 (fun x hx => by simp at hx; have := Hq.out; omega)
  have r1 := World.rangeAt_setCells_same w2 q 0 (H.map U) (by simpa using t1)
  have r2 := World.rangeAt_setCells_same (w2.setCells q 0 (H.map U)) q 8 (K.map U) (by simpa using t2)
  have r1' : ((w2.setCells q 0 (H.map U)).setCells q 8 (K.map U)).rangeAt q 0 (H.map U) := fun j v hj => by
    have hj8 : j < 8 := by have := (List.getElem?_eq_some_iff.1 hj).1; simpa [h8] using this
    rw [World.cell?_setCells_out]
    · exact r1 j v hj
    · intro _ _; left; show 0 + j < 8; omega
  have hsm : Sm ((w2.setCells q 0 (H.map U)).setCells q 8 (K.map U)) q H K := by
    refine ⟨fun i hi => ?_, h8, h64, hlt⟩
    by_cases hi8 : i < 8
    · refine r1' i _ ?_
      rw [← List.getElem?_eq_getElem hi, List.map_append, List.getElem?_append_left (by simpa [h8] using hi8)]
    · have := r2 (i - 8) ((((H ++ K).map U))[i]) (by
        rw [← List.getElem?_eq_getElem hi, List.map_append, List.getElem?_append_right (by simp [h8]; omega)]; simp [h8])
      rwa [show 8 + (i - 8) = 0 + i by omega] at this
  clear hth r1 r2 r1' k12 o2 o0
  go_wp2_with (first | refine wpList_store_mid rfl 77 _ _ rfl q 0 (H.map U).toArray rfl rfl t1 i8 a8 ?_ | refine wpList_store_mid rfl 79 _ _ rfl q 8 (K.map U).toArray rfl rfl t2 i64 a64 ?_)
  exact hR _ _ hsm gg (by have := Hq.out; omega)
end Go.Proofs.Ytaepfkpfageiaaa
