/- The ideal cipher: other, its regions. -/
import Derived.Test.YtfmnkcmicbnfdaaIdlB
import Derived.Test.YtfmnkcmicbnfdaaBlkC
import Derived.Deep.LoopGhost
namespace Go.Proofs.Ytfmnkcmicbnfdaa
open Go Go.RowKit

theorem i16 : (Try.prog.info? 33).map (·.size) = some 16 := by kernel_rfl


set_option maxRecDepth 100000 in
set_option maxHeartbeats 1000000 in
theorem oth1 (F q7 : Nat) (X V : List Value) (ok : Bool) (hXl : X.length = 16) (hVl : V.length = 16) (hV1 : ∀ v ∈ V, v.oneCell' = true) {c0 c1 c2 c4 c5 c6 c8 c9 c10 c11 c12 c13 c14 c15 c16 c17 c18 c19 c20 c21 c22 c23 c24 c25 c26 c27 c28 c29 c30 c31 c32 c33 c34 c35 c36 c37 c38 c39 c40 c41 c42 c43 c44 c45 c46 c47 c48 c49 c50 c51 c52 c53 c54 c55 c56 c57 c58 c59 c60 c61 c62 c63 c64 c65 c66 c67 c68 c69 c70 c71 : Value} (w : World) (o7 : Own w 33 1 (some ⟨q7, 0, none⟩) 16 16 X)
    (hl : (Instr.lookup 103 (.map (some F)) (.agg X.toArray) true).run Try.prog w = .ok (.tuple #[.agg V.toArray, .bool ok]) w) {Q : Exit → Act → World → Prop}
    (hQ : ∀ (q : Nat) (w' : World), Own w' 33 1 (some ⟨q, 0, none⟩) 16 16 V → Grow w w' → w.heap.size ≤ q → ∀ {u19 u20 u21 u22 u23 u24 : Value}, Q .normal ⟨List.toArray (c0 :: c1 :: c2 :: .map (some F) :: c4 :: c5 :: c6 :: .pointer (some ⟨q7, 0, none⟩) :: c8 :: c9 :: c10 :: c11 :: .pointer (some ⟨q, 0, none⟩) :: .bool ok :: c14 :: c15 :: c16 :: c17 :: c18 :: u19 :: u20 :: u21 :: u22 :: u23 :: u24 :: c25 :: c26 :: c27 :: c28 :: c29 :: c30 :: c31 :: c32 :: c33 :: c34 :: c35 :: c36 :: c37 :: c38 :: c39 :: c40 :: c41 :: c42 :: c43 :: c44 :: c45 :: c46 :: c47 :: c48 :: c49 :: c50 :: c51 :: c52 :: c53 :: c54 :: c55 :: c56 :: c57 :: c58 :: c59 :: c60 :: c61 :: c62 :: c63 :: c64 :: c65 :: c66 :: c67 :: c68 :: c69 :: c70 :: c71 :: []), []⟩ w') :
    Code.wp Try.prog (regionAt Try.f57 1) Q ⟨List.toArray (c0 :: c1 :: c2 :: .map (some F) :: c4 :: c5 :: c6 :: .pointer (some ⟨q7, 0, none⟩) :: c8 :: c9 :: c10 :: c11 :: c12 :: c13 :: c14 :: c15 :: c16 :: c17 :: c18 :: c19 :: c20 :: c21 :: c22 :: c23 :: c24 :: c25 :: c26 :: c27 :: c28 :: c29 :: c30 :: c31 :: c32 :: c33 :: c34 :: c35 :: c36 :: c37 :: c38 :: c39 :: c40 :: c41 :: c42 :: c43 :: c44 :: c45 :: c46 :: c47 :: c48 :: c49 :: c50 :: c51 :: c52 :: c53 :: c54 :: c55 :: c56 :: c57 :: c58 :: c59 :: c60 :: c61 :: c62 :: c63 :: c64 :: c65 :: c66 :: c67 :: c68 :: c69 :: c70 :: c71 :: []), []⟩ w := by
  have hml : maxLen = 9223372036854775807 := rfl
  obtain ⟨o12, ga1, th1, al1⟩ := newvar (t := 33) w (.int .u8 0) rfl (by omega) hVl hV1
  have hszF : (Try.prog.info? 33).map (·.size) = some V.toArray.size := by rw [List.size_toArray, hVl]; exact i16
  have hrg := own_range o7 (by omega)
  have hsX : (Try.prog.info? 33).map (·.size) = some X.length := by rw [hXl]; exact i16
  have hf := @hQ _ _ o12 ga1 (Nat.le_refl _)
  clear hQ o12 ga1 o7
  conv => arg 2; whnf
  go_wp2_with (first | refine wpList_load_mid rfl 33 _ rfl q7 0 rfl X _ hrg Try.underlying33 rfl hsX ?_ | refine wpList_store_mid rfl 33 _ _ rfl w.heap.size 0 V.toArray rfl rfl th1 hszF al1 ?_)
  exact hf


set_option maxRecDepth 100000 in
set_option maxHeartbeats 1000000 in
theorem oth8 (G q16 : Nat) (X V : List Value) (ok : Bool) (hXl : X.length = 16) (hVl : V.length = 16) (hV1 : ∀ v ∈ V, v.oneCell' = true) {c0 c1 c2 c3 c5 c6 c7 c8 c9 c10 c11 c12 c13 c14 c15 c17 c18 c19 c20 c21 c22 c23 c24 c25 c26 c27 c28 c29 c30 c31 c32 c33 c34 c35 c36 c37 c38 c39 c40 c41 c42 c43 c44 c45 c46 c47 c48 c49 c50 c51 c52 c53 c54 c55 c56 c57 c58 c59 c60 c61 c62 c63 c64 c65 c66 c67 c68 c69 c70 c71 : Value} (w : World) (o16 : Own w 33 1 (some ⟨q16, 0, none⟩) 16 16 X)
    (hl : (Instr.lookup 103 (.map (some G)) (.agg X.toArray) true).run Try.prog w = .ok (.tuple #[.agg V.toArray, .bool ok]) w) {Q : Exit → Act → World → Prop}
    (hQ : ∀ (w' : World), Grow w w' → ∀ {u17 u43 u44 u45 u46 u47 u48 : Value}, Q .normal ⟨List.toArray (c0 :: c1 :: c2 :: c3 :: .map (some G) :: c5 :: c6 :: c7 :: c8 :: c9 :: c10 :: c11 :: c12 :: c13 :: c14 :: c15 :: .pointer (some ⟨q16, 0, none⟩) :: u17 :: .bool ok :: c19 :: c20 :: c21 :: c22 :: c23 :: c24 :: c25 :: c26 :: c27 :: c28 :: c29 :: c30 :: c31 :: c32 :: c33 :: c34 :: c35 :: c36 :: c37 :: c38 :: c39 :: c40 :: c41 :: c42 :: u43 :: u44 :: u45 :: u46 :: u47 :: u48 :: c49 :: c50 :: c51 :: c52 :: c53 :: c54 :: c55 :: c56 :: c57 :: c58 :: c59 :: c60 :: c61 :: c62 :: c63 :: c64 :: c65 :: c66 :: c67 :: c68 :: c69 :: c70 :: c71 :: []), []⟩ w') :
    Code.wp Try.prog (regionAt Try.f57 8) Q ⟨List.toArray (c0 :: c1 :: c2 :: c3 :: .map (some G) :: c5 :: c6 :: c7 :: c8 :: c9 :: c10 :: c11 :: c12 :: c13 :: c14 :: c15 :: .pointer (some ⟨q16, 0, none⟩) :: c17 :: c18 :: c19 :: c20 :: c21 :: c22 :: c23 :: c24 :: c25 :: c26 :: c27 :: c28 :: c29 :: c30 :: c31 :: c32 :: c33 :: c34 :: c35 :: c36 :: c37 :: c38 :: c39 :: c40 :: c41 :: c42 :: c43 :: c44 :: c45 :: c46 :: c47 :: c48 :: c49 :: c50 :: c51 :: c52 :: c53 :: c54 :: c55 :: c56 :: c57 :: c58 :: c59 :: c60 :: c61 :: c62 :: c63 :: c64 :: c65 :: c66 :: c67 :: c68 :: c69 :: c70 :: c71 :: []), []⟩ w := by
  have hml : maxLen = 9223372036854775807 := rfl
  obtain ⟨o12, ga1, th1, al1⟩ := newvar (t := 33) w (.int .u8 0) rfl (by omega) hVl hV1
  have hszF : (Try.prog.info? 33).map (·.size) = some V.toArray.size := by rw [List.size_toArray, hVl]; exact i16
  have hrg := own_range o16 (by omega)
  have hsX : (Try.prog.info? 33).map (·.size) = some X.length := by rw [hXl]; exact i16
  have hf := @hQ _ ga1
  clear hQ o12 ga1 o16
  conv => arg 2; whnf
  go_wp2_with (first | refine wpList_load_mid rfl 33 _ rfl q16 0 rfl X _ hrg Try.underlying33 rfl hsX ?_ | refine wpList_store_mid rfl 33 _ _ rfl w.heap.size 0 V.toArray rfl rfl th1 hszF al1 ?_)
  exact hf


set_option maxRecDepth 100000 in
set_option maxHeartbeats 1000000 in
theorem oth7 (g c : Nat) (X : List Value) (hXl : X.length = 16) (hX1 : ∀ v ∈ X, v.oneCell' = true) {c0 c1 c2 c3 c4 c5 c6 c7 c8 c9 c10 c11 c12 c13 c15 c16 c17 c18 c19 c20 c21 c22 c23 c24 c25 c26 c27 c28 c29 c30 c31 c32 c33 c34 c35 c36 c37 c38 c39 c40 c41 c42 c43 c44 c45 c46 c47 c48 c49 c50 c51 c52 c53 c54 c55 c56 c57 c58 c59 c60 c61 c62 c63 c64 c65 c66 c67 c68 c69 c70 c71 : Value} (w : World) (o : Cells w g 0 X) {Q : Exit → Act → World → Prop}
    (hQ : ∀ (q : Nat) (w' : World), Own w' 33 1 (some ⟨q, 0, none⟩) 16 16 X → Grow w w' → w.heap.size ≤ q → ∀ {u40 u41 u42 : Value}, Q .normal ⟨List.toArray (c0 :: c1 :: c2 :: c3 :: c4 :: c5 :: c6 :: c7 :: c8 :: c9 :: c10 :: c11 :: c12 :: c13 :: .slice (some ⟨g, 0, none⟩) 16 c :: c15 :: .pointer (some ⟨q, 0, none⟩) :: c17 :: c18 :: c19 :: c20 :: c21 :: c22 :: c23 :: c24 :: c25 :: c26 :: c27 :: c28 :: c29 :: c30 :: c31 :: c32 :: c33 :: c34 :: c35 :: c36 :: c37 :: c38 :: c39 :: u40 :: u41 :: u42 :: c43 :: c44 :: c45 :: c46 :: c47 :: c48 :: c49 :: c50 :: c51 :: c52 :: c53 :: c54 :: c55 :: c56 :: c57 :: c58 :: c59 :: c60 :: c61 :: c62 :: c63 :: c64 :: c65 :: c66 :: c67 :: c68 :: c69 :: c70 :: c71 :: []), []⟩ w') :
    Code.wp Try.prog (regionAt Try.f57 7) Q ⟨List.toArray (c0 :: c1 :: c2 :: c3 :: c4 :: c5 :: c6 :: c7 :: c8 :: c9 :: c10 :: c11 :: c12 :: c13 :: .slice (some ⟨g, 0, none⟩) 16 c :: c15 :: c16 :: c17 :: c18 :: c19 :: c20 :: c21 :: c22 :: c23 :: c24 :: c25 :: c26 :: c27 :: c28 :: c29 :: c30 :: c31 :: c32 :: c33 :: c34 :: c35 :: c36 :: c37 :: c38 :: c39 :: c40 :: c41 :: c42 :: c43 :: c44 :: c45 :: c46 :: c47 :: c48 :: c49 :: c50 :: c51 :: c52 :: c53 :: c54 :: c55 :: c56 :: c57 :: c58 :: c59 :: c60 :: c61 :: c62 :: c63 :: c64 :: c65 :: c66 :: c67 :: c68 :: c69 :: c70 :: c71 :: []), []⟩ w := by
  have hml : maxLen = 9223372036854775807 := rfl
  obtain ⟨o12, ga1, th1, al1⟩ := newvar (t := 33) w (.int .u8 0) rfl (by omega) hXl hX1
  have hszF : (Try.prog.info? 33).map (·.size) = some X.toArray.size := by rw [List.size_toArray, hXl]; exact i16
  have hrg : w.rangeAt g 0 X := fun j v hj => o.at hj
  have hsX : (Try.prog.info? 33).map (·.size) = some X.length := by rw [hXl]; exact i16
  have hf := @hQ _ _ o12 ga1 (Nat.le_refl _)
  have har : (Instr.arrayAt 33 (.slice (some ⟨g, 0, none⟩) 16 c)).run Try.prog w = .ok (.pointer (some ⟨g, 0, none⟩)) w := by
    simp [Instr.arrayAt, run_underlying Try.underlying33]
  clear hQ o12 ga1 o
  conv => arg 2; whnf
  go_wp2_with (first | refine wpList_load_mid rfl 33 _ rfl g 0 rfl X _ hrg Try.underlying33 rfl hsX ?_ | refine wpList_store_mid rfl 33 _ _ rfl w.heap.size 0 X.toArray rfl rfl th1 hszF al1 ?_)
  exact hf

theorem putM_twice {α β : Type} [DecidableEq α] (k : α) (v : β) : ∀ l : List (α × β), putM k v (putM k v l) = putM k v l
  | [] => by simp [putM]
  | p :: l => by
    rw [putM]
    split
    · simp [putM]
    · rename_i h
      rw [putM, if_neg h, putM_twice k v l]


set_option maxRecDepth 100000 in
set_option maxHeartbeats 1000000 in
theorem oth10 (F G q7 q16 : Nat) (b x : B16) (fl gl : List (B16 × B16)) {c0 c1 c2 c5 c6 c8 c9 c10 c11 c12 c13 c14 c15 c17 c18 c19 c20 c21 c22 c23 c24 c25 c26 c27 c28 c29 c30 c31 c32 c33 c34 c35 c36 c37 c38 c39 c40 c41 c42 c43 c44 c45 c46 c47 c48 c49 c50 c51 c52 c53 c54 c55 c56 c57 c58 c59 c60 c61 c62 c63 c64 c65 c66 c67 c68 c69 c70 c71 : Value} (w : World) (mf : Mp ekB ekB w F fl) (mg : Mp ekB ekB w G gl) (hFG : F ≠ G) (h7F : q7 ≠ F) (h16F : q16 ≠ F)
    (o7 : Own w 33 1 (some ⟨q7, 0, none⟩) 16 16 (b.b.map B)) (o16 : Own w 33 1 (some ⟨q16, 0, none⟩) 16 16 (x.b.map B)) {Q : Exit → Act → World → Prop}
    (hQ : ∀ (w' : World), Mp ekB ekB w' F (putM b x fl) → Mp ekB ekB w' G (putM x b gl) → Keep [F, G] w w' → ∀ {u51 u52 u53 u54 u55 u56 : Value}, Q .normal ⟨List.toArray (c0 :: c1 :: c2 :: .map (some F) :: .map (some G) :: c5 :: c6 :: .pointer (some ⟨q7, 0, none⟩) :: c8 :: c9 :: c10 :: c11 :: c12 :: c13 :: c14 :: c15 :: .pointer (some ⟨q16, 0, none⟩) :: c17 :: c18 :: c19 :: c20 :: c21 :: c22 :: c23 :: c24 :: c25 :: c26 :: c27 :: c28 :: c29 :: c30 :: c31 :: c32 :: c33 :: c34 :: c35 :: c36 :: c37 :: c38 :: c39 :: c40 :: c41 :: c42 :: c43 :: c44 :: c45 :: c46 :: c47 :: c48 :: c49 :: c50 :: u51 :: u52 :: u53 :: u54 :: u55 :: u56 :: c57 :: c58 :: c59 :: c60 :: c61 :: c62 :: c63 :: c64 :: c65 :: c66 :: c67 :: c68 :: c69 :: c70 :: c71 :: []), []⟩ w') :
    Code.wp Try.prog (regionAt Try.f57 10) Q ⟨List.toArray (c0 :: c1 :: c2 :: .map (some F) :: .map (some G) :: c5 :: c6 :: .pointer (some ⟨q7, 0, none⟩) :: c8 :: c9 :: c10 :: c11 :: c12 :: c13 :: c14 :: c15 :: .pointer (some ⟨q16, 0, none⟩) :: c17 :: c18 :: c19 :: c20 :: c21 :: c22 :: c23 :: c24 :: c25 :: c26 :: c27 :: c28 :: c29 :: c30 :: c31 :: c32 :: c33 :: c34 :: c35 :: c36 :: c37 :: c38 :: c39 :: c40 :: c41 :: c42 :: c43 :: c44 :: c45 :: c46 :: c47 :: c48 :: c49 :: c50 :: c51 :: c52 :: c53 :: c54 :: c55 :: c56 :: c57 :: c58 :: c59 :: c60 :: c61 :: c62 :: c63 :: c64 :: c65 :: c66 :: c67 :: c68 :: c69 :: c70 :: c71 :: []), []⟩ w := by
  have hml : maxLen = 9223372036854775807 := rfl
  have hszb : (Try.prog.info? 33).map (·.size) = some (b.b.map B).length := by rw [List.length_map, b.h]; exact i16
  have hszx : (Try.prog.info? 33).map (·.size) = some (x.b.map B).length := by rw [List.length_map, x.h]; exact i16
  have ld7 : ∀ w', Keep [F] w w' → (Instr.loadAt 33 (.pointer (some ⟨q7, 0, none⟩))).run Try.prog w' = .ok (.agg (b.b.map B).toArray) w' := fun w' k => run_ld Try.underlying33 rfl hszb (fun i hi => by rw [Nat.zero_add]; have := (o7.keep k (by simp [blk]; exact h7F)).rowR.cell (List.getElem?_eq_getElem hi); exact this)
  have ld16 : ∀ w', Keep [F] w w' → (Instr.loadAt 33 (.pointer (some ⟨q16, 0, none⟩))).run Try.prog w' = .ok (.agg (x.b.map B).toArray) w' := fun w' k => run_ld Try.underlying33 rfl hszx (fun i hi => by rw [Nat.zero_add]; have := (o16.keep k (by simp [blk]; exact h16F)).rowR.cell (List.getElem?_eq_getElem hi); exact this)
  let pr : World → Prop := fun w' => Mp ekB ekB w' F fl ∨ Mp ekB ekB w' F (putM b x fl)
  let V : Nat → Array Value → Value → World → Prop := fun i _ _ w' => i = 6 → Mp ekB ekB w' F (putM b x fl)
  have : Nonempty (KW [F] pr w) := ⟨⟨w, Keep.refl _ _, .inl mf⟩⟩
  conv => arg 2; whnf
  refine wp_region_R (segR [F] (fun i => if i = 6 then [F] else []) pr w [6] V (fun i k hk => ?_) (fun i j vs v wa wb hij k v1 => fun hj => ?_)) (by kernel_rfl) (segR_drew (.inl (mf.grow (Grow.drew w)))) ?_
  · split at hk
    · exact hk
    · cases hk
  · rw [if_neg (by omega)] at k
    exact (v1 hj).keep k (by simp)
  unfold segR
  repeat (first | (refine wpV_skp rfl rfl ?_; simp only [List.set_cons_succ, List.set_cons_zero]) | (refine wpV_val rfl rfl rfl rfl rfl _ (fun w hC => by obtain ⟨n, rfl⟩ := hC; exact exec_load (ld7 _ n.h)) ?_; simp only [List.set_cons_succ, List.set_cons_zero]) | (refine wpV_val rfl rfl rfl rfl rfl _ (fun w hC => by obtain ⟨n, rfl⟩ := hC; exact exec_load (ld16 _ n.h)) ?_; simp only [List.set_cons_succ, List.set_cons_zero]) | (refine wpV_look rfl rfl rfl rfl rfl (fun K hK => ?_); go_big_quiet_op; refine hK _ ?_; clear hK K))
  refine wpV_make rfl rfl rfl [] rfl (fun w7 hC hF => ?_) (fun v w7 hC hV hF => ?_)
  · obtain ⟨⟨w7, hk, hp⟩, rfl⟩ := hC
    have hput : ∃ w8, (Instr.mapUpdate 103 (.map (some F)) (ekB b) (ekB x)).run Try.prog w7 = .ok () w8 ∧ Mp ekB ekB w8 F (putM b x fl) ∧ Keep [F] w7 w8 := by
      rcases hp with hp | hp
      · exact run_put Try.underlying103 okB hp b x
      · have := run_put (P := Try.prog) Try.underlying103 okB hp b x
        rwa [putM_twice] at this
    obtain ⟨w8, hr, m8, k8⟩ := hput
    unfold yields
    rw [exec_put hr]
    simp only [yUpon]
    exact ⟨⟨by simpa using k8, .inr m8⟩, fun _ => m8⟩
  clear hV hC hF w7
  refine wpV_end0 rfl rfl (by kernel_rfl) (fun w7 hC hF => ?_)
  have m6 := (hF 6).2 rfl
  obtain ⟨⟨w7, hk, -⟩, rfl⟩ := hC
  obtain ⟨w8, hr, m8, k8⟩ := run_put Try.underlying103 okB (mg.keep hk (by simpa using hFG.symm)) x b
  unfold yields
  rw [exec_put hr]
  simp only [yUpon]
  exact hQ w8 ((m6 rfl).keep k8 (by simpa using hFG)) m8 ((hk.mono (by simp)).trans (k8.mono (by simp)))
end Go.Proofs.Ytfmnkcmicbnfdaa
