/- A story is turned: a write. -/
import Derived.Test.YtgchbcopbkoomaaCh25
namespace Go.Proofs.Ytgchbcopbkoomaa
open Go Go.RowKit

/-- A new variable, a place. -/
def pPlace (b : Nat) (x y : Value) : Pr := ⟨fun v w => ∃ q, v = .pointer (some ⟨q, 0, none⟩) ∧ Own w 54 1 (some ⟨q, 0, none⟩) 2 2 [x, y] ∧ b ≤ q, fun k ⟨q, e, o, h⟩ => ⟨q, e, o.keep k (by simp), h⟩⟩


set_option maxRecDepth 100000 in
set_option maxHeartbeats 2000000 in
theorem wr6 (p q3 n : Nat) (f first : Int) (hf : 0 ≤ f ∧ f ≤ 1000000) (h1 : 0 ≤ first ∧ first ≤ 1000000) {c1 c2 c4 c6 c7 c8 c9 c10 c11 c12 c13 c14 c15 c16 c17 c18 c19 c20 c21 c22 c23 c24 c25 c26 c27 c28 c29 c30 c31 c32 c33 c34 c35 c36 c37 c38 c39 c40 c41 c42 c43 c44 c45 c46 c47 c48 c49 c50 c51 c52 c53 c54 c55 c56 c57 c58 c59 c60 c61 c62 c63 c64 c65 c66 c67 c68 c69 c70 c71 c72 c73 c74 c75 c76 c77 c78 c79 c80 c81 c82 c83 c84 : Value} (w : World) (k4 : w.cell? ⟨p, 4, none⟩ = some (.int .i64 f)) (k3 : w.cell? ⟨q3, 3, none⟩ = some (.int .i64 first)) {Q : Exit → Act → World → Prop}
    (hQ : ∀ (q : Nat) (w' : World), Own w' 54 1 (some ⟨q, 0, none⟩) 2 2 [.int .i64 (f + first), .int .i64 (n : Int)] → Grow w w' → w.heap.size ≤ q → ∀ {u30 u31 u32 u33 u34 u35 u36 u37 u38 u39 u40 : Value}, Q .normal ⟨List.toArray (.pointer (some ⟨p, 0, none⟩) :: c1 :: c2 :: .pointer (some ⟨q3, 0, none⟩) :: c4 :: .int .i64 (n : Int) :: .pointer (some ⟨q, 0, none⟩) :: c7 :: c8 :: c9 :: c10 :: c11 :: c12 :: c13 :: c14 :: c15 :: c16 :: c17 :: c18 :: c19 :: c20 :: c21 :: c22 :: c23 :: c24 :: c25 :: c26 :: c27 :: c28 :: c29 :: u30 :: u31 :: u32 :: u33 :: u34 :: u35 :: u36 :: u37 :: u38 :: u39 :: u40 :: c41 :: c42 :: c43 :: c44 :: c45 :: c46 :: c47 :: c48 :: c49 :: c50 :: c51 :: c52 :: c53 :: c54 :: c55 :: c56 :: c57 :: c58 :: c59 :: c60 :: c61 :: c62 :: c63 :: c64 :: c65 :: c66 :: c67 :: c68 :: c69 :: c70 :: c71 :: c72 :: c73 :: c74 :: c75 :: c76 :: c77 :: c78 :: c79 :: c80 :: c81 :: c82 :: c83 :: c84 :: []), []⟩ w') :
    Code.wp Try.prog (regionAt Try.f32 6) Q ⟨List.toArray (.pointer (some ⟨p, 0, none⟩) :: c1 :: c2 :: .pointer (some ⟨q3, 0, none⟩) :: c4 :: .int .i64 (n : Int) :: c6 :: c7 :: c8 :: c9 :: c10 :: c11 :: c12 :: c13 :: c14 :: c15 :: c16 :: c17 :: c18 :: c19 :: c20 :: c21 :: c22 :: c23 :: c24 :: c25 :: c26 :: c27 :: c28 :: c29 :: c30 :: c31 :: c32 :: c33 :: c34 :: c35 :: c36 :: c37 :: c38 :: c39 :: c40 :: c41 :: c42 :: c43 :: c44 :: c45 :: c46 :: c47 :: c48 :: c49 :: c50 :: c51 :: c52 :: c53 :: c54 :: c55 :: c56 :: c57 :: c58 :: c59 :: c60 :: c61 :: c62 :: c63 :: c64 :: c65 :: c66 :: c67 :: c68 :: c69 :: c70 :: c71 :: c72 :: c73 :: c74 :: c75 :: c76 :: c77 :: c78 :: c79 :: c80 :: c81 :: c82 :: c83 :: c84 :: []), []⟩ w := by
  have hml : maxLen = 9223372036854775807 := rfl
  obtain ⟨f0, f1⟩ := hf
  obtain ⟨g0, g1⟩ := h1
  have q0 := KW.cell (fp := []) (p0 := tt) k4 (by simp)
  have q1 := KW.cell (fp := []) (p0 := tt) k3 (by simp)
  clear k4 k3
  conv => arg 2; whnf
  refine wp_region_R (segT w [(11, pPlace w.heap.size (.int .i64 0) (.int .i64 0))]) (by kernel_rfl) segT_drew ?_
  unfold segT segK segR
  repeat (first | (refine wpV_skp rfl rfl ?_; simp only [List.set_cons_succ, List.set_cons_zero]) | (refine wpV_look rfl rfl rfl rfl rfl (fun K hK => ?_); go_big_quiet_op; refine hK _ ?_; clear hK K))
  refine wpV_mk rfl rfl rfl [] (by kernel_rfl) (fun vs w7 hC hF => ?_) (fun vs v w7 hC hV hF => ?_)
  · obtain ⟨⟨w7, hk7, -⟩, rfl⟩ := hC
    unfold yields
    go_simp
    exact ⟨⟨Keep.of_grow [] (Grow.alloc w7 _), trivial⟩, ⟨_, rfl, Own.made (n := 2) (sz := 1) (heap_alloc_new w7 _) rfl (by decide) (by simp [Value.oneCell']), hk7.size⟩⟩
  obtain ⟨b11, rfl, -⟩ := hV
  clear hC hF w7
  simp only [List.set_cons_succ, List.set_cons_zero]
  refine wpV_end0 rfl rfl (by kernel_rfl) (fun w7 hC hF => ?_)
  obtain ⟨q, e, o, hq⟩ := (hF 11).2 rfl
  obtain ⟨⟨w7, hk7, -⟩, rfl⟩ := hC
  cases e
  obtain ⟨r1, p2, k3⟩ := store_arr (P := Try.prog) (n := 2) (X := [.int .i64 (f + first), .int .i64 (n : Int)]) rfl (by simp [Value.oneCell']) o i2
  unfold yields
  rw [exec_store r1]
  simp only [yUpon]
  exact hQ _ _ p2 (hk7.grow.then k3 (fun y hy => by simp at hy; omega)) hq


set_option maxRecDepth 100000 in
set_option maxHeartbeats 2000000 in
theorem wr7n (p q : Nat) {c1 c2 c3 c4 c5 c7 c8 c9 c10 c11 c12 c13 c14 c15 c16 c17 c18 c19 c20 c21 c22 c23 c24 c25 c26 c27 c28 c29 c30 c31 c32 c33 c34 c35 c36 c37 c38 c39 c40 c41 c42 c43 c44 c45 c46 c47 c48 c49 c50 c51 c52 c53 c54 c55 c56 c57 c58 c59 c60 c61 c62 c63 c64 c65 c66 c67 c68 c69 c70 c71 c72 c73 c74 c75 c76 c77 c78 c79 c80 c81 c82 c83 c84 : Value} (w : World) (k6 : w.cell? ⟨p, 6, none⟩ = some (.bool false)) {Q : Exit → Act → World → Prop}
    (hQ : ∀ (w' : World), Grow w w' → ∀ {u41 u42 u43 u44 u45 u46 u47 u48 u49 u50 u51 u52 u53 u54 : Value}, Q .normal ⟨List.toArray (.pointer (some ⟨p, 0, none⟩) :: c1 :: c2 :: c3 :: c4 :: c5 :: .pointer (some ⟨q, 0, none⟩) :: .bool false :: c8 :: c9 :: c10 :: c11 :: c12 :: c13 :: c14 :: c15 :: c16 :: c17 :: c18 :: c19 :: c20 :: c21 :: c22 :: c23 :: c24 :: c25 :: c26 :: c27 :: c28 :: c29 :: c30 :: c31 :: c32 :: c33 :: c34 :: c35 :: c36 :: c37 :: c38 :: c39 :: c40 :: u41 :: u42 :: u43 :: u44 :: u45 :: u46 :: u47 :: u48 :: u49 :: u50 :: u51 :: u52 :: u53 :: u54 :: c55 :: c56 :: c57 :: c58 :: c59 :: c60 :: c61 :: c62 :: c63 :: c64 :: c65 :: c66 :: c67 :: c68 :: c69 :: c70 :: c71 :: c72 :: c73 :: c74 :: c75 :: c76 :: c77 :: c78 :: c79 :: c80 :: c81 :: c82 :: c83 :: c84 :: []), []⟩ w') :
    Code.wp Try.prog (regionAt Try.f32 7) Q ⟨List.toArray (.pointer (some ⟨p, 0, none⟩) :: c1 :: c2 :: c3 :: c4 :: c5 :: .pointer (some ⟨q, 0, none⟩) :: c7 :: c8 :: c9 :: c10 :: c11 :: c12 :: c13 :: c14 :: c15 :: c16 :: c17 :: c18 :: c19 :: c20 :: c21 :: c22 :: c23 :: c24 :: c25 :: c26 :: c27 :: c28 :: c29 :: c30 :: c31 :: c32 :: c33 :: c34 :: c35 :: c36 :: c37 :: c38 :: c39 :: c40 :: c41 :: c42 :: c43 :: c44 :: c45 :: c46 :: c47 :: c48 :: c49 :: c50 :: c51 :: c52 :: c53 :: c54 :: c55 :: c56 :: c57 :: c58 :: c59 :: c60 :: c61 :: c62 :: c63 :: c64 :: c65 :: c66 :: c67 :: c68 :: c69 :: c70 :: c71 :: c72 :: c73 :: c74 :: c75 :: c76 :: c77 :: c78 :: c79 :: c80 :: c81 :: c82 :: c83 :: c84 :: []), []⟩ w := by
  have q0 := KW.cell (fp := []) (p0 := tt) k6 (by simp)
  clear k6
  conv => arg 2; whnf
  refine wp_region_R (segT w []) (by kernel_rfl) segT_drew ?_
  unfold segT segK segR
  repeat (first | (refine wpV_skp rfl rfl ?_; simp only [List.set_cons_succ, List.set_cons_zero]) | (refine wpV_look rfl rfl rfl rfl rfl (fun K hK => ?_); go_big_quiet_op; refine hK _ ?_; clear hK K))
  refine wpV_nil ?_
  intro w2 hC hF
  obtain ⟨⟨w2, hkw2, -⟩, rfl⟩ := hC
  clear hF
  exact hQ _ hkw2.grow

set_option maxRecDepth 100000 in
set_option maxHeartbeats 2000000 in
theorem wr7s (p q : Nat) (pl ar : Ar) (hpl : pl.ok) (har : ar.ok) (b : Bool) (hb : b = lapS pl ar) {c1 c2 c3 c4 c5 c7 c8 c9 c10 c11 c12 c13 c14 c15 c16 c17 c18 c19 c20 c21 c22 c23 c24 c25 c26 c27 c28 c29 c30 c31 c32 c33 c34 c35 c36 c37 c38 c39 c40 c41 c42 c43 c44 c45 c46 c47 c48 c49 c50 c51 c52 c53 c54 c55 c56 c57 c58 c59 c60 c61 c62 c63 c64 c65 c66 c67 c68 c69 c70 c71 c72 c73 c74 c75 c76 c77 c78 c79 c80 c81 c82 c83 c84 : Value} (w : World) (k6 : w.cell? ⟨p, 6, none⟩ = some (.bool true)) (k8 : w.cell? ⟨p, 8, none⟩ = some (.int .i64 ar.f)) (k9 : w.cell? ⟨p, 9, none⟩ = some (.int .i64 ar.c)) (o : Own w 54 1 (some ⟨q, 0, none⟩) 2 2 [.int .i64 pl.f, .int .i64 pl.c]) {Q : Exit → Act → World → Prop}
    (hQ : ∀ (w' : World), Grow w w' → ∀ {u41 u42 u43 u44 u45 u46 u47 u48 u49 u50 u51 u52 u53 u54 : Value}, Q .normal ⟨List.toArray (.pointer (some ⟨p, 0, none⟩) :: c1 :: c2 :: c3 :: c4 :: c5 :: .pointer (some ⟨q, 0, none⟩) :: .bool b :: c8 :: c9 :: c10 :: c11 :: c12 :: c13 :: c14 :: c15 :: c16 :: c17 :: c18 :: c19 :: c20 :: c21 :: c22 :: c23 :: c24 :: c25 :: c26 :: c27 :: c28 :: c29 :: c30 :: c31 :: c32 :: c33 :: c34 :: c35 :: c36 :: c37 :: c38 :: c39 :: c40 :: u41 :: u42 :: u43 :: u44 :: u45 :: u46 :: u47 :: u48 :: u49 :: u50 :: u51 :: u52 :: u53 :: u54 :: c55 :: c56 :: c57 :: c58 :: c59 :: c60 :: c61 :: c62 :: c63 :: c64 :: c65 :: c66 :: c67 :: c68 :: c69 :: c70 :: c71 :: c72 :: c73 :: c74 :: c75 :: c76 :: c77 :: c78 :: c79 :: c80 :: c81 :: c82 :: c83 :: c84 :: []), []⟩ w') :
    Code.wp Try.prog (regionAt Try.f32 7) Q ⟨List.toArray (.pointer (some ⟨p, 0, none⟩) :: c1 :: c2 :: c3 :: c4 :: c5 :: .pointer (some ⟨q, 0, none⟩) :: c7 :: c8 :: c9 :: c10 :: c11 :: c12 :: c13 :: c14 :: c15 :: c16 :: c17 :: c18 :: c19 :: c20 :: c21 :: c22 :: c23 :: c24 :: c25 :: c26 :: c27 :: c28 :: c29 :: c30 :: c31 :: c32 :: c33 :: c34 :: c35 :: c36 :: c37 :: c38 :: c39 :: c40 :: c41 :: c42 :: c43 :: c44 :: c45 :: c46 :: c47 :: c48 :: c49 :: c50 :: c51 :: c52 :: c53 :: c54 :: c55 :: c56 :: c57 :: c58 :: c59 :: c60 :: c61 :: c62 :: c63 :: c64 :: c65 :: c66 :: c67 :: c68 :: c69 :: c70 :: c71 :: c72 :: c73 :: c74 :: c75 :: c76 :: c77 :: c78 :: c79 :: c80 :: c81 :: c82 :: c83 :: c84 :: []), []⟩ w := by
  have q0 := KW.cell (fp := []) (p0 := tt) k6 (by simp)
  have hlap := fun w => lapC pl ar hpl har w
  rw [← hb] at hlap
  have ld1 : ∀ w', Keep [] w w' → (Instr.loadAt 54 (.pointer (some ⟨q, 0, none⟩))).run Try.prog w' = .ok (.agg #[.int .i64 pl.f, .int .i64 pl.c]) w' := fun w' k => load_arr (P := Try.prog) (n := 2) (X := [.int .i64 pl.f, .int .i64 pl.c]) (by decide) rfl (o.keep k (by simp)) Try.underlying54 rfl i2
  have hcells : Cells w p 8 [.int .i64 ar.f, .int .i64 ar.c] := fun i hi => by
    match i, hi with
    | 0, _ => exact k8
    | 1, _ => exact k9
  have ld2 : ∀ w', Keep [] w w' → (Instr.loadAt 54 (.pointer (some ⟨p, 8, none⟩))).run Try.prog w' = .ok (.agg #[.int .i64 ar.f, .int .i64 ar.c]) w' := fun w' k => run_ld (cs := [.int .i64 ar.f, .int .i64 ar.c]) Try.underlying54 rfl i2 (hcells.keep k (by simp))
  clear k6 k8 k9 o hcells hb
  conv => arg 2; whnf
  refine wp_region_R (segT w [(12, pIs (.bool b))]) (by kernel_rfl) segT_drew ?_
  unfold segT segK segR
  repeat (first | (refine wpV_skp rfl rfl ?_; simp only [List.set_cons_succ, List.set_cons_zero]) | (refine wpV_val rfl rfl rfl rfl rfl _ (fun w hC => by obtain ⟨n, rfl⟩ := hC; exact exec_load (ld1 _ n.h)) ?_; simp only [List.set_cons_succ, List.set_cons_zero]) | (refine wpV_val rfl rfl rfl rfl rfl _ (fun w hC => by obtain ⟨n, rfl⟩ := hC; exact exec_load (ld2 _ n.h)) ?_; simp only [List.set_cons_succ, List.set_cons_zero]) | (refine wpV_look rfl rfl rfl rfl rfl (fun K hK => ?_); go_big_quiet_op; refine hK _ ?_; clear hK K))
  refine wpV_mk rfl rfl rfl [] (by kernel_rfl) (fun vs w7 hC hF => yields_call (by kernel_rfl) ?_) (fun vs v w7 hC hV hF => ?_)
  · obtain ⟨⟨w7, hk7, -⟩, rfl⟩ := hC
    exact hlap w7 _ (fun w8 g8 => ⟨_, rfl, ⟨Keep.of_grow [] g8, trivial⟩, rfl⟩)
  obtain rfl := hV
  clear hC hF w7
  simp only [List.set_cons_succ, List.set_cons_zero]
  repeat (first | (refine wpV_skp rfl rfl ?_; simp only [List.set_cons_succ, List.set_cons_zero]) | (refine wpV_val rfl rfl rfl rfl rfl _ (fun w hC => by obtain ⟨n, rfl⟩ := hC; exact exec_load (ld1 _ n.h)) ?_; simp only [List.set_cons_succ, List.set_cons_zero]) | (refine wpV_val rfl rfl rfl rfl rfl _ (fun w hC => by obtain ⟨n, rfl⟩ := hC; exact exec_load (ld2 _ n.h)) ?_; simp only [List.set_cons_succ, List.set_cons_zero]) | (refine wpV_look rfl rfl rfl rfl rfl (fun K hK => ?_); go_big_quiet_op; refine hK _ ?_; clear hK K))
  refine wpV_nil ?_
  intro w2 hC hF
  obtain ⟨⟨w2, hkw2, -⟩, rfl⟩ := hC
  clear hF
  exact hQ _ hkw2.grow

set_option maxRecDepth 100000 in
theorem wr7 (p q S : Nat) {x : Sy} {wo : Option Addr} {wn wc : Nat} (pl : Ar) (hpl : pl.ok) (b : Bool) (hb : b = x.into pl) {c1 c2 c3 c4 c5 c7 c8 c9 c10 c11 c12 c13 c14 c15 c16 c17 c18 c19 c20 c21 c22 c23 c24 c25 c26 c27 c28 c29 c30 c31 c32 c33 c34 c35 c36 c37 c38 c39 c40 c41 c42 c43 c44 c45 c46 c47 c48 c49 c50 c51 c52 c53 c54 c55 c56 c57 c58 c59 c60 c61 c62 c63 c64 c65 c66 c67 c68 c69 c70 c71 c72 c73 c74 c75 c76 c77 c78 c79 c80 c81 c82 c83 c84 : Value} (w : World) (st : Sto w p S x wo wn wc) (o : Own w 54 1 (some ⟨q, 0, none⟩) 2 2 [.int .i64 pl.f, .int .i64 pl.c]) {Q : Exit → Act → World → Prop}
    (hQ : ∀ (w' : World), Grow w w' → ∀ {u41 u42 u43 u44 u45 u46 u47 u48 u49 u50 u51 u52 u53 u54 : Value}, Q .normal ⟨List.toArray (.pointer (some ⟨p, 0, none⟩) :: c1 :: c2 :: c3 :: c4 :: c5 :: .pointer (some ⟨q, 0, none⟩) :: .bool b :: c8 :: c9 :: c10 :: c11 :: c12 :: c13 :: c14 :: c15 :: c16 :: c17 :: c18 :: c19 :: c20 :: c21 :: c22 :: c23 :: c24 :: c25 :: c26 :: c27 :: c28 :: c29 :: c30 :: c31 :: c32 :: c33 :: c34 :: c35 :: c36 :: c37 :: c38 :: c39 :: c40 :: u41 :: u42 :: u43 :: u44 :: u45 :: u46 :: u47 :: u48 :: u49 :: u50 :: u51 :: u52 :: u53 :: u54 :: c55 :: c56 :: c57 :: c58 :: c59 :: c60 :: c61 :: c62 :: c63 :: c64 :: c65 :: c66 :: c67 :: c68 :: c69 :: c70 :: c71 :: c72 :: c73 :: c74 :: c75 :: c76 :: c77 :: c78 :: c79 :: c80 :: c81 :: c82 :: c83 :: c84 :: []), []⟩ w') :
    Code.wp Try.prog (regionAt Try.f32 7) Q ⟨List.toArray (.pointer (some ⟨p, 0, none⟩) :: c1 :: c2 :: c3 :: c4 :: c5 :: .pointer (some ⟨q, 0, none⟩) :: c7 :: c8 :: c9 :: c10 :: c11 :: c12 :: c13 :: c14 :: c15 :: c16 :: c17 :: c18 :: c19 :: c20 :: c21 :: c22 :: c23 :: c24 :: c25 :: c26 :: c27 :: c28 :: c29 :: c30 :: c31 :: c32 :: c33 :: c34 :: c35 :: c36 :: c37 :: c38 :: c39 :: c40 :: c41 :: c42 :: c43 :: c44 :: c45 :: c46 :: c47 :: c48 :: c49 :: c50 :: c51 :: c52 :: c53 :: c54 :: c55 :: c56 :: c57 :: c58 :: c59 :: c60 :: c61 :: c62 :: c63 :: c64 :: c65 :: c66 :: c67 :: c68 :: c69 :: c70 :: c71 :: c72 :: c73 :: c74 :: c75 :: c76 :: c77 :: c78 :: c79 :: c80 :: c81 :: c82 :: c83 :: c84 :: []), []⟩ w := by
  cases e : x.hid with
  | none =>
    obtain rfl : b = false := by rw [hb]; unfold Sy.into; rw [e]
    exact wr7n p q w (st.cell (i := 6) ((stV_hid S x _ 0 (by decide)).trans (by rw [e]; rfl))) hQ
  | some h =>
    have hb2 : b = lapS pl h.area := by rw [hb]; unfold Sy.into; rw [e]
    exact wr7s p q pl h.area hpl (st.hok h e).1 b hb2 w (st.cell (i := 6) ((stV_hid S x _ 0 (by decide)).trans (by rw [e]; rfl))) (st.cell (i := 8) ((stV_hid S x _ 2 (by decide)).trans (by rw [e]; rfl))) (st.cell (i := 9) ((stV_hid S x _ 3 (by decide)).trans (by rw [e]; rfl))) o hQ

/-- A place, as a slice of one. -/
def pSl2 (x y : Value) : Pr := ⟨fun v w => ∃ ao, v = .slice ao 1 1 ∧ Sl w 2 ao 1 1 [x, y], fun k ⟨ao, e, h⟩ => ⟨ao, e, h.keep k (by simp)⟩⟩
theorem TAr : ST Try.prog 57 54 2 16 := ST.mk' (z := .agg #[.int .i64 0, .int .i64 0]) Try.underlying57 (by kernel_rfl) rfl (by decide)


set_option maxRecDepth 100000 in
set_option maxHeartbeats 4000000 in
theorem wr13 (p q S : Nat) {x : Sy} {wo : Option Addr} {wn wc : Nat} (pl : Ar) (hpl : pl.ok) (hn : wn ≤ 10000) {c1 c2 c3 c4 c5 c7 c8 c9 c10 c11 c12 c13 c14 c15 c16 c17 c18 c19 c20 c21 c22 c23 c24 c25 c26 c27 c28 c29 c30 c31 c32 c33 c34 c35 c36 c37 c38 c39 c40 c41 c42 c43 c44 c45 c46 c47 c48 c49 c50 c51 c52 c53 c54 c55 c56 c57 c58 c59 c60 c61 c62 c63 c64 c65 c66 c67 c68 c69 c70 c71 c72 c73 c74 c75 c76 c77 c78 c79 c80 c81 c82 c83 c84 : Value} (w : World) (st : Sto w p S x wo wn wc) (o : Own w 54 1 (some ⟨q, 0, none⟩) 2 2 [.int .i64 pl.f, .int .i64 pl.c]) {Q : Exit → Act → World → Prop}
    (hQ : ∀ (wo' : Option Addr) (wc' : Nat) (w' : World), Sto w' p S { x with wr := x.wr ++ [pl] } wo' (wn + 1) wc' → Keep (p :: blk wo) w w' → (∀ y ∈ blk wo', y ∈ blk wo ∨ w.heap.size ≤ y) → ∀ {u75 u76 u77 u78 u79 u80 u81 u82 u83 u84 : Value}, Q .normal ⟨List.toArray (.pointer (some ⟨p, 0, none⟩) :: c1 :: c2 :: c3 :: c4 :: c5 :: .pointer (some ⟨q, 0, none⟩) :: c7 :: c8 :: c9 :: c10 :: c11 :: c12 :: c13 :: c14 :: c15 :: c16 :: c17 :: c18 :: c19 :: c20 :: c21 :: c22 :: c23 :: c24 :: c25 :: c26 :: c27 :: c28 :: c29 :: c30 :: c31 :: c32 :: c33 :: c34 :: c35 :: c36 :: c37 :: c38 :: c39 :: c40 :: c41 :: c42 :: c43 :: c44 :: c45 :: c46 :: c47 :: c48 :: c49 :: c50 :: c51 :: c52 :: c53 :: c54 :: c55 :: c56 :: c57 :: c58 :: c59 :: c60 :: c61 :: c62 :: c63 :: c64 :: c65 :: c66 :: c67 :: c68 :: c69 :: c70 :: c71 :: c72 :: c73 :: c74 :: u75 :: u76 :: u77 :: u78 :: u79 :: u80 :: u81 :: u82 :: u83 :: u84 :: []), []⟩ w') :
    Code.wp Try.prog (regionAt Try.f32 13) Q ⟨List.toArray (.pointer (some ⟨p, 0, none⟩) :: c1 :: c2 :: c3 :: c4 :: c5 :: .pointer (some ⟨q, 0, none⟩) :: c7 :: c8 :: c9 :: c10 :: c11 :: c12 :: c13 :: c14 :: c15 :: c16 :: c17 :: c18 :: c19 :: c20 :: c21 :: c22 :: c23 :: c24 :: c25 :: c26 :: c27 :: c28 :: c29 :: c30 :: c31 :: c32 :: c33 :: c34 :: c35 :: c36 :: c37 :: c38 :: c39 :: c40 :: c41 :: c42 :: c43 :: c44 :: c45 :: c46 :: c47 :: c48 :: c49 :: c50 :: c51 :: c52 :: c53 :: c54 :: c55 :: c56 :: c57 :: c58 :: c59 :: c60 :: c61 :: c62 :: c63 :: c64 :: c65 :: c66 :: c67 :: c68 :: c69 :: c70 :: c71 :: c72 :: c73 :: c74 :: c75 :: c76 :: c77 :: c78 :: c79 :: c80 :: c81 :: c82 :: c83 :: c84 :: []), []⟩ w := by
  have hml : maxLen = 9223372036854775807 := rfl
  have k14 := st.cell (i := 14) (stV_end S x _ 2)
  have hst := st.st.lt
  have hwl := st.wr.lt
  have ld1 : ∀ w', Keep [] w w' → (Instr.loadAt 54 (.pointer (some ⟨q, 0, none⟩))).run Try.prog w' = .ok (.agg #[.int .i64 pl.f, .int .i64 pl.c]) w' := fun w' k => load_arr (P := Try.prog) (n := 2) (X := [.int .i64 pl.f, .int .i64 pl.c]) (by decide) rfl (o.keep k (by simp)) Try.underlying54 rfl i2
  have q0 := KW.cell (fp := []) (p0 := tt) k14 (by simp)
  clear k14
  conv => arg 2; whnf
  refine wp_region_F [0] (segT w [(6, pSl2 (.int .i64 pl.f) (.int .i64 pl.c))]) (by kernel_rfl) segT_drew ?_
  unfold segT segK segR
  repeat (first | (refine wpV_val rfl rfl rfl rfl rfl _ (fun w hC => by obtain ⟨n, rfl⟩ := hC; exact exec_load (ld1 _ n.h)) ?_; simp only [List.set_cons_succ, List.set_cons_zero]) | (refine wpV_look rfl rfl rfl rfl rfl (fun K hK => ?_); go_big_quiet_op; refine hK _ ?_; clear hK K) | (refine wpV_free rfl rfl rfl rfl (fun K hK => ?_); go_big_quiet_op; refine hK _ ?_; clear hK K))
  refine wpV_mk rfl rfl rfl [] (by kernel_rfl) (fun vs w7 hC hF => ?_) (fun vs v w7 hC hV hF => ?_)
  · obtain ⟨⟨w7, hk7, -⟩, rfl⟩ := hC
    unfold yields
    go_simp
    exact ⟨⟨Keep.of_grow [] (Grow.alloc w7 _), trivial⟩, ⟨_, rfl, (Own.made (n := 1) (sz := 2) (heap_alloc_new w7 _) rfl (by decide) (by simp [Value.oneCell'])).sl⟩⟩
  obtain ⟨b6, rfl, -⟩ := hV
  clear hC hF w7
  simp only [List.set_cons_succ, List.set_cons_zero]
  refine wpV_tn rfl rfl (by kernel_rfl) (fun w7 hC hF => ?_)
  obtain ⟨ao6, e6, s6⟩ := (hF 6).2 rfl
  obtain ⟨⟨w7, hk7, -⟩, rfl⟩ := hC
  cases e6
  have st7 := st.keep hk7 (by simp) (by simp)
  obtain ⟨ao8, c8, w8, hr, o8, -, k8, in8⟩ := run_app TAr w7 57 st7.wr s6 (by omega) (by omega)
  have hpk : p ∉ blk wo := st.ne
  have s8 := st7.st.keep k8 (fun y hy hm => by simp [blk] at hy; subst hy; exact hpk hm)
  refine yields_run (run_exec_append hr) ⟨segU _, ⟨(), rfl⟩, ?_⟩
  unfold segU
  simp only [List.set_cons_succ, List.set_cons_zero]
  repeat (refine wpV_look rfl rfl rfl rfl rfl (fun K hK => ?_); go_big_quiet_op; refine hK _ ?_; clear hK K)
  refine wpV_end0 rfl rfl (by kernel_rfl) (fun w9 hC hF => ?_)
  obtain ⟨-, rfl⟩ := hC
  obtain ⟨_, u, e, hu, hfz, hput⟩ := own_put s8 (i := 14) (by omega)
  cases e
  have s9 := hput (.slice ao8 (wn + 1) c8) rfl
  have hset : (stV S x (.slice wo wn wc)).set 14 (.slice ao8 (wn + 1) c8) = stV S { x with wr := x.wr ++ [pl] } (.slice ao8 (wn + 1) c8) := by
    unfold stV
    rw [List.set_append_right _ _ (by rw [outV_len]; omega), outV_len, List.set_append_right _ _ (by rw [hidV_len]; omega), hidV_len]
    rfl
  rw [hset] at s9
  have hp8 : p ∉ blk ao8 := fun hm => by
    rcases in8 p hm with h | h
    · exact hpk h
    · have := hst p (by simp [blk]); have := hk7.size; omega
  have k9 : Keep [p] w9 (w9.setCell ⟨p, 14, none⟩ (.slice ao8 (wn + 1) c8)) := Keep.setCell w9 ⟨p, 14, none⟩ (by simp) _
  have hsto : Sto (w9.setCell ⟨p, 14, none⟩ (.slice ao8 (wn + 1) c8)) p S { x with wr := x.wr ++ [pl] } ao8 (wn + 1) c8 := {
    st := s9
    wr := by
      have := o8.keep k9 (fun y hy hm => by simp at hm; subst hm; exact hp8 hy)
      simpa [arV] using this
    ne := hp8
    hok := st.hok
    wok := fun a ha => by
      rcases List.mem_append.1 ha with h | h
      · exact st.wok a h
      · rw [List.mem_singleton.1 h]; exact hpl
    mt := st.mt
    mh := st.mh
    len := by rw [List.length_append, st.len]; rfl }
  have hf := fun {u75 u76 u77 u78 u79 u80 u81 u82 u83 u84 : Value} => @hQ ao8 c8 _ hsto (((hk7.mono (by simp)).trans (k8.mono (by simp +contextual))).trans (k9.mono (by simp))) (fun y hy => (in8 y hy).imp id fun h => Nat.le_trans hk7.size h) u75 u76 u77 u78 u79 u80 u81 u82 u83 u84
  clear hQ hsto hput s9 hset hF
  unfold yields
  go_simp
  simp only [yUpon]
  exact hf

set_option maxRecDepth 100000 in
set_option maxHeartbeats 8000000 in
theorem writeC {p S : Nat} {x : Sy} {wo : Option Addr} {wn wc : Nat} (hS : S ≤ 300) (c : CmX) (da : Option Addr) (dc : Nat) (hdl : c.data.length ≤ 1000000) (hn : wn ≤ 10000) (hx : x.out ≠ none) (_ : x.mt ≠ -1) (w : World) (st : Sto w p S x wo wn wc) (R : Ending → World → Prop) (hR : StepR R w p S wo (writeS S x c)) :
    Calls Try.prog 32 #[.pointer (some ⟨p, 0, none⟩), .agg (cmV c (.slice da c.data.length dc))] w R := by
  unfold cmV
  have hml : maxLen = 9223372036854775807 := rfl
  obtain ⟨dn, hdn⟩ : ∃ dn, dn = c.data.length := ⟨_, rfl⟩
  have hWS : writeS S x c = if dn % 64 = 0 ∧ x.within S c.first ((dn / 64 : Nat) : Int) = true then (if x.mt = 1 then some (2, x) else if x.into ⟨(outD S).f + c.first, ((dn / 64 : Nat) : Int)⟩ = true ∧ x.mt = 0 then none else if x.into ⟨(outD S).f + c.first, ((dn / 64 : Nat) : Int)⟩ = true ∨ x.trip = true then some (2, { x with trip := true }) else some (1, { x with wr := x.wr ++ [⟨(outD S).f + c.first, ((dn / 64 : Nat) : Int)⟩] })) else none := by rw [hdn]; rfl
  rw [hWS] at hR
  rw [← hdn] at hdl ⊢
  clear hWS hdn
  obtain ⟨n, hn0⟩ : ∃ n, n = dn / 64 := ⟨_, rfl⟩
  obtain ⟨r, hr0⟩ : ∃ r, r = dn % 64 := ⟨_, rfl⟩
  rw [← hn0, ← hr0] at hR
  have hD : (dn : Int) / 64 = (n : Int) := by omega
  have hE : (dn : Int) % 64 = (r : Int) := by omega
  have htm : (dn : Int).tmod 64 = (r : Int) := by rw [Int.tmod_eq_emod_of_nonneg (by omega)]; omega
  have htd : (dn : Int).tdiv 64 = (n : Int) := by rw [Int.tdiv_eq_ediv_of_nonneg (by omega)]; omega
  have hnl : n ≤ 1000000 := by omega
  clear hn0 hr0
  have ga := Grow.alloc w (.cells #[.int .i64 c.kind, .string (str c.pass), .string (str c.other), .int .i64 c.first, .int .i64 c.count, .slice da dn dc] 39)
  have s1 := st.grow ga
  have hR1 := hR.grow ga
  have o1 := alloc_new w (.cells #[.int .i64 c.kind, .string (str c.pass), .string (str c.other), .int .i64 c.first, .int .i64 c.count, .slice da dn dc] 39)
  have q3 := obj_cell o1 3 rfl
  have hwi := withinC hS hx c.first (n : Int) _ s1
  have c12 := s1.cell (i := 12) (stV_end S x _ 0)
  have hlen := st.len
  clear o1 hR ga st
  by_cases hr : r = 0
  · subst hr
    obtain ⟨b, hb⟩ : ∃ b, b = x.within S c.first (n : Int) := ⟨_, rfl⟩
    rw [← hb] at hR1 hwi
    cases b with
    | false =>
      rw [if_neg (by simp)] at hR1
      have hg := hR1 _ (Keep.refl _ _)
      clear hR1 s1 hb c12 q3
      go_enter Try.func32, Try.ntmps32
      go_wp2_with fail
      refine hwi _ ?_
      clear hwi
      go_wp2_with fail
      exact hg
    | true =>
      rw [if_pos ⟨rfl, rfl⟩] at hR1
      by_cases hm : x.mt = 1
      · rw [if_pos hm] at hR1
        have hg := hR1 _ _ _ _ s1 hlen.symm (Keep.refl _ _) (fun y hy => .inl hy)
        rw [hm] at c12
        clear hR1 s1 q3 hm hb
        go_enter Try.func32, Try.ntmps32
        go_wp2_with fail
        refine hwi _ ?_
        clear hwi
        go_wp2_with fail
        exact hg
      · rw [if_neg hm] at hR1
        have hmd : (x.mt == 1) = false := by simpa using hm
        have hDc : (outD S).c ≤ 142 := by unfold outD; simp only; omega
        have hfirst : 0 ≤ c.first ∧ c.first ≤ 1000 ∧ n ≤ 64 := by
          unfold Sy.within Sy.size at hb
          rw [if_neg hm] at hb
          simp only [Bool.true_eq, Bool.and_eq_true, decide_eq_true_eq] at hb
          omega
        clear hb
        obtain ⟨o, ho⟩ : ∃ o, x.out = some o := by
          cases h : x.out with
          | none => exact absurd h hx
          | some o => exact ⟨o, rfl⟩
        have k4 : (w.alloc (.cells #[.int .i64 c.kind, .string (str c.pass), .string (str c.other), .int .i64 c.first, .int .i64 c.count, .slice da dn dc] 39)).cell? ⟨p, 4, none⟩ = some (.int .i64 (outD S).f) := s1.cell (i := 4) ((stV_out S x _ 4 (by decide)).trans (by rw [ho]; rfl))
        have hDf := outD_ok S hS
        have hplk : (⟨(outD S).f + c.first, (n : Int)⟩ : Ar).ok := by
          have : (outD S).f ≤ 1000 := by unfold outD; simp only; omega
          have := hDf.f0
          obtain ⟨_, _, _⟩ := hfirst
          exact ⟨by show 0 ≤ (outD S).f + c.first; omega, by show (outD S).f + c.first ≤ 1000000; omega, by show 0 ≤ (n : Int); omega, by show (n : Int) ≤ 1000000; omega⟩
        go_enter Try.func32, Try.ntmps32
        go_wp2_with fail
        refine hwi _ ?_
        clear hwi
        go_upto_region 6 with (fail)
        refine wr6 p w.heap.size n (outD S).f c.first ⟨hDf.f0, hDf.f1⟩ ⟨hfirst.1, by omega⟩ _ k4 q3 ?_
        intro q w2 oq g2 hq
        intros
        have s2 := s1.grow g2
        have hR2 := hR1.grow g2
        obtain ⟨b, hb⟩ : ∃ b, b = x.into ⟨(outD S).f + c.first, (n : Int)⟩ := ⟨_, rfl⟩
        rw [← hb] at hR2
        have Hb := Lib.hid hb
        clear k4 q3 c12 s1 hR1 g2 hq hb hfirst hDc ho
        go_upto_region 7 with (fail)
        refine wr7 p q S ⟨(outD S).f + c.first, (n : Int)⟩ hplk b Hb.out w2 s2 oq ?_
        intro w3 g3
        intros
        have s3 := s2.grow g3
        have hR3 := hR2.grow g3
        have oq3 := oq.grow g3
        have c12 := s3.cell (i := 12) (stV_end S x _ 0)
        have c13 := s3.cell (i := 13) (stV_end S x _ 1)
        obtain ⟨⟨v13, hv13⟩, hf13, hput⟩ := s3.put 13 (by omega)
        have htr := hput (.bool true) { x with trip := true } rfl (stV_trip S x _ true) rfl s3.hok s3.mt s3.mh
        clear s2 hR2 oq g3 hput hmd
        have hmts := s3.mt
        cases b with
        | true =>
          by_cases h0 : x.mt = 0
          · rw [if_pos ⟨rfl, h0⟩] at hR3
            have hg := hR3 _ (Keep.refl _ _)
            rw [h0] at c12
            clear hR3 s3 oq3 htr hm h0
            go_wp2_with fail
            exact hg
          · rw [if_neg (fun e => h0 e.2), if_pos (.inl rfl)] at hR3
            have hg := hR3 _ _ _ _ htr.1 hlen.symm htr.2 (fun y hy => .inl hy)
            have h0d : (x.mt == 0) = false := by simpa using h0
            clear hR3 s3 oq3 htr hm
            go_wp2_with fail
            exact hg
        | false =>
          rw [if_neg (by simp)] at hR3
          cases ht : x.trip with
          | true =>
            rw [if_pos (.inr ht)] at hR3
            have hg := hR3 _ _ _ _ htr.1 hlen.symm htr.2 (fun y hy => .inl hy)
            have c13' : w3.cell? ⟨p, 13, none⟩ = some (.bool true) := c13.trans (by rw [← ht])
            clear hR3 s3 oq3 htr hm c13 ht hv13
            go_wp2_with fail
            exact hg
          | false =>
            rw [if_neg (by simp [ht])] at hR3
            have c13' : w3.cell? ⟨p, 13, none⟩ = some (.bool false) := c13.trans (by rw [← ht])
            clear htr hm c13 ht hv13 hf13
            go_upto_region 13 with (fail)
            refine wr13 p q S ⟨(outD S).f + c.first, (n : Int)⟩ hplk hn w3 s3 oq3 ?_
            intro wo' wc' w4 s4 k4 in4
            intros
            have hg := hR3 wo' _ _ w4 s4 (by simp [hlen]) k4 in4
            clear hR3 s3 oq3 s4 k4 in4
            go_wp2_with fail
            exact hg
  · have hd1 : ((r : Int) != 0) = true := by simp <;> omega
    have hd2 : ((r : Int) == 0) = false := by simp <;> omega
    rw [if_neg (by simp [hr])] at hR1
    have hg := hR1 _ (Keep.refl _ _)
    clear hR1 s1 hwi c12 q3
    go_enter Try.func32, Try.ntmps32
    go_wp2_with fail
    exact hg
end Go.Proofs.Ytgchbcopbkoomaa
