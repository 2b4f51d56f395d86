/- The ideal cipher: Key, what is stored, what is told. -/
import Derived.Test.YtfmnkcmicbnfdaaIdlK
import Derived.Test.YtfmnkcmicbnfdaaRegG
namespace Go.Proofs.Ytfmnkcmicbnfdaa
open Go Go.RowKit

/-- Growth out of w0; operation i may turn blocks that were not in w0, those of which 'ok' is true. -/
def segY (w0 : World) (es : List Nat) (kills : List (Nat × Nat)) (ok : Nat → Prop) (V : Nat → Array Value → Value → World → Prop)
    (hV : ∀ i j vs v w w' fp, i ≠ j → (i, j) ∉ kills → Grow w0 w → Keep fp w w' → (∀ x ∈ fp, w0.heap.size ≤ x ∧ ok i) → V j vs v w → V j vs v w') : RC.Seg (fun _ => True) where
  C w := ∃ n : KW [] tt w0, w = n.w
  sub := fun _ _ => trivial
  R i w w' := ∃ fp, Keep fp w w' ∧ ∀ x ∈ fp, w0.heap.size ≤ x ∧ ok i
  V := V
  es := es
  kills := kills
  hC := fun i w w' ⟨n, h⟩ ⟨fp, hr, hf⟩ => ⟨⟨w', by subst h; exact n.h.trans' hr (fun x hx => .inr (hf x hx).1), trivial⟩, rfl⟩
  hV := fun i j vs v w w' hn hk ⟨n, h⟩ ⟨fp, hr, hf⟩ hv => hV i j vs v w w' fp hn hk (by subst h; exact n.h.grow) hr hf hv


set_option maxRecDepth 100000 in
set_option maxHeartbeats 1000000 in
theorem key12 (p K q16 : Nat) (x : Ask) (kv : List (Ask × (Option Addr × Nat × Nat))) (ho : Option Addr) (hn hc : Nat) (hs : List Value) (mo : Option Addr) (mn mc : Nat) (ms : List Value) (hnl : hn ≤ 10000) (mnl : mn ≤ 10000) {c1 c2 c3 c4 c5 c6 c7 c8 c9 c10 c11 c12 c13 c14 c15 c19 c20 c21 c22 c23 c24 c25 c26 c27 c28 c29 c30 c31 c32 c33 c34 c35 c36 c37 c38 c39 c40 c41 c42 c43 c44 c45 c46 c47 c48 c49 c50 c51 c52 c53 c54 c55 c56 c57 c58 c59 c60 c61 c62 c63 c64 c65 c66 c67 c68 c69 c70 c71 c72 c73 c74 c75 c76 c77 c78 c79 c80 c81 c82 c83 c84 c85 c86 c87 c88 c89 c90 c91 c92 c93 : Value} (w : World) (hc2 : w.cell? ⟨p, 2, none⟩ = some (.map (some K))) (m : Mp ekA evK w K kv) (o16 : Cells w q16 0 (asV x)) (sh : Sl w 1 ho hn hc hs) (sm : Sl w 1 mo mn mc ms) {Q : Exit → Act → World → Prop}
    (hQ : ∀ (ao : Option Addr) (c : Nat) (w' : World), Mp ekA evK w' K (putM x (ao, hn + mn, c) kv) → Own w' 5 1 ao (hn + mn) c (hs ++ ms) → Keep [K] w w' → (∀ g ∈ blk ao, w.heap.size ≤ g) → ∀ {u76 u77 u78 u79 u80 u81 u82 u83 u84 : Value}, Q .normal ⟨List.toArray (.pointer (some ⟨p, 0, none⟩) :: c1 :: c2 :: c3 :: c4 :: c5 :: c6 :: c7 :: c8 :: c9 :: c10 :: c11 :: c12 :: c13 :: c14 :: c15 :: .pointer (some ⟨q16, 0, none⟩) :: .slice ho hn hc :: .slice mo mn mc :: c19 :: c20 :: c21 :: c22 :: c23 :: c24 :: c25 :: c26 :: c27 :: c28 :: c29 :: c30 :: c31 :: c32 :: c33 :: c34 :: c35 :: c36 :: c37 :: c38 :: c39 :: c40 :: c41 :: c42 :: c43 :: c44 :: c45 :: c46 :: c47 :: c48 :: c49 :: c50 :: c51 :: c52 :: c53 :: c54 :: c55 :: c56 :: c57 :: c58 :: c59 :: c60 :: c61 :: c62 :: c63 :: c64 :: c65 :: c66 :: c67 :: c68 :: c69 :: c70 :: c71 :: c72 :: c73 :: c74 :: c75 :: u76 :: u77 :: u78 :: u79 :: u80 :: u81 :: u82 :: u83 :: u84 :: c85 :: c86 :: c87 :: c88 :: c89 :: c90 :: c91 :: c92 :: c93 :: []), []⟩ w') :
    Code.wp Try.prog (regionAt Try.f24 12) Q ⟨List.toArray (.pointer (some ⟨p, 0, none⟩) :: c1 :: c2 :: c3 :: c4 :: c5 :: c6 :: c7 :: c8 :: c9 :: c10 :: c11 :: c12 :: c13 :: c14 :: c15 :: .pointer (some ⟨q16, 0, none⟩) :: .slice ho hn hc :: .slice mo mn mc :: c19 :: c20 :: c21 :: c22 :: c23 :: c24 :: c25 :: c26 :: c27 :: c28 :: c29 :: c30 :: c31 :: c32 :: c33 :: c34 :: c35 :: c36 :: c37 :: c38 :: c39 :: c40 :: c41 :: c42 :: c43 :: c44 :: c45 :: c46 :: c47 :: c48 :: c49 :: c50 :: c51 :: c52 :: c53 :: c54 :: c55 :: c56 :: c57 :: c58 :: c59 :: c60 :: c61 :: c62 :: c63 :: c64 :: c65 :: c66 :: c67 :: c68 :: c69 :: c70 :: c71 :: c72 :: c73 :: c74 :: c75 :: c76 :: c77 :: c78 :: c79 :: c80 :: c81 :: c82 :: c83 :: c84 :: c85 :: c86 :: c87 :: c88 :: c89 :: c90 :: c91 :: c92 :: c93 :: []), []⟩ w := by
  have hml : maxLen = 9223372036854775807 := rfl
  have e2 := KW.cell (fp := []) (p0 := tt) hc2 (by simp)
  have ldA : ∀ w', Keep [] w w' → (Instr.loadAt 110 (.pointer (some ⟨q16, 0, none⟩))).run Try.prog w' = .ok (.agg (asV x).toArray) w' := fun w' k => run_ld (cs := asV x) Try.underlying110 rfl i3 (o16.keep k (by simp))
  have hKlt := m.lt
  conv => arg 2; whnf
  let W : Nat → Array Value → Value → World → Prop := fun j _ v w' =>
    (j = 6 → ∃ ao c, v = .slice ao hn c ∧ Own w' 5 1 ao hn c hs ∧ ∀ g ∈ blk ao, w.heap.size ≤ g) ∧
    (j = 8 → ∃ ao c, v = .slice ao (hn + mn) c ∧ Own w' 5 1 ao (hn + mn) c (hs ++ ms) ∧ ∀ g ∈ blk ao, w.heap.size ≤ g)
  refine RC.wp_region_X (segY w [6, 8] [(8, 6)] (fun i => i = 8) W ?_) (fun _ => True) (fun _ => True) (by kernel_rfl) ⟨⟨w.drew, Keep.drew [] w, trivial⟩, rfl⟩ trivial trivial (fun _ _ _ _ _ => ⟨.inr fun h => h, fun h => h⟩) ?_
  · rintro i j vs' v wa wb fp hij hkl hgr kp hok ⟨v6, v8⟩
    refine ⟨fun hj => ?_, fun hj => ?_⟩
    · have : fp = [] := List.eq_nil_iff_forall_not_mem.2 fun x hx => by
        have := (hok x hx).2
        subst this; subst hj
        exact hkl (by simp)
      subst this
      obtain ⟨ao, c, h1, h2, h3⟩ := v6 hj
      exact ⟨ao, c, h1, h2.keep kp (by simp), h3⟩
    · have : fp = [] := List.eq_nil_iff_forall_not_mem.2 fun x hx => hij (((hok x hx).2).trans hj.symm)
      subst this
      obtain ⟨ao, c, h1, h2, h3⟩ := v8 hj
      exact ⟨ao, c, h1, h2.keep kp (by simp), h3⟩
  unfold segY
  repeat (first | (refine RC.wpV_val rfl rfl rfl rfl rfl _ (fun w hC => by obtain ⟨n, rfl⟩ := hC; exact exec_load (ldA _ n.h)) ?_; simp only [List.set_cons_succ, List.set_cons_zero]) | (refine RC.wpV_look rfl rfl rfl rfl rfl (fun K hK => ?_); go_big_quiet_op; refine hK _ ?_; clear hK K))
  refine RC.wpV_mk rfl rfl rfl [] (by kernel_rfl) (fun vs7 w7 hC hF => yields_call (by kernel_rfl) ?_) (fun vs7 v w7 hC hV hF => ?_)
  · obtain ⟨⟨w7, hk, -⟩, rfl⟩ := hC
    exact cloneB ho hn hc hs w7 (sh.keep hk (by simp)) (by omega) _ (fun ao c w8 o8 g8 f8 => ⟨_, rfl, ⟨[], Keep.of_grow [] g8, by simp⟩, fun _ => ⟨ao, c, rfl, o8, fun g hg => Nat.le_trans hk.size (f8 g hg)⟩, by simp⟩)
  obtain ⟨ao6, c6, rfl, -⟩ := hV.1 rfl
  clear hV hC hF w7
  simp only [List.set_cons_succ, List.set_cons_zero]
  repeat (first | (refine RC.wpV_skp rfl rfl ?_; simp only [List.set_cons_succ, List.set_cons_zero]) | (refine RC.wpV_look rfl rfl rfl rfl rfl (fun K hK => ?_); go_big_quiet_op; refine hK _ ?_; clear hK K) | (refine RC.wpV_free rfl rfl rfl rfl (fun K hK => ?_); unfold RC.Base; go_big_quiet_op; refine hK _ ?_; clear hK K))
  refine RC.wpV_mk rfl rfl rfl [6] (by kernel_rfl) (fun vs7 w7 hC hF => ?_) (fun vs7 v w7 hC hV hF => ?_)
  · obtain ⟨ao, c, e, o, f⟩ := ((hF 6 (by simp)).2 rfl).1 rfl
    cases e
    obtain ⟨⟨w7, hk, -⟩, rfl⟩ := hC
    obtain ⟨ao1, cap1, w8, hr, own1, -, kp1, bl1⟩ := run_app TBy w7 27 o (sm.keep hk (by simp)) (by omega) (by omega)
    exact yields_run (run_exec_append hr) ⟨⟨blk ao6, kp1, fun x hx => ⟨f x hx, rfl⟩⟩, by simp, fun _ => ⟨ao1, cap1, rfl, own1, fun g hg => (bl1 g hg).elim (f g) (fun h => Nat.le_trans hk.size h)⟩⟩
  obtain ⟨ao8, c8, rfl, -⟩ := hV.2 rfl
  clear hV hC hF w7
  simp only [List.set_cons_succ, List.set_cons_zero]
  refine RC.wpV_end0 rfl rfl (by kernel_rfl) (fun w7 hC hF => ?_)
  obtain ⟨ao, c, e, o, f⟩ := ((hF 8).2 rfl).2 rfl
  cases e
  obtain ⟨⟨w7, hk, -⟩, rfl⟩ := hC
  obtain ⟨w8, hr, m8, k8⟩ := run_put Try.underlying100 okA (m.keep hk (by simp)) x (ao8, hn + mn, c8)
  unfold yields
  rw [exec_put hr]
  simp only [yUpon]
  exact ⟨trivial, hQ ao8 c8 w8 m8 (o.keep k8 (fun g hg hm => by simp at hm; subst hm; have := f _ hg; omega)) ((Keep.of_nil hk).trans k8) f⟩

/-- A slice of bytes, its own, new since the size N. -/
def pN8 (N n : Nat) (xs : List Value) : Pr := ⟨fun v w => ∃ ao c, v = .slice ao n c ∧ Own w 5 1 ao n c xs ∧ ∀ g ∈ blk ao, N ≤ g, fun k ⟨ao, c, h1, h, hf⟩ => ⟨ao, c, h1, h.keep k (by simp), hf⟩⟩


set_option maxRecDepth 100000 in
set_option maxHeartbeats 1000000 in
theorem key13 (p K q16 : Nat) (x : Ask) (kv : List (Ask × (Option Addr × Nat × Nat))) (ho : Option Addr) (hn hc : Nat) (hs : List Value) (n : Nat) (hnl : hn ≤ 10000) (hnn : n ≤ hn) {c1 c2 c3 c4 c6 c7 c8 c9 c10 c11 c12 c13 c14 c15 c17 c18 c19 c20 c21 c22 c23 c24 c25 c26 c27 c28 c29 c30 c31 c32 c33 c34 c35 c36 c37 c38 c39 c40 c41 c42 c43 c44 c45 c46 c47 c48 c49 c50 c51 c52 c53 c54 c55 c56 c57 c58 c59 c60 c61 c62 c63 c64 c65 c66 c67 c68 c69 c70 c71 c72 c73 c74 c75 c76 c77 c78 c79 c80 c81 c82 c83 c84 c85 c86 c87 c88 c89 c90 c91 c92 c93 : Value} (w : World) (hc2 : w.cell? ⟨p, 2, none⟩ = some (.map (some K))) (m : Mp ekA evK w K kv) (hl : lookV evK (.slice none 0 0) false (look x kv) = .slice ho hn hc) (o16 : Cells w q16 0 (asV x)) (sh : Sl w 1 ho hn hc hs) {Q : Exit → Act → World → Prop}
    (hQ : ∀ (ao : Option Addr) (c : Nat) (w' : World), Own w' 5 1 ao n c (hs.take n) → Grow w w' → (∀ g ∈ blk ao, w.heap.size ≤ g) → ∀ {u85 u86 u87 u88 u89 u90 u91 u92 u93 : Value}, Q .normal ⟨List.toArray (.pointer (some ⟨p, 0, none⟩) :: c1 :: c2 :: c3 :: c4 :: .int .i64 (n : Int) :: c6 :: c7 :: c8 :: c9 :: c10 :: c11 :: .slice ao n c :: .int .i64 0 :: c14 :: c15 :: .pointer (some ⟨q16, 0, none⟩) :: c17 :: c18 :: c19 :: c20 :: c21 :: c22 :: c23 :: c24 :: c25 :: c26 :: c27 :: c28 :: c29 :: c30 :: c31 :: c32 :: c33 :: c34 :: c35 :: c36 :: c37 :: c38 :: c39 :: c40 :: c41 :: c42 :: c43 :: c44 :: c45 :: c46 :: c47 :: c48 :: c49 :: c50 :: c51 :: c52 :: c53 :: c54 :: c55 :: c56 :: c57 :: c58 :: c59 :: c60 :: c61 :: c62 :: c63 :: c64 :: c65 :: c66 :: c67 :: c68 :: c69 :: c70 :: c71 :: c72 :: c73 :: c74 :: c75 :: c76 :: c77 :: c78 :: c79 :: c80 :: c81 :: c82 :: c83 :: c84 :: u85 :: u86 :: u87 :: u88 :: u89 :: u90 :: u91 :: u92 :: u93 :: []), []⟩ w') :
    Code.wp Try.prog (regionAt Try.f24 13) Q ⟨List.toArray (.pointer (some ⟨p, 0, none⟩) :: c1 :: c2 :: c3 :: c4 :: .int .i64 (n : Int) :: c6 :: c7 :: c8 :: c9 :: c10 :: c11 :: c12 :: c13 :: c14 :: c15 :: .pointer (some ⟨q16, 0, none⟩) :: c17 :: c18 :: c19 :: c20 :: c21 :: c22 :: c23 :: c24 :: c25 :: c26 :: c27 :: c28 :: c29 :: c30 :: c31 :: c32 :: c33 :: c34 :: c35 :: c36 :: c37 :: c38 :: c39 :: c40 :: c41 :: c42 :: c43 :: c44 :: c45 :: c46 :: c47 :: c48 :: c49 :: c50 :: c51 :: c52 :: c53 :: c54 :: c55 :: c56 :: c57 :: c58 :: c59 :: c60 :: c61 :: c62 :: c63 :: c64 :: c65 :: c66 :: c67 :: c68 :: c69 :: c70 :: c71 :: c72 :: c73 :: c74 :: c75 :: c76 :: c77 :: c78 :: c79 :: c80 :: c81 :: c82 :: c83 :: c84 :: c85 :: c86 :: c87 :: c88 :: c89 :: c90 :: c91 :: c92 :: c93 :: []), []⟩ w := by
  have hml : maxLen = 9223372036854775807 := rfl
  have e2 := KW.cell (fp := []) (p0 := tt) hc2 (by simp)
  have ldA : ∀ w', Keep [] w w' → (Instr.loadAt 110 (.pointer (some ⟨q16, 0, none⟩))).run Try.prog w' = .ok (.agg (asV x).toArray) w' := fun w' k => run_ld (cs := asV x) Try.underlying110 rfl i3 (o16.keep k (by simp))
  have hlk : ∀ w', Keep [] w w' → (Instr.lookup 100 (.map (some K)) (.agg (asV x).toArray) false).run Try.prog w' = .ok (.slice ho hn hc) w' := fun w' k => by
    have := run_look Try.underlying100 okA (zBytes w') (m.keep k (by simp)) x false
    rw [hl] at this
    exact this
  obtain ⟨so, sc, hcut, sk, -⟩ := run_cut0 TBy sh (n : Int) n rfl hnn
  rw [Nat.mul_one] at sk
  clear hl m
  conv => arg 2; whnf
  refine wp_region_R (segT w [(8, pN8 w.heap.size n (hs.take n))]) (by kernel_rfl) segT_drew ?_
  unfold segT segK segR
  repeat (first | (refine wpV_skp rfl rfl ?_; simp only [List.set_cons_succ, List.set_cons_zero]) | (refine wpV_val rfl rfl rfl rfl rfl _ (fun w hC => by obtain ⟨n, rfl⟩ := hC; exact exec_load (ldA _ n.h)) ?_; simp only [List.set_cons_succ, List.set_cons_zero]) | (refine wpV_look rfl rfl rfl rfl rfl (fun K hK => ?_); go_big_quiet_op; refine hK _ ?_; clear hK K))
  refine wpV_val rfl rfl rfl rfl rfl _ (fun w hC => by obtain ⟨n, rfl⟩ := hC; exact exec_look (hlk _ n.h)) ?_
  simp only [List.set_cons_succ, List.set_cons_zero]
  repeat (first | (refine wpV_skp rfl rfl ?_; simp only [List.set_cons_succ, List.set_cons_zero]) | (refine wpV_look rfl rfl rfl rfl rfl (fun K hK => ?_); go_big_quiet_op; refine hK _ ?_; clear hK K))
  refine wpV_mk rfl rfl rfl [] (by kernel_rfl) (fun vs w7 hC hF => yields_call (by kernel_rfl) ?_) (fun vs v w7 hC hV hF => ?_)
  · obtain ⟨⟨w7, hk, -⟩, rfl⟩ := hC
    exact cloneB so n sc _ w7 (sk.keep hk (by simp)) (by omega) _ (fun ao c w8 o8 g8 f8 => ⟨_, rfl, ⟨Keep.of_grow [] g8, trivial⟩, ⟨ao, c, rfl, o8, fun g hg => Nat.le_trans hk.size (f8 g hg)⟩⟩)
  obtain ⟨ao, c, rfl, -⟩ := hV
  clear hC hF w7
  simp only [List.set_cons_succ, List.set_cons_zero]
  repeat (first | (refine wpV_skp rfl rfl ?_; simp only [List.set_cons_succ, List.set_cons_zero]) | (refine wpV_look rfl rfl rfl rfl rfl (fun K hK => ?_); go_big_quiet_op; refine hK _ ?_; clear hK K))
  refine wpV_nil ?_
  intro w9 hC hF
  obtain ⟨ao', c', e, o, f⟩ := (hF 8).2 rfl
  cases e
  obtain ⟨⟨w9, hk9, -⟩, rfl⟩ := hC
  exact hQ ao c w9 o hk9.grow f
end Go.Proofs.Ytfmnkcmicbnfdaa
