/- The walk of ClaimsBook: its hard regions. -/
import Derived.Test.YtaepfkpfageiaaaBlkC
import Derived.Test.YtaepfkpfageiaaaActFew
import Derived.Test.YtaepfkpfageiaaaLClOr
import Derived.Test.YtaepfkpfageiaaaRFram
import Derived.Test.YtaepfkpfageiaaaRegG
namespace Go.Proofs.Ytaepfkpfageiaaa
open Go Go.RowKit

theorem ldK {t : TypeId} {d : TypeDesc} {P : Program} (hu : P.underlying t = some d) (hd : d.isRow = true) {w : World} {g o : Nat} {cs : List Value} (hi : (P.info? t).map (·.size) = some cs.length) (h : Cells w g o cs) : (Instr.loadAt t (.pointer (some ⟨g, o, none⟩))).run P w = .ok (.agg cs.toArray) w := run_ld hu hd hi h


set_option maxRecDepth 100000 in
set_option maxHeartbeats 1000000 in
theorem clBk17 (p : Nat) (ao : Option Addr) (n c : Nat) (cs : List Clm) (x : Clm) (q7 q9 : Nat) (kd ks ps ts : Value) (V : List Value) (hVl : V.length = 32) (heq : ∀ w, (Op.equalIn 10000 27 (.agg V.toArray) (.agg V.toArray)).run Try.prog w = .ok true w) {c0 c1 c2 c3 c5 c6 c8 c10 c11 c12 c13 c14 c15 c16 c17 c18 c19 c20 c21 c22 c23 c24 c25 c26 c27 c28 c29 c30 c31 c32 c33 c34 c35 c36 c37 c38 c39 c40 c41 c42 c43 c44 c45 c46 c47 c48 c49 c50 c51 c52 c53 c54 c55 c56 c57 c58 c59 c60 c61 c62 c63 c64 c65 c66 c67 c68 c69 c70 c71 c72 c73 c74 c75 c76 c77 c78 c79 c80 c81 c82 c83 c84 c85 c86 c87 c88 c89 c90 c91 c92 c93 c94 c95 c96 c97 c98 c99 c100 c101 c102 c103 c104 c105 c106 c107 c108 : Value} (w w4 : World) (G4 : Grow w w4) (bk : Bk w4 p ao n c cs) (F4 : Fr (p :: blk ao) w)
    (o7 : Cells w4 q7 0 [kd, ks, ps, ts]) (o9 : Cells w4 q9 0 V) (D7 : q7 ∉ p :: blk ao) (D9 : q9 ∉ p :: blk ao)
    (hmk : ∀ w', Bk w' p ao n c cs → Grow w w' → ∀ R : Ending → World → Prop, (∀ ao' c' w'', Bk w'' p ao' (n + 1) c' (cs ++ [x]) → Keep (p :: blk ao) w' w'' → (∀ g ∈ blk ao', g ∈ blk ao ∨ w'.heap.size ≤ g) → R (.returned (.agg V.toArray)) w'') → Calls Try.prog 45 #[.pointer (some ⟨p, 0, none⟩), ks, ps] w' R)
    {Q : Exit → Act → World → Prop}
    (hQ : ∀ (ao' : Option Addr) (c' : Nat) (w' : World), Bk w' p ao' (n + 1) c' (cs ++ [x]) → Keep (p :: blk ao) w4 w' → (∀ g ∈ blk ao', g ∈ blk ao ∨ w4.heap.size ≤ g) → ∀ {u49 u50 u51 u52 u53 u54 u55 : Value}, Q .normal ⟨List.toArray (c0 :: c1 :: c2 :: c3 :: .pointer (some ⟨p, 0, none⟩) :: c5 :: c6 :: .pointer (some ⟨q7, 0, none⟩) :: c8 :: .pointer (some ⟨q9, 0, none⟩) :: c10 :: c11 :: c12 :: c13 :: c14 :: c15 :: c16 :: c17 :: c18 :: c19 :: c20 :: c21 :: c22 :: c23 :: c24 :: c25 :: c26 :: c27 :: c28 :: c29 :: c30 :: c31 :: c32 :: c33 :: c34 :: c35 :: c36 :: c37 :: c38 :: c39 :: c40 :: c41 :: c42 :: c43 :: c44 :: c45 :: c46 :: c47 :: c48 :: u49 :: u50 :: u51 :: u52 :: u53 :: u54 :: u55 :: .bool false :: c57 :: c58 :: c59 :: c60 :: c61 :: c62 :: c63 :: c64 :: c65 :: c66 :: c67 :: c68 :: c69 :: c70 :: c71 :: c72 :: c73 :: c74 :: c75 :: c76 :: c77 :: c78 :: c79 :: c80 :: c81 :: c82 :: c83 :: c84 :: c85 :: c86 :: c87 :: c88 :: c89 :: c90 :: c91 :: c92 :: c93 :: c94 :: c95 :: c96 :: c97 :: c98 :: c99 :: c100 :: c101 :: c102 :: c103 :: c104 :: c105 :: c106 :: c107 :: c108 :: []), []⟩ w') :
    Code.wp Try.prog (regionAt Try.f14 17) Q ⟨List.toArray (c0 :: c1 :: c2 :: c3 :: .pointer (some ⟨p, 0, none⟩) :: c5 :: c6 :: .pointer (some ⟨q7, 0, none⟩) :: c8 :: .pointer (some ⟨q9, 0, none⟩) :: c10 :: c11 :: c12 :: c13 :: c14 :: c15 :: c16 :: c17 :: c18 :: c19 :: c20 :: c21 :: c22 :: c23 :: c24 :: c25 :: c26 :: c27 :: c28 :: c29 :: c30 :: c31 :: c32 :: c33 :: c34 :: c35 :: c36 :: c37 :: c38 :: c39 :: c40 :: c41 :: c42 :: c43 :: c44 :: c45 :: c46 :: c47 :: c48 :: c49 :: c50 :: c51 :: c52 :: c53 :: c54 :: c55 :: c56 :: c57 :: c58 :: c59 :: c60 :: c61 :: c62 :: c63 :: c64 :: c65 :: c66 :: c67 :: c68 :: c69 :: c70 :: c71 :: c72 :: c73 :: c74 :: c75 :: c76 :: c77 :: c78 :: c79 :: c80 :: c81 :: c82 :: c83 :: c84 :: c85 :: c86 :: c87 :: c88 :: c89 :: c90 :: c91 :: c92 :: c93 :: c94 :: c95 :: c96 :: c97 :: c98 :: c99 :: c100 :: c101 :: c102 :: c103 :: c104 :: c105 :: c106 :: c107 :: c108 :: []), []⟩ w4 := by
  have hml : maxLen = 9223372036854775807 := rfl
  have i32 : (Try.prog.info? 27).map (·.size) = some V.length := by rw [hVl]; kernel_rfl
  have d1 := o7.at (i := 1) rfl
  have d2 := o7.at (i := 2) rfl
  simp only [Nat.zero_add] at d1 d2
  conv => arg 2; whnf
  let W : Nat → Array Value → Value → World → Prop := fun j _ v w' =>
    (j = 2 → v = ks) ∧ (j = 4 → v = ps) ∧ (j = 5 → v = .agg V.toArray ∧ ∃ ao' c', Bk w' p ao' (n + 1) c' (cs ++ [x]) ∧ ∀ g ∈ blk ao', g ∈ blk ao ∨ w4.heap.size ≤ g) ∧ (j = 6 → v = .agg V.toArray)
  refine RC.wp_region_X (RC.segX w w (Grow.refl w) [2, 4, 5, 6] [(5, 99)] (fun i x _ => i = 5 ∧ x ∈ p :: blk ao) W ?_) (fun w' => Bk w' p ao n c cs) (fun w' => Keep (p :: blk ao) w4 w') (by kernel_rfl) ⟨⟨w4.drew, Keep.of_grow [] (G4.trans (Grow.drew w4)), trivial⟩, rfl⟩ (bk.grow (Grow.drew w4)) (Keep.drew _ w4) ?_ ?_
  · rintro i j vs' v wa wb fp hij hkl hgr kp hok ⟨v2, v4, v5, v6⟩
    refine ⟨v2, v4, fun hj => ?_, v6⟩
    have : fp = [] := List.eq_nil_iff_forall_not_mem.2 fun x hx => hij (((hok x hx).2.1).trans hj.symm)
    subst this
    obtain ⟨hv, ao', c', hb, hg⟩ := v5 hj
    exact ⟨hv, ao', c', hb.keep kp (by simp) (by simp), hg⟩
  · rintro i w7 w8 hC ⟨fp, kp, hok⟩
    refine ⟨?_, fun h => h.trans (kp.mono fun x hx => (hok x hx).2.2)⟩
    by_cases e : i = 5
    · subst e; exact .inl (by simp [RC.segX])
    · have : fp = [] := List.eq_nil_iff_forall_not_mem.2 fun x hx => e (hok x hx).2.1
      subst this
      exact .inr fun h => h.keep kp (by simp) (by simp)
  unfold RC.segX
  repeat (first | (refine RC.wpV_skp rfl rfl ?_; simp only [List.set_cons_succ, List.set_cons_zero]) | (refine RC.wpV_look rfl rfl rfl rfl rfl (fun K hK => ?_); go_big_quiet_op; refine hK _ ?_; clear hK K) | (refine RC.wpV_free rfl rfl rfl rfl (fun K hK => ?_); unfold RC.Base; go_big_quiet_op; refine hK _ ?_; clear hK K))
  refine RC.wpV_mk rfl rfl rfl [98] (by kernel_rfl) (fun vs7 w7 hC hF => ?_) (fun vs7 v w7 hC hV hF => ?_)
  · have h98 := (hF 98 (by simp)).2 rfl
    have c7 := h98.cell d1 (by simpa using D7)
    obtain ⟨⟨w7, hk, -⟩, rfl⟩ := hC
    unfold yields
    go_simp
    exact ⟨⟨[], Keep.refl _ _, by simp⟩, by simp [W]⟩
  obtain rfl := hV.1 rfl
  clear hV hC hF w7
  simp only [List.set_cons_succ, List.set_cons_zero]
  repeat (first | (refine RC.wpV_skp rfl rfl ?_; simp only [List.set_cons_succ, List.set_cons_zero]) | (refine RC.wpV_look rfl rfl rfl rfl rfl (fun K hK => ?_); go_big_quiet_op; refine hK _ ?_; clear hK K) | (refine RC.wpV_free rfl rfl rfl rfl (fun K hK => ?_); unfold RC.Base; go_big_quiet_op; refine hK _ ?_; clear hK K))
  refine RC.wpV_mk rfl rfl rfl [98] (by kernel_rfl) (fun vs7 w7 hC hF => ?_) (fun vs7 v w7 hC hV hF => ?_)
  · have h98 := ((hF 98 (by simp)).1.resolve_left (by simp)).2 rfl
    have c7 := h98.cell d2 (by simpa using D7)
    obtain ⟨⟨w7, hk, -⟩, rfl⟩ := hC
    unfold yields
    go_simp
    exact ⟨⟨[], Keep.refl _ _, by simp⟩, by simp [W]⟩
  obtain rfl := hV.2.1 rfl
  clear hV hC hF w7
  simp only [List.set_cons_succ, List.set_cons_zero]
  refine RC.wpV_mk rfl rfl rfl [98, 99] (by kernel_rfl) (fun vs7 w7 hC hF => yields_call (by kernel_rfl) ?_) (fun vs7 v w7 hC hV hF => ?_)
  · have h98 := (((hF 98 (by simp)).1.resolve_left (by simp)).1.resolve_left (by simp)).2 rfl
    have h99 := (((hF 99 (by simp)).1.resolve_left (by simp)).1.resolve_left (by simp)).1 rfl
    obtain ⟨⟨w7, hk, -⟩, rfl⟩ := hC
    exact hmk w7 h99 hk.grow _ (fun ao' c' w8 bk8 k8 b8 => ⟨_, rfl, ⟨p :: blk ao, k8, fun x hx => ⟨F4 x hx, rfl, hx⟩⟩, by simp, by simp, fun _ => ⟨rfl, ao', c', bk8, fun g hg => (b8 g hg).imp id fun h => Nat.le_trans h98.size h⟩, by simp⟩)
  obtain ⟨rfl, -⟩ := hV.2.2.1 rfl
  clear hV hC hF w7
  simp only [List.set_cons_succ, List.set_cons_zero]
  repeat (first | (refine RC.wpV_skp rfl rfl ?_; simp only [List.set_cons_succ, List.set_cons_zero]) | (refine RC.wpV_look rfl rfl rfl rfl rfl (fun K hK => ?_); go_big_quiet_op; refine hK _ ?_; clear hK K) | (refine RC.wpV_free rfl rfl rfl rfl (fun K hK => ?_); unfold RC.Base; go_big_quiet_op; refine hK _ ?_; clear hK K))
  refine RC.wpV_mk rfl rfl rfl [98] (by kernel_rfl) (fun vs7 w7 hC hF => ?_) (fun vs7 v w7 hC hV hF => ?_)
  · have h98 := ((((hF 98 (by simp)).1.resolve_left (by simp)).1.resolve_left (by simp)).1.resolve_left (by simp)).2 rfl
    obtain ⟨⟨w7, hk, -⟩, rfl⟩ := hC
    exact yields_run (exec_load (ldK Try.underlying27 rfl i32 (o9.keep h98 D9))) ⟨⟨[], Keep.refl _ _, by simp⟩, by simp [W]⟩
  obtain rfl := hV.2.2.2 rfl
  clear hV hC hF w7
  simp only [List.set_cons_succ, List.set_cons_zero]
  repeat (first | (refine RC.wpV_skp rfl rfl ?_; simp only [List.set_cons_succ, List.set_cons_zero]) | (refine RC.wpV_look rfl rfl rfl rfl rfl (fun K hK => ?_); go_big_quiet_op; refine hK _ ?_; clear hK K) | (refine RC.wpV_free rfl rfl rfl rfl (fun K hK => ?_); unfold RC.Base; go_big_quiet_op; refine hK _ ?_; clear hK K))
  refine RC.wpV_nil ?_
  intro w9 hC hF
  obtain ⟨-, ao', c', bk9, b9⟩ := ((hF 5).1.resolve_left (by simp)).2 rfl |>.2.2.1 rfl
  have h98 := (((((hF 98).1.resolve_left (by simp)).1.resolve_left (by simp)).1.resolve_left (by simp)).1.resolve_left (by simp)).2 rfl
  exact hQ ao' c' w9 bk9 h98 b9


set_option maxRecDepth 100000 in
set_option maxHeartbeats 1000000 in
theorem clBk22 (p : Nat) (ao : Option Addr) (n c : Nat) (cs : List Clm) (x : Clm) (q7 q9 : Nat) (kd ks ps ts : Value) (V : List Value) (SA : Array Value) (hVl : V.length = 32) {c0 c1 c2 c3 c5 c6 c8 c10 c11 c12 c13 c14 c15 c16 c17 c18 c19 c20 c21 c22 c23 c24 c25 c26 c27 c28 c29 c30 c31 c32 c33 c34 c35 c36 c37 c38 c39 c40 c41 c42 c43 c44 c45 c46 c47 c48 c49 c50 c51 c52 c53 c54 c55 c56 c57 c58 c59 c60 c61 c62 c63 c64 c65 c66 c67 c68 c69 c70 c71 c72 c73 c74 c75 c76 c77 c78 c79 c80 c81 c82 c83 c84 c85 c86 c87 c88 c89 c90 c91 c92 c93 c94 c95 c96 c97 c98 c99 c100 c101 c102 c103 c104 c105 c106 c107 c108 : Value} (w w4 : World) (G4 : Grow w w4) (bk : Bk w4 p ao n c cs)
    (o7 : Cells w4 q7 0 [kd, ks, ps, ts]) (o9 : Cells w4 q9 0 V)
    (hsh : ∀ w (R : Ending → World → Prop), (∀ w', Grow w w' → R (.returned (.agg SA)) w') → Calls Try.prog 27 #[.agg V.toArray] w R)
    (hck : ∀ w', Bk w' p ao n c cs → Grow w w' → ∀ R : Ending → World → Prop, (∀ ao' c' w'', Bk w'' p ao' (n + 1) c' (cs ++ [x]) → Keep (p :: blk ao) w' w'' → (∀ g ∈ blk ao', g ∈ blk ao ∨ w'.heap.size ≤ g) → R (.returned (.bool true)) w'') → Calls Try.prog 46 #[.pointer (some ⟨p, 0, none⟩), ks, .agg SA, ps] w' R)
    {Q : Exit → Act → World → Prop}
    (hQ : ∀ (ao' : Option Addr) (c' : Nat) (w' : World), Bk w' p ao' (n + 1) c' (cs ++ [x]) → Keep (p :: blk ao) w4 w' → (∀ g ∈ blk ao', g ∈ blk ao ∨ w4.heap.size ≤ g) → ∀ {u64 u65 u66 u67 u68 u69 u70 u71 : Value}, Q .normal ⟨List.toArray (c0 :: c1 :: c2 :: c3 :: .pointer (some ⟨p, 0, none⟩) :: c5 :: c6 :: .pointer (some ⟨q7, 0, none⟩) :: c8 :: .pointer (some ⟨q9, 0, none⟩) :: c10 :: c11 :: c12 :: c13 :: c14 :: c15 :: c16 :: c17 :: c18 :: c19 :: c20 :: c21 :: c22 :: c23 :: c24 :: c25 :: c26 :: c27 :: c28 :: c29 :: c30 :: c31 :: c32 :: c33 :: c34 :: c35 :: c36 :: c37 :: c38 :: c39 :: c40 :: c41 :: c42 :: c43 :: c44 :: c45 :: c46 :: c47 :: c48 :: c49 :: c50 :: c51 :: c52 :: c53 :: c54 :: c55 :: c56 :: c57 :: c58 :: c59 :: c60 :: c61 :: c62 :: c63 :: u64 :: u65 :: u66 :: u67 :: u68 :: u69 :: u70 :: u71 :: .bool false :: c73 :: c74 :: c75 :: c76 :: c77 :: c78 :: c79 :: c80 :: c81 :: c82 :: c83 :: c84 :: c85 :: c86 :: c87 :: c88 :: c89 :: c90 :: c91 :: c92 :: c93 :: c94 :: c95 :: c96 :: c97 :: c98 :: c99 :: c100 :: c101 :: c102 :: c103 :: c104 :: c105 :: c106 :: c107 :: c108 :: []), []⟩ w') :
    Code.wp Try.prog (regionAt Try.f14 22) Q ⟨List.toArray (c0 :: c1 :: c2 :: c3 :: .pointer (some ⟨p, 0, none⟩) :: c5 :: c6 :: .pointer (some ⟨q7, 0, none⟩) :: c8 :: .pointer (some ⟨q9, 0, none⟩) :: c10 :: c11 :: c12 :: c13 :: c14 :: c15 :: c16 :: c17 :: c18 :: c19 :: c20 :: c21 :: c22 :: c23 :: c24 :: c25 :: c26 :: c27 :: c28 :: c29 :: c30 :: c31 :: c32 :: c33 :: c34 :: c35 :: c36 :: c37 :: c38 :: c39 :: c40 :: c41 :: c42 :: c43 :: c44 :: c45 :: c46 :: c47 :: c48 :: c49 :: c50 :: c51 :: c52 :: c53 :: c54 :: c55 :: c56 :: c57 :: c58 :: c59 :: c60 :: c61 :: c62 :: c63 :: c64 :: c65 :: c66 :: c67 :: c68 :: c69 :: c70 :: c71 :: c72 :: c73 :: c74 :: c75 :: c76 :: c77 :: c78 :: c79 :: c80 :: c81 :: c82 :: c83 :: c84 :: c85 :: c86 :: c87 :: c88 :: c89 :: c90 :: c91 :: c92 :: c93 :: c94 :: c95 :: c96 :: c97 :: c98 :: c99 :: c100 :: c101 :: c102 :: c103 :: c104 :: c105 :: c106 :: c107 :: c108 :: []), []⟩ w4 := by
  have hml : maxLen = 9223372036854775807 := rfl
  have i32 : (Try.prog.info? 27).map (·.size) = some V.length := by rw [hVl]; kernel_rfl
  have d1 := KW.cell (fp := []) (p0 := tt) (o7.at (i := 1) rfl) (by simp)
  have d2 := KW.cell (fp := []) (p0 := tt) (o7.at (i := 2) rfl) (by simp)
  simp only [Nat.zero_add] at d1 d2
  have ldH : ∀ w', Keep [] w4 w' → (Instr.loadAt 27 (.pointer (some ⟨q9, 0, none⟩))).run Try.prog w' = .ok (.agg V.toArray) w' := fun w' k => ldK Try.underlying27 rfl i32 (o9.keep k (by simp))
  conv => arg 2; whnf
  refine wp_region_R (segT w4 [(4, pIs (.agg SA))]) (by kernel_rfl) segT_drew ?_
  unfold segT segK segR
  repeat (first | (refine wpV_skp rfl rfl ?_; simp only [List.set_cons_succ, List.set_cons_zero]) | (refine wpV_val rfl rfl rfl rfl rfl _ (fun w hC => by obtain ⟨n, rfl⟩ := hC; exact exec_load (ldH _ n.h)) ?_; simp only [List.set_cons_succ, List.set_cons_zero]) | (refine wpV_look rfl rfl rfl rfl rfl (fun K hK => ?_); go_big_quiet_op; refine hK _ ?_; clear hK K))
  refine wpV_mk rfl rfl rfl [] rfl (fun vs w7 hC _ => yields_call (by kernel_rfl) ?_) (fun vs v w7 hC hV hF => ?_)
  · obtain ⟨⟨w7, hk, -⟩, rfl⟩ := hC
    exact hsh w7 _ (fun w8 g8 => ⟨_, rfl, ⟨Keep.of_grow [] g8, trivial⟩, rfl⟩)
  obtain rfl := hV
  clear hC hF w7
  simp only [List.set_cons_succ, List.set_cons_zero]
  repeat (first | (refine wpV_skp rfl rfl ?_; simp only [List.set_cons_succ, List.set_cons_zero]) | (refine wpV_look rfl rfl rfl rfl rfl (fun K hK => ?_); go_big_quiet_op; refine hK _ ?_; clear hK K))
  refine wpV_tn rfl rfl (by kernel_rfl) (fun w7 hC hF => yields_call (by kernel_rfl) ?_)
  obtain ⟨⟨w7, hk, -⟩, rfl⟩ := hC
  refine hck w7 (bk.keep hk (by simp) (by simp)) (G4.trans hk.grow) _ ?_
  intro ao' c' w8 bk8 k8 b8
  refine ⟨_, rfl, segL w8, segL_at, ?_⟩
  have K8 := (Keep.of_nil (fp := p :: blk ao) hk).trans k8
  have B8 := fun g hg => (b8 g hg).imp id fun h => Nat.le_trans hk.size h
  clear hF k8 b8 hk hck hsh ldH d1 d2
  unfold segL segK segR
  simp only [List.set_cons_succ, List.set_cons_zero]
  repeat (first | (refine wpV_skp rfl rfl ?_; simp only [List.set_cons_succ, List.set_cons_zero]) | (refine wpV_look rfl rfl rfl rfl rfl (fun K hK => ?_); go_big_quiet_op; refine hK _ ?_; clear hK K))
  refine wpV_nil ?_
  intro w9 hC hF
  obtain ⟨⟨w9, hkw9, -⟩, rfl⟩ := hC
  clear hF
  exact hQ ao' c' w9 (bk8.keep hkw9 (by simp) (by simp)) (K8.trans (Keep.of_nil hkw9)) B8


set_option maxRecDepth 100000 in
set_option maxHeartbeats 1000000 in
theorem clBk27 (p : Nat) (ao : Option Addr) (n c : Nat) (cs : List Clm) (x : Clm) (e : Bool) (q7 q9 q11 : Nat) (kd ks ps ts : Value) (V X : List Value) (SA : Array Value) (hVl : V.length = 32) (hXl : X.length = 16) (heq : ∀ w, (Op.equalIn 10000 34 (.agg X.toArray) (.agg SA)).run Try.prog w = .ok e w) {c0 c1 c2 c3 c5 c6 c8 c10 c12 c13 c14 c15 c16 c17 c18 c19 c20 c21 c22 c23 c24 c25 c26 c27 c28 c29 c30 c31 c32 c33 c34 c35 c36 c37 c38 c39 c40 c41 c42 c43 c44 c45 c46 c47 c48 c49 c50 c51 c52 c53 c54 c55 c56 c57 c58 c59 c60 c61 c62 c63 c64 c65 c66 c67 c68 c69 c70 c71 c72 c73 c74 c75 c76 c77 c78 c79 c80 c81 c82 c83 c84 c85 c86 c87 c88 c89 c90 c91 c92 c93 c94 c95 c96 c97 c98 c99 c100 c101 c102 c103 c104 c105 c106 c107 c108 : Value} (w w4 : World) (G4 : Grow w w4) (bk : Bk w4 p ao n c cs) (F4 : Fr (p :: blk ao) w)
    (o7 : Cells w4 q7 0 [kd, ks, ps, ts]) (o9 : Cells w4 q9 0 V) (o11 : Cells w4 q11 0 X) (D7 : q7 ∉ p :: blk ao) (D9 : q9 ∉ p :: blk ao) (D11 : q11 ∉ p :: blk ao)
    (hsh : ∀ w (R : Ending → World → Prop), (∀ w', Grow w w' → R (.returned (.agg SA)) w') → Calls Try.prog 27 #[.agg V.toArray] w R)
    (hck : ∀ w', Bk w' p ao n c cs → Grow w w' → ∀ R : Ending → World → Prop, (e = true → ∀ ao' c' w'', Bk w'' p ao' (n + 1) c' (cs ++ [x]) → Keep (p :: blk ao) w' w'' → (∀ g ∈ blk ao', g ∈ blk ao ∨ w'.heap.size ≤ g) → R (.returned (.bool true)) w'') → (e = false → ∀ w'', Grow w' w'' → R (.returned (.bool false)) w'') → Calls Try.prog 46 #[.pointer (some ⟨p, 0, none⟩), ks, .agg X.toArray, ps] w' R)
    {Q : Exit → Act → World → Prop}
    (hQ : ∀ (ao' : Option Addr) (n' c' : Nat) (cs' : List Clm) (w' : World), Bk w' p ao' n' c' cs' → (e = true → n' = n + 1 ∧ cs' = cs ++ [x]) → (e = false → n' = n ∧ cs' = cs) → Keep (p :: blk ao) w4 w' → (∀ g ∈ blk ao', g ∈ blk ao ∨ w4.heap.size ≤ g) → ∀ {u82 u83 u84 u85 u86 u87 u88 u89 u90 u91 u92 : Value}, Q .normal ⟨List.toArray (c0 :: c1 :: c2 :: c3 :: .pointer (some ⟨p, 0, none⟩) :: c5 :: c6 :: .pointer (some ⟨q7, 0, none⟩) :: c8 :: .pointer (some ⟨q9, 0, none⟩) :: c10 :: .pointer (some ⟨q11, 0, none⟩) :: c12 :: c13 :: c14 :: c15 :: c16 :: c17 :: c18 :: c19 :: c20 :: c21 :: c22 :: c23 :: c24 :: c25 :: c26 :: c27 :: c28 :: c29 :: c30 :: c31 :: c32 :: c33 :: c34 :: c35 :: c36 :: c37 :: c38 :: c39 :: c40 :: c41 :: c42 :: c43 :: c44 :: c45 :: c46 :: c47 :: c48 :: c49 :: c50 :: c51 :: c52 :: c53 :: c54 :: c55 :: c56 :: c57 :: c58 :: c59 :: c60 :: c61 :: c62 :: c63 :: c64 :: c65 :: c66 :: c67 :: c68 :: c69 :: c70 :: c71 :: c72 :: c73 :: c74 :: c75 :: c76 :: c77 :: c78 :: c79 :: c80 :: c81 :: u82 :: u83 :: u84 :: u85 :: u86 :: u87 :: u88 :: u89 :: u90 :: u91 :: u92 :: .bool false :: c94 :: c95 :: c96 :: c97 :: c98 :: c99 :: c100 :: c101 :: c102 :: c103 :: c104 :: c105 :: c106 :: c107 :: c108 :: []), []⟩ w') :
    Code.wp Try.prog (regionAt Try.f14 27) Q ⟨List.toArray (c0 :: c1 :: c2 :: c3 :: .pointer (some ⟨p, 0, none⟩) :: c5 :: c6 :: .pointer (some ⟨q7, 0, none⟩) :: c8 :: .pointer (some ⟨q9, 0, none⟩) :: c10 :: .pointer (some ⟨q11, 0, none⟩) :: c12 :: c13 :: c14 :: c15 :: c16 :: c17 :: c18 :: c19 :: c20 :: c21 :: c22 :: c23 :: c24 :: c25 :: c26 :: c27 :: c28 :: c29 :: c30 :: c31 :: c32 :: c33 :: c34 :: c35 :: c36 :: c37 :: c38 :: c39 :: c40 :: c41 :: c42 :: c43 :: c44 :: c45 :: c46 :: c47 :: c48 :: c49 :: c50 :: c51 :: c52 :: c53 :: c54 :: c55 :: c56 :: c57 :: c58 :: c59 :: c60 :: c61 :: c62 :: c63 :: c64 :: c65 :: c66 :: c67 :: c68 :: c69 :: c70 :: c71 :: c72 :: c73 :: c74 :: c75 :: c76 :: c77 :: c78 :: c79 :: c80 :: c81 :: c82 :: c83 :: c84 :: c85 :: c86 :: c87 :: c88 :: c89 :: c90 :: c91 :: c92 :: c93 :: c94 :: c95 :: c96 :: c97 :: c98 :: c99 :: c100 :: c101 :: c102 :: c103 :: c104 :: c105 :: c106 :: c107 :: c108 :: []), []⟩ w4 := by
  have hml : maxLen = 9223372036854775807 := rfl
  have i32 : (Try.prog.info? 27).map (·.size) = some V.length := by rw [hVl]; kernel_rfl
  have i16 : (Try.prog.info? 34).map (·.size) = some X.length := by rw [hXl]; kernel_rfl
  have hee : (e == e) = true := by simp
  have d1 := o7.at (i := 1) rfl
  have d2 := o7.at (i := 2) rfl
  simp only [Nat.zero_add] at d1 d2
  conv => arg 2; whnf
  let W : Nat → Array Value → Value → World → Prop := fun j _ v w' =>
    (j = 2 → v = ks) ∧ (j = 3 → v = .agg X.toArray) ∧ (j = 5 → v = ps) ∧ (j = 6 → v = .bool e ∧ (e = true → ∃ ao' c', Bk w' p ao' (n + 1) c' (cs ++ [x]) ∧ ∀ g ∈ blk ao', g ∈ blk ao ∨ w4.heap.size ≤ g) ∧ (e = false → Bk w' p ao n c cs)) ∧ (j = 7 → v = .agg X.toArray) ∧ (j = 8 → v = .agg V.toArray) ∧ (j = 9 → v = .agg SA)
  refine RC.wp_region_X (RC.segX w w (Grow.refl w) [2, 3, 5, 6, 7, 8, 9] [(6, 99)] (fun i x _ => i = 6 ∧ x ∈ p :: blk ao) W ?_) (fun w' => Bk w' p ao n c cs) (fun w' => Keep (p :: blk ao) w4 w') (by kernel_rfl) ⟨⟨w4.drew, Keep.of_grow [] (G4.trans (Grow.drew w4)), trivial⟩, rfl⟩ (bk.grow (Grow.drew w4)) (Keep.drew _ w4) ?_ ?_
  · rintro i j vs' v wa wb fp hij hkl hgr kp hok ⟨v2, v3, v5, v6, v7, v8, v9⟩
    refine ⟨v2, v3, v5, fun hj => ?_, v7, v8, v9⟩
    have : fp = [] := List.eq_nil_iff_forall_not_mem.2 fun x hx => hij (((hok x hx).2.1).trans hj.symm)
    subst this
    obtain ⟨hv, h1, h2⟩ := v6 hj
    refine ⟨hv, fun he => ?_, fun he => (h2 he).keep kp (by simp) (by simp)⟩
    obtain ⟨ao', c', hb, hg⟩ := h1 he
    exact ⟨ao', c', hb.keep kp (by simp) (by simp), hg⟩
  · rintro i w7 w8 hC ⟨fp, kp, hok⟩
    refine ⟨?_, fun h => h.trans (kp.mono fun x hx => (hok x hx).2.2)⟩
    by_cases e : i = 6
    · subst e; exact .inl (by simp [RC.segX])
    · have : fp = [] := List.eq_nil_iff_forall_not_mem.2 fun x hx => e (hok x hx).2.1
      subst this
      exact .inr fun h => h.keep kp (by simp) (by simp)
  unfold RC.segX
  repeat (first | (refine RC.wpV_skp rfl rfl ?_; simp only [List.set_cons_succ, List.set_cons_zero]) | (refine RC.wpV_look rfl rfl rfl rfl rfl (fun K hK => ?_); go_big_quiet_op; refine hK _ ?_; clear hK K) | (refine RC.wpV_free rfl rfl rfl rfl (fun K hK => ?_); unfold RC.Base; go_big_quiet_op; refine hK _ ?_; clear hK K))
  refine RC.wpV_mk rfl rfl rfl [98] (by kernel_rfl) (fun vs7 w7 hC hF => ?_) (fun vs7 v w7 hC hV hF => ?_)
  · have h98 := (hF 98 (by simp)).2 rfl
    have c7 := h98.cell d1 (by simpa using D7)
    obtain ⟨⟨w7, hk, -⟩, rfl⟩ := hC
    unfold yields
    go_simp
    exact ⟨⟨[], Keep.refl _ _, by simp⟩, by simp [W]⟩
  obtain rfl := hV.1 rfl
  clear hV hC hF w7
  simp only [List.set_cons_succ, List.set_cons_zero]
  repeat (first | (refine RC.wpV_skp rfl rfl ?_; simp only [List.set_cons_succ, List.set_cons_zero]) | (refine RC.wpV_look rfl rfl rfl rfl rfl (fun K hK => ?_); go_big_quiet_op; refine hK _ ?_; clear hK K) | (refine RC.wpV_free rfl rfl rfl rfl (fun K hK => ?_); unfold RC.Base; go_big_quiet_op; refine hK _ ?_; clear hK K))
  refine RC.wpV_mk rfl rfl rfl [98] (by kernel_rfl) (fun vs7 w7 hC hF => ?_) (fun vs7 v w7 hC hV hF => ?_)
  · have h98 := ((hF 98 (by simp)).1.resolve_left (by simp)).2 rfl
    obtain ⟨⟨w7, hk, -⟩, rfl⟩ := hC
    exact yields_run (exec_load (ldK Try.underlying34 rfl i16 (o11.keep h98 D11))) ⟨⟨[], Keep.refl _ _, by simp⟩, by simp [W]⟩
  obtain rfl := hV.2.1 rfl
  clear hV hC hF w7
  simp only [List.set_cons_succ, List.set_cons_zero]
  repeat (first | (refine RC.wpV_skp rfl rfl ?_; simp only [List.set_cons_succ, List.set_cons_zero]) | (refine RC.wpV_look rfl rfl rfl rfl rfl (fun K hK => ?_); go_big_quiet_op; refine hK _ ?_; clear hK K) | (refine RC.wpV_free rfl rfl rfl rfl (fun K hK => ?_); unfold RC.Base; go_big_quiet_op; refine hK _ ?_; clear hK K))
  refine RC.wpV_mk rfl rfl rfl [98] (by kernel_rfl) (fun vs7 w7 hC hF => ?_) (fun vs7 v w7 hC hV hF => ?_)
  · have h98 := (((hF 98 (by simp)).1.resolve_left (by simp)).1.resolve_left (by simp)).2 rfl
    have c7 := h98.cell d2 (by simpa using D7)
    obtain ⟨⟨w7, hk, -⟩, rfl⟩ := hC
    unfold yields
    go_simp
    exact ⟨⟨[], Keep.refl _ _, by simp⟩, by simp [W]⟩
  obtain rfl := hV.2.2.1 rfl
  clear hV hC hF w7
  simp only [List.set_cons_succ, List.set_cons_zero]
  refine RC.wpV_mk rfl rfl rfl [98, 99] (by kernel_rfl) (fun vs7 w7 hC hF => yields_call (by kernel_rfl) ?_) (fun vs7 v w7 hC hV hF => ?_)
  · have h98 := ((((hF 98 (by simp)).1.resolve_left (by simp)).1.resolve_left (by simp)).1.resolve_left (by simp)).2 rfl
    have h99 := ((((hF 99 (by simp)).1.resolve_left (by simp)).1.resolve_left (by simp)).1.resolve_left (by simp)).1 rfl
    obtain ⟨⟨w7, hk, -⟩, rfl⟩ := hC
    refine hck w7 h99 hk.grow _ (fun he ao' c' w8 bk8 k8 b8 => ⟨_, rfl, ⟨p :: blk ao, k8, fun x hx => ⟨F4 x hx, rfl, hx⟩⟩, by simp, by simp, by simp, fun _ => ⟨by rw [he], fun _ => ⟨ao', c', bk8, fun g hg => (b8 g hg).imp id fun h => Nat.le_trans h98.size h⟩, fun h => by rw [he] at h; cases h⟩, by simp, by simp, by simp⟩) (fun he w8 g8 => ⟨_, rfl, ⟨[], Keep.of_grow [] g8, by simp⟩, by simp, by simp, by simp, fun _ => ⟨by rw [he], fun h => (by rw [he] at h; cases h), fun _ => h99.grow g8⟩, by simp, by simp, by simp⟩)
  obtain ⟨rfl, -⟩ := hV.2.2.2.1 rfl
  clear hV hC hF w7
  simp only [List.set_cons_succ, List.set_cons_zero]
  repeat (first | (refine RC.wpV_skp rfl rfl ?_; simp only [List.set_cons_succ, List.set_cons_zero]) | (refine RC.wpV_look rfl rfl rfl rfl rfl (fun K hK => ?_); go_big_quiet_op; refine hK _ ?_; clear hK K) | (refine RC.wpV_free rfl rfl rfl rfl (fun K hK => ?_); unfold RC.Base; go_big_quiet_op; refine hK _ ?_; clear hK K))
  refine RC.wpV_mk rfl rfl rfl [98] (by kernel_rfl) (fun vs7 w7 hC hF => ?_) (fun vs7 v w7 hC hV hF => ?_)
  · have h98 := (((((hF 98 (by simp)).1.resolve_left (by simp)).1.resolve_left (by simp)).1.resolve_left (by simp)).1.resolve_left (by simp)).2 rfl
    obtain ⟨⟨w7, hk, -⟩, rfl⟩ := hC
    exact yields_run (exec_load (ldK Try.underlying34 rfl i16 (o11.keep h98 D11))) ⟨⟨[], Keep.refl _ _, by simp⟩, by simp [W]⟩
  obtain rfl := hV.2.2.2.2.1 rfl
  clear hV hC hF w7
  simp only [List.set_cons_succ, List.set_cons_zero]
  repeat (first | (refine RC.wpV_skp rfl rfl ?_; simp only [List.set_cons_succ, List.set_cons_zero]) | (refine RC.wpV_look rfl rfl rfl rfl rfl (fun K hK => ?_); go_big_quiet_op; refine hK _ ?_; clear hK K) | (refine RC.wpV_free rfl rfl rfl rfl (fun K hK => ?_); unfold RC.Base; go_big_quiet_op; refine hK _ ?_; clear hK K))
  refine RC.wpV_mk rfl rfl rfl [98] (by kernel_rfl) (fun vs7 w7 hC hF => ?_) (fun vs7 v w7 hC hV hF => ?_)
  · have h98 := ((((((hF 98 (by simp)).1.resolve_left (by simp)).1.resolve_left (by simp)).1.resolve_left (by simp)).1.resolve_left (by simp)).1.resolve_left (by simp)).2 rfl
    obtain ⟨⟨w7, hk, -⟩, rfl⟩ := hC
    exact yields_run (exec_load (ldK Try.underlying27 rfl i32 (o9.keep h98 D9))) ⟨⟨[], Keep.refl _ _, by simp⟩, by simp [W]⟩
  obtain rfl := hV.2.2.2.2.2.1 rfl
  clear hV hC hF w7
  simp only [List.set_cons_succ, List.set_cons_zero]
  refine RC.wpV_mk rfl rfl rfl [] (by kernel_rfl) (fun vs7 w7 hC hF => yields_call (by kernel_rfl) ?_) (fun vs7 v w7 hC hV hF => ?_)
  · exact hsh w7 _ (fun w8 g8 => ⟨_, rfl, ⟨[], Keep.of_grow [] g8, by simp⟩, by simp [W]⟩)
  obtain rfl := hV.2.2.2.2.2.2 rfl
  clear hV hC hF w7
  simp only [List.set_cons_succ, List.set_cons_zero]
  repeat (first | (refine RC.wpV_skp rfl rfl ?_; simp only [List.set_cons_succ, List.set_cons_zero]) | (refine RC.wpV_look rfl rfl rfl rfl rfl (fun K hK => ?_); go_big_quiet_op; refine hK _ ?_; clear hK K) | (refine RC.wpV_free rfl rfl rfl rfl (fun K hK => ?_); unfold RC.Base; go_big_quiet_op; refine hK _ ?_; clear hK K))
  refine RC.wpV_nil ?_
  intro w9 hC hF
  obtain ⟨-, h1, h2⟩ := ((((hF 6).1.resolve_left (by simp)).1.resolve_left (by simp)).1.resolve_left (by simp)).2 rfl |>.2.2.2.1 rfl
  have h98 := ((((((((hF 98).1.resolve_left (by simp)).1.resolve_left (by simp)).1.resolve_left (by simp)).1.resolve_left (by simp)).1.resolve_left (by simp)).1.resolve_left (by simp)).1.resolve_left (by simp)).2 rfl
  cases e with
  | true =>
    obtain ⟨ao', c', bk9, b9⟩ := h1 rfl
    exact hQ ao' _ c' _ w9 bk9 (fun _ => ⟨rfl, rfl⟩) (fun h => by cases h) h98 b9
  | false => exact hQ ao _ c _ w9 (h2 rfl) (fun h => by cases h) (fun _ => ⟨rfl, rfl⟩) h98 (fun g hg => .inl hg)


set_option maxRecDepth 100000 in
set_option maxHeartbeats 1000000 in
theorem clBk29 (e : Bool) (q9 q11 : Nat) (V X : List Value) (SA : Array Value) (hVl : V.length = 32) (hXl : X.length = 16) (heq : ∀ w, (Op.equalIn 10000 34 (.agg X.toArray) (.agg SA)).run Try.prog w = .ok e w) {c0 c1 c2 c3 c4 c5 c6 c7 c8 c10 c12 c13 c14 c15 c16 c17 c18 c19 c20 c21 c22 c23 c24 c25 c26 c27 c28 c29 c30 c31 c32 c33 c34 c35 c36 c37 c38 c39 c40 c41 c42 c43 c44 c45 c46 c47 c48 c49 c50 c51 c52 c53 c54 c55 c56 c57 c58 c59 c60 c61 c62 c63 c64 c65 c66 c67 c68 c69 c70 c71 c72 c73 c74 c75 c76 c77 c78 c79 c80 c81 c82 c83 c84 c85 c86 c87 c88 c89 c90 c91 c92 c93 c94 c95 c96 c97 c98 c99 c100 c101 c102 c103 c104 c105 c106 c107 c108 : Value} (w4 : World)
    (o9 : Cells w4 q9 0 V) (o11 : Cells w4 q11 0 X)
    (hsh : ∀ w (R : Ending → World → Prop), (∀ w', Grow w w' → R (.returned (.agg SA)) w') → Calls Try.prog 27 #[.agg V.toArray] w R)
    {Q : Exit → Act → World → Prop}
    (hQ : ∀ (w' : World), Keep [] w4 w' → ∀ {u94 u95 u96 : Value}, Q .normal ⟨List.toArray (c0 :: c1 :: c2 :: c3 :: c4 :: c5 :: c6 :: c7 :: c8 :: .pointer (some ⟨q9, 0, none⟩) :: c10 :: .pointer (some ⟨q11, 0, none⟩) :: c12 :: c13 :: c14 :: c15 :: c16 :: c17 :: c18 :: c19 :: c20 :: c21 :: c22 :: c23 :: c24 :: c25 :: c26 :: c27 :: c28 :: c29 :: c30 :: c31 :: c32 :: c33 :: c34 :: c35 :: c36 :: c37 :: c38 :: c39 :: c40 :: c41 :: c42 :: c43 :: c44 :: c45 :: c46 :: c47 :: c48 :: c49 :: c50 :: c51 :: c52 :: c53 :: c54 :: c55 :: c56 :: c57 :: c58 :: c59 :: c60 :: c61 :: c62 :: c63 :: c64 :: c65 :: c66 :: c67 :: c68 :: c69 :: c70 :: c71 :: c72 :: c73 :: c74 :: c75 :: c76 :: c77 :: c78 :: c79 :: c80 :: c81 :: c82 :: c83 :: c84 :: c85 :: c86 :: c87 :: c88 :: c89 :: c90 :: c91 :: c92 :: c93 :: u94 :: u95 :: u96 :: .bool e :: c98 :: c99 :: c100 :: c101 :: c102 :: c103 :: c104 :: c105 :: c106 :: c107 :: c108 :: []), []⟩ w') :
    Code.wp Try.prog (regionAt Try.f14 29) Q ⟨List.toArray (c0 :: c1 :: c2 :: c3 :: c4 :: c5 :: c6 :: c7 :: c8 :: .pointer (some ⟨q9, 0, none⟩) :: c10 :: .pointer (some ⟨q11, 0, none⟩) :: c12 :: c13 :: c14 :: c15 :: c16 :: c17 :: c18 :: c19 :: c20 :: c21 :: c22 :: c23 :: c24 :: c25 :: c26 :: c27 :: c28 :: c29 :: c30 :: c31 :: c32 :: c33 :: c34 :: c35 :: c36 :: c37 :: c38 :: c39 :: c40 :: c41 :: c42 :: c43 :: c44 :: c45 :: c46 :: c47 :: c48 :: c49 :: c50 :: c51 :: c52 :: c53 :: c54 :: c55 :: c56 :: c57 :: c58 :: c59 :: c60 :: c61 :: c62 :: c63 :: c64 :: c65 :: c66 :: c67 :: c68 :: c69 :: c70 :: c71 :: c72 :: c73 :: c74 :: c75 :: c76 :: c77 :: c78 :: c79 :: c80 :: c81 :: c82 :: c83 :: c84 :: c85 :: c86 :: c87 :: c88 :: c89 :: c90 :: c91 :: c92 :: c93 :: c94 :: c95 :: c96 :: c97 :: c98 :: c99 :: c100 :: c101 :: c102 :: c103 :: c104 :: c105 :: c106 :: c107 :: c108 :: []), []⟩ w4 := by
  have hml : maxLen = 9223372036854775807 := rfl
  have i32 : (Try.prog.info? 27).map (·.size) = some V.length := by rw [hVl]; kernel_rfl
  have i16 : (Try.prog.info? 34).map (·.size) = some X.length := by rw [hXl]; kernel_rfl
  have ldH : ∀ w', Keep [] w4 w' → (Instr.loadAt 27 (.pointer (some ⟨q9, 0, none⟩))).run Try.prog w' = .ok (.agg V.toArray) w' := fun w' k => ldK Try.underlying27 rfl i32 (o9.keep k (by simp))
  have ldX : ∀ w', Keep [] w4 w' → (Instr.loadAt 34 (.pointer (some ⟨q11, 0, none⟩))).run Try.prog w' = .ok (.agg X.toArray) w' := fun w' k => ldK Try.underlying34 rfl i16 (o11.keep k (by simp))
  conv => arg 2; whnf
  refine wp_region_R (segT w4 [(2, pIs (.agg SA))]) (by kernel_rfl) segT_drew ?_
  unfold segT segK segR
  repeat (first | (refine wpV_skp rfl rfl ?_; simp only [List.set_cons_succ, List.set_cons_zero]) | (refine wpV_val rfl rfl rfl rfl rfl _ (fun w hC => by obtain ⟨n, rfl⟩ := hC; exact exec_load (ldX _ n.h)) ?_; simp only [List.set_cons_succ, List.set_cons_zero]) | (refine wpV_val rfl rfl rfl rfl rfl _ (fun w hC => by obtain ⟨n, rfl⟩ := hC; exact exec_load (ldH _ n.h)) ?_; simp only [List.set_cons_succ, List.set_cons_zero]) | (refine wpV_look rfl rfl rfl rfl rfl (fun K hK => ?_); go_big_quiet_op; refine hK _ ?_; clear hK K))
  refine wpV_mk rfl rfl rfl [] rfl (fun vs w7 hC _ => yields_call (by kernel_rfl) ?_) (fun vs v w7 hC hV hF => ?_)
  · obtain ⟨⟨w7, hk, -⟩, rfl⟩ := hC
    exact hsh w7 _ (fun w8 g8 => ⟨_, rfl, ⟨Keep.of_grow [] g8, trivial⟩, rfl⟩)
  obtain rfl := hV
  clear hC hF w7
  simp only [List.set_cons_succ, List.set_cons_zero]
  repeat (first | (refine wpV_skp rfl rfl ?_; simp only [List.set_cons_succ, List.set_cons_zero]) | (refine wpV_look rfl rfl rfl rfl rfl (fun K hK => ?_); go_big_quiet_op; refine hK _ ?_; clear hK K))
  refine wpV_nil ?_
  intro w9 hC hF
  obtain ⟨⟨w9, hkw9, -⟩, rfl⟩ := hC
  clear hF
  exact hQ w9 hkw9


set_option maxRecDepth 100000 in
set_option maxHeartbeats 1000000 in
theorem clBk20 (wo : Option Addr) (n wc q10 : Nat) (hn : n ≤ 100) (cs : List Clm) (x : Clm) {c0 c1 c2 c3 c4 c6 c7 c8 c9 c11 c12 c13 c14 c15 c16 c17 c18 c19 c20 c21 c22 c23 c24 c25 c26 c27 c28 c29 c30 c31 c32 c33 c34 c35 c36 c37 c38 c39 c40 c41 c42 c43 c44 c45 c46 c47 c48 c49 c50 c51 c52 c53 c54 c55 c56 c57 c58 c59 c60 c61 c62 c63 c64 c65 c66 c67 c68 c69 c70 c71 c72 c73 c74 c75 c76 c77 c78 c79 c80 c81 c82 c83 c84 c85 c86 c87 c88 c89 c90 c91 c92 c93 c94 c95 c96 c97 c98 c99 c100 c101 c102 c103 c104 c105 c106 c107 c108 : Value} (w : World) (ow : Own w 66 35 wo n wc (clVs cs)) (o10 : Cells w q10 0 (clV x)) {Q : Exit → Act → World → Prop}
    (hQ : ∀ (wo' : Option Addr) (wc' : Nat) (w' : World), Own w' 66 35 wo' (n + 1) wc' (clVs (cs ++ [x])) → Keep (blk wo) w w' → (∀ g ∈ blk wo', g ∈ blk wo ∨ w.heap.size ≤ g) → ∀ {u58 u59 u60 u61 : Value}, Q .normal ⟨List.toArray (c0 :: c1 :: c2 :: c3 :: c4 :: .slice wo' (n + 1) wc' :: c6 :: c7 :: c8 :: c9 :: .pointer (some ⟨q10, 0, none⟩) :: c11 :: c12 :: c13 :: c14 :: c15 :: c16 :: c17 :: c18 :: c19 :: c20 :: c21 :: c22 :: c23 :: c24 :: c25 :: c26 :: c27 :: c28 :: c29 :: c30 :: c31 :: c32 :: c33 :: c34 :: c35 :: c36 :: c37 :: c38 :: c39 :: c40 :: c41 :: c42 :: c43 :: c44 :: c45 :: c46 :: c47 :: c48 :: c49 :: c50 :: c51 :: c52 :: c53 :: c54 :: c55 :: c56 :: c57 :: u58 :: u59 :: u60 :: u61 :: c62 :: c63 :: c64 :: c65 :: c66 :: c67 :: c68 :: c69 :: c70 :: c71 :: c72 :: c73 :: c74 :: c75 :: c76 :: c77 :: c78 :: c79 :: c80 :: c81 :: c82 :: c83 :: c84 :: c85 :: c86 :: c87 :: c88 :: c89 :: c90 :: c91 :: c92 :: c93 :: c94 :: c95 :: c96 :: c97 :: c98 :: c99 :: c100 :: c101 :: c102 :: c103 :: c104 :: c105 :: c106 :: c107 :: c108 :: []), []⟩ w') :
    Code.wp Try.prog (regionAt Try.f14 20) Q ⟨List.toArray (c0 :: c1 :: c2 :: c3 :: c4 :: .slice wo n wc :: c6 :: c7 :: c8 :: c9 :: .pointer (some ⟨q10, 0, none⟩) :: c11 :: c12 :: c13 :: c14 :: c15 :: c16 :: c17 :: c18 :: c19 :: c20 :: c21 :: c22 :: c23 :: c24 :: c25 :: c26 :: c27 :: c28 :: c29 :: c30 :: c31 :: c32 :: c33 :: c34 :: c35 :: c36 :: c37 :: c38 :: c39 :: c40 :: c41 :: c42 :: c43 :: c44 :: c45 :: c46 :: c47 :: c48 :: c49 :: c50 :: c51 :: c52 :: c53 :: c54 :: c55 :: c56 :: c57 :: c58 :: c59 :: c60 :: c61 :: c62 :: c63 :: c64 :: c65 :: c66 :: c67 :: c68 :: c69 :: c70 :: c71 :: c72 :: c73 :: c74 :: c75 :: c76 :: c77 :: c78 :: c79 :: c80 :: c81 :: c82 :: c83 :: c84 :: c85 :: c86 :: c87 :: c88 :: c89 :: c90 :: c91 :: c92 :: c93 :: c94 :: c95 :: c96 :: c97 :: c98 :: c99 :: c100 :: c101 :: c102 :: c103 :: c104 :: c105 :: c106 :: c107 :: c108 :: []), []⟩ w := by
  have hml : maxLen = 9223372036854775807 := rfl
  have hsz : (Try.prog.info? 66).map (·.size) = some (clV x).length := by rw [clV_len]; exact i35
  have hrg : w.rangeAt q10 0 (clV x) := fun j v hj => o10.at hj
  have hca : clVs cs ++ clVs [x] = clVs (cs ++ [x]) := (clVs_app _ _).symm
  conv => arg 2; whnf
  go_wp2_with (first | refine wpList_load_mid rfl 66 _ rfl q10 0 rfl (clV x) _ hrg Try.underlying66 rfl hsz ?_ | (refine wpList_sl1 rfl _ x rfl rfl ?_; intro g1 w1 gs1 sl1; have ow1 := ow.grow gs1; clear ow hrg o10) | (at_builtin; refine wpList_app TCl rfl rfl ow1 sl1 (by omega) (by omega) ?_; intro wo' wc' w2 ow2 _ kp2 bl2; rw [hca] at ow2; have K2 := (Keep.of_grow (blk wo) gs1).trans kp2; have B2 := fun g hg => (bl2 g hg).imp id (Nat.le_trans gs1.size); have hf := @hQ wo' wc' w2 ow2 K2 B2; clear hQ))
  exact hf


set_option maxRecDepth 100000 in
set_option maxHeartbeats 1000000 in
theorem clBk24 (wo : Option Addr) (n wc q10 : Nat) (hn : n ≤ 100) (cs : List Clm) (x : Clm) {c0 c1 c2 c3 c4 c6 c7 c8 c9 c11 c12 c13 c14 c15 c16 c17 c18 c19 c20 c21 c22 c23 c24 c25 c26 c27 c28 c29 c30 c31 c32 c33 c34 c35 c36 c37 c38 c39 c40 c41 c42 c43 c44 c45 c46 c47 c48 c49 c50 c51 c52 c53 c54 c55 c56 c57 c58 c59 c60 c61 c62 c63 c64 c65 c66 c67 c68 c69 c70 c71 c72 c73 c74 c75 c76 c77 c78 c79 c80 c81 c82 c83 c84 c85 c86 c87 c88 c89 c90 c91 c92 c93 c94 c95 c96 c97 c98 c99 c100 c101 c102 c103 c104 c105 c106 c107 c108 : Value} (w : World) (ow : Own w 66 35 wo n wc (clVs cs)) (o10 : Cells w q10 0 (clV x)) {Q : Exit → Act → World → Prop}
    (hQ : ∀ (wo' : Option Addr) (wc' : Nat) (w' : World), Own w' 66 35 wo' (n + 1) wc' (clVs (cs ++ [x])) → Keep (blk wo) w w' → (∀ g ∈ blk wo', g ∈ blk wo ∨ w.heap.size ≤ g) → ∀ {u73 u74 u75 u76 : Value}, Q .normal ⟨List.toArray (c0 :: c1 :: c2 :: c3 :: c4 :: .slice wo' (n + 1) wc' :: c6 :: c7 :: c8 :: c9 :: .pointer (some ⟨q10, 0, none⟩) :: c11 :: c12 :: c13 :: c14 :: c15 :: c16 :: c17 :: c18 :: c19 :: c20 :: c21 :: c22 :: c23 :: c24 :: c25 :: c26 :: c27 :: c28 :: c29 :: c30 :: c31 :: c32 :: c33 :: c34 :: c35 :: c36 :: c37 :: c38 :: c39 :: c40 :: c41 :: c42 :: c43 :: c44 :: c45 :: c46 :: c47 :: c48 :: c49 :: c50 :: c51 :: c52 :: c53 :: c54 :: c55 :: c56 :: c57 :: c58 :: c59 :: c60 :: c61 :: c62 :: c63 :: c64 :: c65 :: c66 :: c67 :: c68 :: c69 :: c70 :: c71 :: c72 :: u73 :: u74 :: u75 :: u76 :: c77 :: c78 :: c79 :: c80 :: c81 :: c82 :: c83 :: c84 :: c85 :: c86 :: c87 :: c88 :: c89 :: c90 :: c91 :: c92 :: c93 :: c94 :: c95 :: c96 :: c97 :: c98 :: c99 :: c100 :: c101 :: c102 :: c103 :: c104 :: c105 :: c106 :: c107 :: c108 :: []), []⟩ w') :
    Code.wp Try.prog (regionAt Try.f14 24) Q ⟨List.toArray (c0 :: c1 :: c2 :: c3 :: c4 :: .slice wo n wc :: c6 :: c7 :: c8 :: c9 :: .pointer (some ⟨q10, 0, none⟩) :: c11 :: c12 :: c13 :: c14 :: c15 :: c16 :: c17 :: c18 :: c19 :: c20 :: c21 :: c22 :: c23 :: c24 :: c25 :: c26 :: c27 :: c28 :: c29 :: c30 :: c31 :: c32 :: c33 :: c34 :: c35 :: c36 :: c37 :: c38 :: c39 :: c40 :: c41 :: c42 :: c43 :: c44 :: c45 :: c46 :: c47 :: c48 :: c49 :: c50 :: c51 :: c52 :: c53 :: c54 :: c55 :: c56 :: c57 :: c58 :: c59 :: c60 :: c61 :: c62 :: c63 :: c64 :: c65 :: c66 :: c67 :: c68 :: c69 :: c70 :: c71 :: c72 :: c73 :: c74 :: c75 :: c76 :: c77 :: c78 :: c79 :: c80 :: c81 :: c82 :: c83 :: c84 :: c85 :: c86 :: c87 :: c88 :: c89 :: c90 :: c91 :: c92 :: c93 :: c94 :: c95 :: c96 :: c97 :: c98 :: c99 :: c100 :: c101 :: c102 :: c103 :: c104 :: c105 :: c106 :: c107 :: c108 :: []), []⟩ w := by
  have hml : maxLen = 9223372036854775807 := rfl
  have hsz : (Try.prog.info? 66).map (·.size) = some (clV x).length := by rw [clV_len]; exact i35
  have hrg : w.rangeAt q10 0 (clV x) := fun j v hj => o10.at hj
  have hca : clVs cs ++ clVs [x] = clVs (cs ++ [x]) := (clVs_app _ _).symm
  conv => arg 2; whnf
  go_wp2_with (first | refine wpList_load_mid rfl 66 _ rfl q10 0 rfl (clV x) _ hrg Try.underlying66 rfl hsz ?_ | (refine wpList_sl1 rfl _ x rfl rfl ?_; intro g1 w1 gs1 sl1; have ow1 := ow.grow gs1; clear ow hrg o10) | (at_builtin; refine wpList_app TCl rfl rfl ow1 sl1 (by omega) (by omega) ?_; intro wo' wc' w2 ow2 _ kp2 bl2; rw [hca] at ow2; have K2 := (Keep.of_grow (blk wo) gs1).trans kp2; have B2 := fun g hg => (bl2 g hg).imp id (Nat.le_trans gs1.size); have hf := @hQ wo' wc' w2 ow2 K2 B2; clear hQ))
  exact hf


set_option maxRecDepth 100000 in
set_option maxHeartbeats 1000000 in
theorem clBk30 (wo : Option Addr) (n wc q10 : Nat) (hn : n ≤ 100) (cs : List Clm) (x : Clm) {c0 c1 c2 c3 c4 c6 c7 c8 c9 c11 c12 c13 c14 c15 c16 c17 c18 c19 c20 c21 c22 c23 c24 c25 c26 c27 c28 c29 c30 c31 c32 c33 c34 c35 c36 c37 c38 c39 c40 c41 c42 c43 c44 c45 c46 c47 c48 c49 c50 c51 c52 c53 c54 c55 c56 c57 c58 c59 c60 c61 c62 c63 c64 c65 c66 c67 c68 c69 c70 c71 c72 c73 c74 c75 c76 c77 c78 c79 c80 c81 c82 c83 c84 c85 c86 c87 c88 c89 c90 c91 c92 c93 c94 c95 c96 c97 c98 c99 c100 c101 c102 c103 c104 c105 c106 c107 c108 : Value} (w : World) (ow : Own w 66 35 wo n wc (clVs cs)) (o10 : Cells w q10 0 (clV x)) {Q : Exit → Act → World → Prop}
    (hQ : ∀ (wo' : Option Addr) (wc' : Nat) (w' : World), Own w' 66 35 wo' (n + 1) wc' (clVs (cs ++ [x])) → Keep (blk wo) w w' → (∀ g ∈ blk wo', g ∈ blk wo ∨ w.heap.size ≤ g) → ∀ {u98 u99 u100 u101 : Value}, Q .normal ⟨List.toArray (c0 :: c1 :: c2 :: c3 :: c4 :: .slice wo' (n + 1) wc' :: c6 :: c7 :: c8 :: c9 :: .pointer (some ⟨q10, 0, none⟩) :: c11 :: c12 :: c13 :: c14 :: c15 :: c16 :: c17 :: c18 :: c19 :: c20 :: c21 :: c22 :: c23 :: c24 :: c25 :: c26 :: c27 :: c28 :: c29 :: c30 :: c31 :: c32 :: c33 :: c34 :: c35 :: c36 :: c37 :: c38 :: c39 :: c40 :: c41 :: c42 :: c43 :: c44 :: c45 :: c46 :: c47 :: c48 :: c49 :: c50 :: c51 :: c52 :: c53 :: c54 :: c55 :: c56 :: c57 :: c58 :: c59 :: c60 :: c61 :: c62 :: c63 :: c64 :: c65 :: c66 :: c67 :: c68 :: c69 :: c70 :: c71 :: c72 :: c73 :: c74 :: c75 :: c76 :: c77 :: c78 :: c79 :: c80 :: c81 :: c82 :: c83 :: c84 :: c85 :: c86 :: c87 :: c88 :: c89 :: c90 :: c91 :: c92 :: c93 :: c94 :: c95 :: c96 :: c97 :: u98 :: u99 :: u100 :: u101 :: c102 :: c103 :: c104 :: c105 :: c106 :: c107 :: c108 :: []), []⟩ w') :
    Code.wp Try.prog (regionAt Try.f14 30) Q ⟨List.toArray (c0 :: c1 :: c2 :: c3 :: c4 :: .slice wo n wc :: c6 :: c7 :: c8 :: c9 :: .pointer (some ⟨q10, 0, none⟩) :: c11 :: c12 :: c13 :: c14 :: c15 :: c16 :: c17 :: c18 :: c19 :: c20 :: c21 :: c22 :: c23 :: c24 :: c25 :: c26 :: c27 :: c28 :: c29 :: c30 :: c31 :: c32 :: c33 :: c34 :: c35 :: c36 :: c37 :: c38 :: c39 :: c40 :: c41 :: c42 :: c43 :: c44 :: c45 :: c46 :: c47 :: c48 :: c49 :: c50 :: c51 :: c52 :: c53 :: c54 :: c55 :: c56 :: c57 :: c58 :: c59 :: c60 :: c61 :: c62 :: c63 :: c64 :: c65 :: c66 :: c67 :: c68 :: c69 :: c70 :: c71 :: c72 :: c73 :: c74 :: c75 :: c76 :: c77 :: c78 :: c79 :: c80 :: c81 :: c82 :: c83 :: c84 :: c85 :: c86 :: c87 :: c88 :: c89 :: c90 :: c91 :: c92 :: c93 :: c94 :: c95 :: c96 :: c97 :: c98 :: c99 :: c100 :: c101 :: c102 :: c103 :: c104 :: c105 :: c106 :: c107 :: c108 :: []), []⟩ w := by
  have hml : maxLen = 9223372036854775807 := rfl
  have hsz : (Try.prog.info? 66).map (·.size) = some (clV x).length := by rw [clV_len]; exact i35
  have hrg : w.rangeAt q10 0 (clV x) := fun j v hj => o10.at hj
  have hca : clVs cs ++ clVs [x] = clVs (cs ++ [x]) := (clVs_app _ _).symm
  conv => arg 2; whnf
  go_wp2_with (first | refine wpList_load_mid rfl 66 _ rfl q10 0 rfl (clV x) _ hrg Try.underlying66 rfl hsz ?_ | (refine wpList_sl1 rfl _ x rfl rfl ?_; intro g1 w1 gs1 sl1; have ow1 := ow.grow gs1; clear ow hrg o10) | (at_builtin; refine wpList_app TCl rfl rfl ow1 sl1 (by omega) (by omega) ?_; intro wo' wc' w2 ow2 _ kp2 bl2; rw [hca] at ow2; have K2 := (Keep.of_grow (blk wo) gs1).trans kp2; have B2 := fun g hg => (bl2 g hg).imp id (Nat.le_trans gs1.size); have hf := @hQ wo' wc' w2 ow2 K2 B2; clear hQ))
  exact hf

end Go.Proofs.Ytaepfkpfageiaaa
