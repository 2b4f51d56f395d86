/- The walk of ClaimsFrames. -/
import Derived.Test.YtaepfkpfageiaaaLClKe
import Derived.Test.YtaepfkpfageiaaaRegG
import Derived.Test.YtaepfkpfageiaaaRound
namespace Go.Proofs.Ytaepfkpfageiaaa
open Go Go.RowKit

theorem clash_2 (k f1 f2 : List UInt8) (h : (f1 == f2) = false) : clashS [clmS k f1 true, clmS k f2 true] = (shortS (macS k f1) == shortS (macS k f2)) := by
  have h' : ¬ f2 = f1 := fun e => by rw [e] at h; simp at h
  have hr := rightS_clm k f1 true
  have hr2 := rightS_clm k f2 true
  have hz : clashS [clmS k f1 true, clmS k f2 true] = (shortS (macS k f2) == shortS (macS k f1)) := by
    simp [clashS, clashN, clashS1, likeS, hr, hr2]
    simp [clmS, h']
  rw [hz, Bool.eq_iff_iff]
  simp only [beq_iff_eq]
  exact eq_comm

theorem own_ty {w : World} {e : TypeId} {sz : Nat} {ao : Option Addr} {n c g : Nat} {xs : List Value} (o : Own w e sz ao n c xs) (h : g ∈ blk ao) : ∃ cur, w.heap[g]? = some (.cells cur e (0, 0)) := by
  rcases o.row.2 with ⟨hv, _⟩ | ⟨g1, k1, u1, e1, _, h1, _⟩
  · obtain ⟨rfl, -⟩ : ao = Option.none ∧ _ := by simpa using hv
    simp [blk] at h
  · obtain ⟨rfl, rfl⟩ : ao = some ⟨g1, 0, Option.none⟩ ∧ c = k1 := by simpa using e1
    simp [blk] at h
    subst h
    exact ⟨u1, h1⟩


set_option maxRecDepth 100000 in
set_option maxHeartbeats 1000000 in
theorem clFr8 (p : Nat) (ao1 : Option Addr) (k1 : Nat) (cs : List Clm) (x : Clm) (a0 : Option Addr) (N c0 : Nat) (a1 : Option Addr) (M c1 k : Nat) (text : List UInt8) (V2 : List Value) (hVl : V2.length = 32) (hV1 : ∀ v ∈ V2, v.oneCell' = true) (hk : k ≤ M) (hM : Hid (M = text.length)) (g9 : World → Prop) {c2 c3 c4 c5 c6 c9 c10 c11 c12 c13 c14 c15 c16 c17 c18 c19 c20 c21 c22 c23 c24 c25 c26 c27 c28 c29 c30 c31 c32 c33 c34 c35 c36 c37 c38 c39 c40 c41 c42 c43 c44 c45 c46 c47 c48 c49 c50 c51 c52 c53 c54 c55 c56 c57 c58 c59 c60 c61 c62 c63 c64 c65 c66 c67 c68 c69 c70 c71 c72 c73 c74 c75 c76 c77 c78 c79 c80 c81 c82 c83 c84 c85 c86 c87 c88 c89 c90 c91 c92 c93 : Value} (w w4 : World) (G4 : Grow w w4) (bk : Bk w4 p ao1 1 k1 cs) (F4 : Fr (p :: blk ao1) w) (s1 : Sl w 1 a1 M c1 (text.map B))
    (h9 : g9 w4) (h9k : ∀ fp w w', Keep fp w w' → (∀ x ∈ fp, x ∈ p :: blk ao1 ∨ w4.heap.size ≤ x) → g9 w → g9 w')
    (hmk : ∀ w', Bk w' p ao1 1 k1 cs → Grow w w' → ∀ lo cap vs, Sl w' 1 lo 2 cap vs → Pt w' vs [text.take k, text.drop k] → ∀ R : Ending → World → Prop, (∀ ao' c' w'', Bk w'' p ao' 2 c' (cs ++ [x]) → Keep (p :: blk ao1) w' w'' → (∀ g ∈ blk ao', g ∈ blk ao1 ∨ w'.heap.size ≤ g) → R (.returned (.agg V2.toArray)) w'') → Calls Try.prog 45 #[.pointer (some ⟨p, 0, none⟩), .slice a0 N c0, .slice lo 2 cap] w' R)
    {Q : Exit → Act → World → Prop}
    (hQ : ∀ (ao' : Option Addr) (c' q : Nat) (w' : World), Bk w' p ao' 2 c' (cs ++ [x]) → Own w' 27 1 (some ⟨q, 0, none⟩) 32 32 V2 → g9 w' → Grow w w' → ∀ {u39 u40 u41 u42 u43 u44 u45 u46 u47 u48 : Value}, Q .normal ⟨List.toArray (.slice a0 N c0 :: .slice a1 M c1 :: c2 :: c3 :: c4 :: c5 :: c6 :: .pointer (some ⟨p, 0, none⟩) :: .int .i64 (k : Int) :: c9 :: .pointer (some ⟨q, 0, none⟩) :: c11 :: c12 :: c13 :: c14 :: c15 :: c16 :: c17 :: c18 :: c19 :: c20 :: c21 :: c22 :: c23 :: c24 :: c25 :: c26 :: c27 :: c28 :: c29 :: c30 :: c31 :: c32 :: c33 :: c34 :: c35 :: c36 :: c37 :: c38 :: u39 :: u40 :: u41 :: u42 :: u43 :: u44 :: u45 :: u46 :: u47 :: u48 :: c49 :: c50 :: c51 :: c52 :: c53 :: c54 :: c55 :: c56 :: c57 :: c58 :: c59 :: c60 :: c61 :: c62 :: c63 :: c64 :: c65 :: c66 :: c67 :: c68 :: c69 :: c70 :: c71 :: c72 :: c73 :: c74 :: c75 :: c76 :: c77 :: c78 :: c79 :: c80 :: c81 :: c82 :: c83 :: c84 :: c85 :: c86 :: c87 :: c88 :: c89 :: c90 :: c91 :: c92 :: c93 :: []), []⟩ w') :
    Code.wp Try.prog (regionAt Try.f18 8) Q ⟨List.toArray (.slice a0 N c0 :: .slice a1 M c1 :: c2 :: c3 :: c4 :: c5 :: c6 :: .pointer (some ⟨p, 0, none⟩) :: .int .i64 (k : Int) :: c9 :: c10 :: c11 :: c12 :: c13 :: c14 :: c15 :: c16 :: c17 :: c18 :: c19 :: c20 :: c21 :: c22 :: c23 :: c24 :: c25 :: c26 :: c27 :: c28 :: c29 :: c30 :: c31 :: c32 :: c33 :: c34 :: c35 :: c36 :: c37 :: c38 :: c39 :: c40 :: c41 :: c42 :: c43 :: c44 :: c45 :: c46 :: c47 :: c48 :: c49 :: c50 :: c51 :: c52 :: c53 :: c54 :: c55 :: c56 :: c57 :: c58 :: c59 :: c60 :: c61 :: c62 :: c63 :: c64 :: c65 :: c66 :: c67 :: c68 :: c69 :: c70 :: c71 :: c72 :: c73 :: c74 :: c75 :: c76 :: c77 :: c78 :: c79 :: c80 :: c81 :: c82 :: c83 :: c84 :: c85 :: c86 :: c87 :: c88 :: c89 :: c90 :: c91 :: c92 :: c93 :: []), []⟩ w4 := by
  have hml : maxLen = 9223372036854775807 := rfl
  have i32 : (Try.prog.info? 27).map (·.size) = some 32 := by kernel_rfl
  have hlt := bk.lt
  obtain ⟨so, sc, hcut, sk, -⟩ := run_cut0 TBy s1 (k : Int) k rfl hk
  obtain ⟨so2, sc2, hcut2, sk2, -⟩ := run_cut1 TBy s1 (k : Int) k rfl hk
  rw [Nat.mul_one, ← List.map_take] at sk
  rw [Nat.mul_one, ← List.map_drop] at sk2
  have hkm := s1.hcap
  have hkl := s1.hle
  conv => arg 2; whnf
  let W : Nat → Array Value → Value → World → Prop := fun j _ v w' =>
    (j = 8 → ∃ g, v = .slice (some ⟨g, 0, none⟩) 2 2 ∧ w'.heap[g]? = some (.cells #[.slice so k sc, .slice so2 (M - k) sc2] 22 (0, 0)) ∧ w4.heap.size ≤ g) ∧
    (j = 9 → v = .agg V2.toArray ∧ ∃ ao' c', Bk w' p ao' 2 c' (cs ++ [x]) ∧ ∀ g ∈ blk ao', g ∈ blk ao1 ∨ w4.heap.size ≤ g) ∧
    (j = 10 → ∃ q, v = .pointer (some ⟨q, 0, none⟩) ∧ Own w' 27 1 (some ⟨q, 0, none⟩) 32 32 (List.replicate 32 (.int .u8 0)) ∧ w4.heap.size ≤ q)
  refine RC.wp_region_X (RC.segX w w (Grow.refl w) [8, 9, 10] [(9, 99)] (fun i x _ => i = 9 ∧ x ∈ p :: blk ao1) W ?_) (fun w' => Bk w' p ao1 1 k1 cs) (fun w' => g9 w' ∧ w4.heap.size ≤ w'.heap.size) (by kernel_rfl) ⟨⟨w4.drew, Keep.of_grow [] (G4.trans (Grow.drew w4)), trivial⟩, rfl⟩ (bk.grow (Grow.drew w4)) ⟨h9k [] _ _ (Keep.drew [] w4) (by simp) h9, (Grow.drew w4).size⟩ ?_ ?_
  · rintro i j vs' v wa wb fp hij hkl hgr kp hok ⟨v8, v9, v10⟩
    have hnil : i ≠ 9 → fp = [] := fun hi => List.eq_nil_iff_forall_not_mem.2 fun x hx => hi (hok x hx).2.1
    refine ⟨fun hj => ?_, fun hj => ?_, fun hj => ?_⟩
    · obtain ⟨g, hv, ho, hg⟩ := v8 hj
      exact ⟨g, hv, kp.obj ho fun hm => by have := hlt g (hok g hm).2.2; omega, hg⟩
    · have := hnil (fun e => hij (e.trans hj.symm))
      subst this
      obtain ⟨hv, ao', c', hb, hg⟩ := v9 hj
      exact ⟨hv, ao', c', hb.keep kp (by simp) (by simp), hg⟩
    · obtain ⟨q, hv, ho, hg⟩ := v10 hj
      exact ⟨q, hv, ho.keep kp fun g hg' hm => by simp [blk] at hg'; have := hlt g (hok g hm).2.2; omega, hg⟩
  · rintro i w7 w8 hC ⟨fp, kp, hok⟩
    refine ⟨?_, fun h => ⟨h9k fp w7 w8 kp (fun x hx => .inl (hok x hx).2.2) h.1, Nat.le_trans h.2 kp.size⟩⟩
    by_cases e : i = 9
    · subst e; exact .inl (by simp [RC.segX])
    · have : fp = [] := List.eq_nil_iff_forall_not_mem.2 fun x hx => e (hok x hx).2.1
      subst this
      exact .inr fun h => h.keep kp (by simp) (by simp)
  unfold RC.segX
  repeat (first | (refine RC.wpV_skp rfl rfl ?_; simp only [List.set_cons_succ, List.set_cons_zero]) | (refine RC.wpV_look rfl rfl rfl rfl rfl (fun K hK => ?_); go_big_quiet_op; refine hK _ ?_; clear hK K) | (refine RC.wpV_free rfl rfl rfl rfl (fun K hK => ?_); unfold RC.Base; go_big_quiet_op; refine hK _ ?_; clear hK K))
  refine RC.wpV_mk rfl rfl rfl [98] (by kernel_rfl) (fun vs7 w7 hC hF => ?_) (fun vs7 v w7 hC hV hF => ?_)
  · have h98 := (hF 98 (by simp)).2 rfl
    obtain ⟨⟨w7, hk, -⟩, rfl⟩ := hC
    unfold yields
    go_simp
    exact ⟨⟨[], Keep.alloc [] w7 _, by simp⟩, fun _ => ⟨_, rfl, alloc_new w7 _, h98.2⟩, by simp, by simp⟩
  obtain ⟨g8, rfl, -, -⟩ := hV.1 rfl
  clear hV hC hF w7
  simp only [List.set_cons_succ, List.set_cons_zero]
  refine RC.wpV_mk rfl rfl rfl [8, 98, 99] (by kernel_rfl) (fun vs7 w7 hC hF => yields_call (by kernel_rfl) ?_) (fun vs7 v w7 hC hV hF => ?_)
  · have h98 := ((hF 98 (by simp)).1.resolve_left (by simp)).2 rfl
    have h99 := ((hF 99 (by simp)).1.resolve_left (by simp)).1 rfl
    obtain ⟨g, e, hg, hgl⟩ := ((hF 8 (by simp)).2 rfl).1 rfl
    obtain ⟨⟨w7, hk, -⟩, rfl⟩ := hC
    cases e
    have hk2 : M - k = (text.drop k).length := by rw [List.length_drop, ← hM.out]
    have hk1 : k = (text.take k).length := by rw [List.length_take, ← hM.out]; omega
    have hp : Pt w7 [.slice so k sc, .slice so2 (M - k) sc2] [text.take k, text.drop k] := by
      have := two_parts (w := w7) (ao := so) (bo := so2) (c := sc) (d := sc2) (l := text.take k) (m := text.drop k) (by rw [← hk1]; exact sk.keep hk (by simp)) (by rw [← hk2]; exact sk2.keep hk (by simp))
      rwa [← hk1, ← hk2] at this
    exact hmk w7 h99 hk.grow _ _ _ (sl_obj (C := [.slice so k sc, .slice so2 (M - k) sc2]) hg 2 rfl (by decide) (by simp [Value.oneCell'])) hp _ (fun ao' c' w8 bk8 k8 b8 => ⟨_, rfl, ⟨p :: blk ao1, k8, fun x hx => ⟨F4 x hx, rfl, hx⟩⟩, by simp, fun _ => ⟨rfl, ao', c', bk8, fun g hg => (b8 g hg).imp id fun h => Nat.le_trans h98.2 h⟩, by simp⟩)
  obtain ⟨rfl, -⟩ := hV.2.1 rfl
  clear hV hC hF w7
  simp only [List.set_cons_succ, List.set_cons_zero]
  refine RC.wpV_mk rfl rfl rfl [98] (by kernel_rfl) (fun vs7 w7 hC hF => ?_) (fun vs7 v w7 hC hV hF => ?_)
  · have h98 := ((((hF 98 (by simp)).1.resolve_left (by simp))).1.resolve_left (by simp)).2 rfl
    obtain ⟨⟨w7, hk, -⟩, rfl⟩ := hC
    unfold yields
    go_simp
    exact ⟨⟨[], Keep.alloc [] w7 _, by simp⟩, by simp, by simp, fun _ => ⟨_, rfl, own_new (t := 27) (n := 32) w7 (.int .u8 0) rfl (by omega), h98.2⟩⟩
  obtain ⟨q10, rfl, -, -⟩ := hV.2.2 rfl
  clear hV hC hF w7
  simp only [List.set_cons_succ, List.set_cons_zero]
  refine RC.wpV_end0 rfl rfl (by kernel_rfl) (fun w7 hC hF => ?_)
  obtain ⟨-, ao', c', bk9, b9⟩ := (((hF 9).1.resolve_left (by simp)).2 rfl).2.1 rfl
  obtain ⟨q, e, o10, hq10⟩ := ((hF 10).2 rfl).2.2 rfl
  have h98 := ((((((hF 98).1.resolve_left (by simp))).1.resolve_left (by simp))).1.resolve_left (by simp)).2 rfl
  obtain ⟨⟨w7, hk, -⟩, rfl⟩ := hC
  cases e
  obtain ⟨r1, r2, r3⟩ := store_arr (P := Try.prog) hVl hV1 o10 i32
  have hD : q10 ∉ p :: blk ao' := fun hm => by
    rcases List.mem_cons.1 hm with h | h
    · have := hlt p (by simp); omega
    · have h' := h
      rcases b9 q10 h with h | h
      · have := hlt q10 (by simp [h]); omega
      · obtain ⟨u1, e1⟩ := own_ty bk9.own h'
        obtain ⟨u2, e2⟩ := own_ty o10 (g := q10) (by simp [blk])
        rw [e1] at e2
        have : (66 : Nat) = 27 := by simpa using (Obj.cells.inj (Option.some.inj e2)).2.1
        exact absurd this (by decide)
  unfold yields
  rw [exec_store r1]
  simp only [yUpon]
  exact ⟨RC.Base.mk (hk.grow.then r3 (fun y hy => by simp at hy; have := G4.size; omega)), hQ ao' c' q10 _ (bk9.keep r3 (fun h => hD (by simp at h; simp [h])) (fun g hg hm => hD (by simp at hm; rw [← hm]; simp [hg]))) r2 (h9k _ _ _ r3 (fun y hy => .inr (by simp at hy; omega)) h98.1) (hk.grow.then r3 (fun y hy => by simp at hy; have := G4.size; omega))⟩

set_option maxRecDepth 100000 in
set_option maxHeartbeats 2000000 in
theorem clFrW (a0 : Option Addr) (c0 : Nat) (key : List UInt8) (a1 : Option Addr) (c1 : Nat) (text : List UInt8) (cut : Int) (w : World) (s0 : Sl w 1 a0 key.length c0 (key.map B)) (s1 : Sl w 1 a1 text.length c1 (text.map B)) (_ : (Lit.int IntKind.i64 cut).wf = true)
    (R : Ending → World → Prop) (hR : ∀ w', Grow w w' → R (.returned (.bool true)) w') :
    Calls Try.prog 18 #[.slice a0 key.length c0, .slice a1 text.length c1, .int .i64 cut] w R := by
  have hml : maxLen = 9223372036854775807 := rfl
  have haw := awake12C
  have hm0 := s0.hcap
  have hn0 := s0.hle
  have hm1 := s1.hcap
  have hn1 := s1.hle
  by_cases hx1 : 100 < key.length
  · go_enter Try.func18, Try.ntmps18
    go_wp2_with fail
    refine haw _ _ ?_
    intro w2 g2
    have hf := hR w2 g2
    clear hR
    go_wp2_with fail
    exact hf
  have hg1 : decide (100 < (key.length : Int)) = false := decide_eq_false (by omega)
  by_cases hz : text.length = 0
  · rw [hz] at s1 ⊢
    go_enter Try.func18, Try.ntmps18
    go_wp2_with fail
    refine haw _ _ ?_
    intro w2 g2
    have hf := hR w2 g2
    clear hR
    go_wp2_with fail
    exact hf
  have hz2 : (((text.length : Nat) : Int) == 0) = false := by simpa using hz
  by_cases hhi : 200 < text.length
  · go_enter Try.func18, Try.ntmps18
    go_wp2_with fail
    refine haw _ _ ?_
    intro w2 g2
    have hf := hR w2 g2
    clear hR
    go_wp2_with fail
    exact hf
  have hg3 : decide (200 < (text.length : Int)) = false := decide_eq_false (by omega)
  have hrl := rnd_lt cut (text.length + 1) (by omega)
  have hrc := roundC cut (text.length + 1) (by omega) (by omega)
  obtain ⟨k, hk⟩ : ∃ k, k = rnd cut (text.length + 1) := ⟨_, rfl⟩
  rw [← hk] at hrl hrc
  rw [show ((text.length + 1 : Nat) : Int) = (text.length : Int) + 1 by omega] at hrc
  have hkt : k ≤ text.length := by omega
  have hnew := newBkC
  have hF1l : (framS [text]).length ≤ 1000 := by rw [framS_len]; simp; omega
  have hF2l : (framS [text.take k, text.drop k]).length ≤ 1000 := by rw [framS_len]; simp; omega
  have hFF : (framS [text] == framS [text.take k, text.drop k]) = false := by
    rw [Bool.eq_false_iff]
    intro e
    have e' : framS [text] = framS [text.take k, text.drop k] := by simpa using e
    have := framS_inj [text] [text.take k, text.drop k] (by simp; omega) (by simp; omega) e'
    simp at this
  have hmk := fun p ao n c cs w bk (hn : n ≤ 100000) a0 c0 lo cap vs sk s pt => makeC p ao n c cs a0 c0 key lo cap vs [text] w sk (by omega) s pt (by simp) (by simp; omega) bk hn
  have hmk2 := fun p ao n c cs w bk (hn : n ≤ 100000) a0 c0 lo cap vs sk s pt => makeC p ao n c cs a0 c0 key lo cap vs [text.take k, text.drop k] w sk (by omega) s pt (by simp) (by simp; omega) bk hn
  simp only [List.length_cons, List.length_nil, Nat.zero_add, Nat.reduceAdd] at hmk hmk2
  have hcl := clash_2 key (framS [text]) (framS [text.take k, text.drop k]) hFF
  have hfit : (clmS key (framS [text]) true).fit ∧ (clmS key (framS [text.take k, text.drop k]) true).fit := ⟨⟨by show key.length ≤ _; omega, by show (framS _).length ≤ _; omega⟩, ⟨by show key.length ≤ _; omega, by show (framS _).length ≤ _; omega⟩⟩
  obtain ⟨F1, hF1⟩ : ∃ F, F = framS [text] := ⟨_, rfl⟩
  obtain ⟨F2, hF2⟩ : ∃ F, F = framS [text.take k, text.drop k] := ⟨_, rfl⟩
  rw [← hF1] at hFF
  rw [← hF2] at hFF
  simp only [← hF1, ← hF2] at hmk hmk2 hcl hfit
  obtain ⟨C1, hC1⟩ : ∃ c, c = clmS key F1 true := ⟨_, rfl⟩
  obtain ⟨C2, hC2⟩ : ∃ c, c = clmS key F2 true := ⟨_, rfl⟩
  have ht1 : C1.tag = macS key F1 := by rw [hC1]; rfl
  have ht2 : C2.tag = macS key F2 := by rw [hC2]; rfl
  have hx1' : C1.text = F1 := by rw [hC1]; rfl
  have hx2' : C2.text = F2 := by rw [hC2]; rfl
  simp only [← hC1] at hmk hcl hfit
  simp only [← hC2] at hmk2 hcl hfit
  obtain ⟨M1, hM1⟩ : ∃ c, c = macS key F1 := ⟨_, rfl⟩
  obtain ⟨M2, hM2⟩ : ∃ c, c = macS key F2 := ⟨_, rfl⟩
  have hM1l : M1.length = 32 := by rw [hM1]; exact macS_len _ _
  have hM2l : M2.length = 32 := by rw [hM2]; exact macS_len _ _
  simp only [← hM1] at hmk hcl ht1
  simp only [← hM2] at hmk2 hcl ht2
  obtain ⟨e, he⟩ : ∃ e, (shortS M1 == shortS M2) = e := ⟨_, rfl⟩
  rw [he] at hcl
  have hclC := fun lo c w s R (hR : ∀ w', Grow w w' → R (.returned (.bool e)) w') => clashC lo 2 c [C1, C2] rfl (by simp only [List.mem_cons, List.not_mem_nil, or_false, forall_eq_or_imp, forall_eq]; exact hfit) w s R (by rw [hcl]; exact hR)
  have hs1 := shortMC M1 hM1l
  have hs2 := shortMC M2 hM2l
  have heb := eq_blk (shortS M1) (shortS M2) (shortS_len _ hM1l) (shortS_len _ hM2l)
  rw [he] at heb
  have hq1 := eq_hash M1 M1 hM1l hM1l
  have hq2 := eq_hash M2 M2 hM2l hM2l
  rw [beq_self_eq_true] at hq1 hq2
  obtain ⟨V1, hV1⟩ : ∃ V, V = M1.map B := ⟨_, rfl⟩
  obtain ⟨V2, hV2⟩ : ∃ V, V = M2.map B := ⟨_, rfl⟩
  have hV1l : V1.length = 32 := by rw [hV1, List.length_map]; exact hM1l
  have hV2l : V2.length = 32 := by rw [hV2, List.length_map]; exact hM2l
  have hV1o : ∀ v ∈ V1, v.oneCell' = true := by rw [hV1]; exact B_one _
  have hV2o : ∀ v ∈ V2, v.oneCell' = true := by rw [hV2]; exact B_one _
  have htv1 : C1.tag.map B = V1 := by rw [ht1, hV1]
  have htv2 : C2.tag.map B = V2 := by rw [ht2, hV2]
  simp only [← hV1] at hmk hs1 hq1
  simp only [← hV2] at hmk2 hs2 hq2
  obtain ⟨SA, hSA⟩ : ∃ V, V = ((shortS M1).map B).toArray := ⟨_, rfl⟩
  obtain ⟨SB, hSB⟩ : ∃ V, V = ((shortS M2).map B).toArray := ⟨_, rfl⟩
  simp only [← hSA] at hs1 heb
  simp only [← hSB] at hs2 heb
  have i32 : (Try.prog.info? 27).map (·.size) = some 32 := by kernel_rfl
  obtain ⟨N, hN⟩ : ∃ N, N = key.length := ⟨_, rfl⟩
  obtain ⟨M, hM⟩ : ∃ N, N = text.length := ⟨_, rfl⟩
  simp only [← hN, ← hM] at s0 s1 hg1 hz2 hg3 hrc hmk hmk2 hkt ⊢
  have HM := Lib.hid hM
  have hMl : M ≤ 200 := by omega
  have hst1 : (str F1).toList = F1 := str_toList _
  have hst2 : (str F2).toList = F2 := str_toList _
  clear hcl hfit hk hrl hF1l hF2l hF1 hF2 hC1 hC2 ht1 ht2 hM1 hM2 hM1l hM2l he hV1 hV2 hSA hSB hN hM hz hhi hx1 hm0 hm1 hn0 hn1
  go_enter Try.func18, Try.ntmps18
  go_wp2_with fail
  refine hnew _ _ ?_
  intro p w1 bk1 g1 hp
  clear hg1 hz2 hg3 hnew
  obtain ⟨ps, pp, pg⟩ := one_slc g1 s1
  have hc := hmk p none 0 0 [] _ (bk1.grow pg) (by decide) _ _ _ _ _ (s0.grow (g1.trans pg)) ps pp
  have G1 := g1.trans pg
  have F1' : Fr (p :: blk none) w := fun g hg => by simp [blk] at hg; omega
  clear ps pp pg g1 bk1 hmk hp
  go_wp2_with (go_at_call 31; refine hrc _ _ ?_)
  clear hrc
  refine hc _ ?_
  clear hc
  intro ao1 k1 w2 bk2 kp2 b2
  obtain ⟨G2, F2'⟩ := bk_step G1 F1' kp2 b2
  simp only [List.nil_append, Nat.zero_add] at bk2
  have hlt2 := bk2.lt
  clear G1 F1' kp2 b2
  obtain ⟨o9, ga1, th1, al1⟩ := newvar (t := 27) w2 (.int .u8 0) rfl (by omega) hV1l hV1o
  have hszF : (Try.prog.info? 27).map (·.size) = some V1.toArray.size := by rw [List.size_toArray, hV1l]; exact i32
  go_upto_region 8 with (refine wpList_store_mid rfl 27 _ _ rfl w2.heap.size 0 V1.toArray rfl rfl th1 hszF al1 ?_)
  change Code.wp _ _ _ ⟨_, _⟩ ((w2.alloc (.cells (List.replicate 32 (.int .u8 0)).toArray 27)).setCells w2.heap.size 0 V1)
  have G3 := G2.trans ga1
  have bk3 := bk2.grow ga1
  obtain ⟨q9, hq⟩ : ∃ q, q = w2.heap.size := ⟨_, rfl⟩
  generalize (w2.alloc (.cells (List.replicate 32 (.int .u8 0)).toArray 27)).setCells w2.heap.size 0 V1 = w3 at *
  rw [← hq] at o9 ⊢
  have hge_q9 : w2.heap.size ≤ q9 := by omega
  clear hq th1 al1 ga1 hszF G2 bk2
  have D3 : q9 ∉ p :: blk ao1 := fun hm => by have := hlt2 q9 hm; omega
  have hq9 := o9.lt q9 (by simp [blk])
  clear hlt2
  refine clFr8 p ao1 k1 [C1] C2 a0 N c0 a1 M c1 k text V2 hV2l hV2o hkt HM (fun w' => Own w' 27 1 (some ⟨q9, 0, none⟩) 32 32 V1) w w3 G3 bk3 F2' s1 o9 (fun fp wa wb kk hfp o => o.keep kk (fun g hg hm => by
      simp [blk] at hg
      subst hg
      rcases hfp g hm with h | h
      · exact D3 h
      · omega)) (fun w' bk' g' lo cap vs s pt R hR => hmk2 p ao1 1 k1 [C1] w' bk' (by decide) a0 c0 lo cap vs (s0.grow g') s pt R hR) ?_
  intro ao2 k2 q10 w4 bk4 o10 o94 G4
  intros
  simp only [List.cons_append, List.nil_append] at bk4
  have hal := allC p ao2 2 k2 _ w4 bk4 (by decide)
  clear bk3 o9 G3 F2' hmk2 hge_q9 D3 hq9 bk4 s0 s1 HM
  go_wp2_with fail
  refine hal _ ?_
  clear hal
  intro lo lc w5 ol g5 _
  have G5 := G4.trans g5
  have o95 := o94.grow g5
  have o105 := o10.grow g5
  clear G4 g5 o94 o10
  obtain ⟨gl, ofl, eg, hcl⟩ := ol.sl.hat (by decide)
  subst eg
  obtain rfl : ofl = 0 := by
    rcases ol.row.2 with ⟨hv, -⟩ | ⟨g', cap', cur, hv, -⟩
    · simp at hv
    · simp only [Value.slice.injEq, Option.some.injEq, Addr.mk.injEq, and_true] at hv
      exact hv.1.2
  have hca : Cells w5 gl 0 (clV C1) := by have := cells_clm hcl 0 (by simp); simpa using this
  have hcb : Cells w5 gl 35 (clV C2) := by have := cells_clm hcl 1 (by simp); simpa using this
  have f0 := KW.cell (fp := []) (p0 := tt) (hca.at (clV_text C1)) (by simp)
  have f1 := KW.cell (fp := []) (p0 := tt) (hcb.at (clV_text C2)) (by simp)
  rw [hx1'] at f0
  rw [hx2'] at f1
  simp only [Nat.zero_add, Nat.reduceAdd] at f0 f1
  have ldA : ∀ w', Keep [] w5 w' → (Instr.loadAt 27 (.pointer (some ⟨gl, 2, none⟩))).run Try.prog w' = .ok (.agg V1.toArray) w' := fun w' k => by rw [← htv1]; exact ldK_tag hca w' k
  have ldB : ∀ w', Keep [] w5 w' → (Instr.loadAt 27 (.pointer (some ⟨gl, 37, none⟩))).run Try.prog w' = .ok (.agg V2.toArray) w' := fun w' k => by rw [← htv2]; exact ld_tag (off := 35) (hcb.keep k (by simp))
  have ldX : ∀ w', Keep [] w5 w' → (Instr.loadAt 27 (.pointer (some ⟨q9, 0, none⟩))).run Try.prog w' = .ok (.agg V1.toArray) w' := fun w' k => load_arr (by decide) hV1l (o95.keep k (by simp)) Try.underlying27 rfl i32
  have ldY : ∀ w', Keep [] w5 w' → (Instr.loadAt 27 (.pointer (some ⟨q10, 0, none⟩))).run Try.prog w' = .ok (.agg V2.toArray) w' := fun w' k => load_arr (by decide) hV2l (o105.keep k (by simp)) Try.underlying27 rfl i32
  have sl5 := ol.sl
  clear hcl hca hcb hx1' hx2' htv1 htv2 ol o95 o105 hV1l hV2l hV1o hV2o
  go_upto_region 10 with (fail)
  refine wp_region_R (segT w5 [(32, pIs (.bool e)), (34, pIs (.agg SA)), (36, pIs (.agg SB)), (41, pIs (.bool true))]) (by kernel_rfl) segT_drew ?_
  unfold segT segK segR
  repeat (first | (refine wpV_skp rfl rfl ?_; simp only [List.set_cons_succ, List.set_cons_zero]) | (refine wpV_val rfl rfl rfl rfl rfl _ (fun w hC => by obtain ⟨n, rfl⟩ := hC; exact exec_load (ldA _ n.h)) ?_; simp only [List.set_cons_succ, List.set_cons_zero]) | (refine wpV_val rfl rfl rfl rfl rfl _ (fun w hC => by obtain ⟨n, rfl⟩ := hC; exact exec_load (ldB _ n.h)) ?_; simp only [List.set_cons_succ, List.set_cons_zero]) | (refine wpV_val rfl rfl rfl rfl rfl _ (fun w hC => by obtain ⟨n, rfl⟩ := hC; exact exec_load (ldX _ n.h)) ?_; simp only [List.set_cons_succ, List.set_cons_zero]) | (refine wpV_val rfl rfl rfl rfl rfl _ (fun w hC => by obtain ⟨n, rfl⟩ := hC; exact exec_load (ldY _ n.h)) ?_; simp only [List.set_cons_succ, List.set_cons_zero]) | (refine wpV_look rfl rfl rfl rfl rfl (fun K hK => ?_); go_big_quiet_op; refine hK _ ?_; clear hK K))
  refine wpV_mk rfl rfl rfl [] (by kernel_rfl) (fun vs w7 hC hF => yields_call (by kernel_rfl) ?_) (fun vs v w7 hC hV hF => ?_)
  · obtain ⟨⟨w7, hk, -⟩, rfl⟩ := hC
    exact hclC _ _ w7 (sl5.keep hk (by simp)) _ (fun w8 g8 => ⟨_, rfl, ⟨Keep.of_grow [] g8, trivial⟩, rfl⟩)
  obtain rfl := hV
  clear hC hF w7
  simp only [List.set_cons_succ, List.set_cons_zero]
  repeat (first | (refine wpV_skp rfl rfl ?_; simp only [List.set_cons_succ, List.set_cons_zero]) | (refine wpV_val rfl rfl rfl rfl rfl _ (fun w hC => by obtain ⟨n, rfl⟩ := hC; exact exec_load (ldX _ n.h)) ?_; simp only [List.set_cons_succ, List.set_cons_zero]) | (refine wpV_look rfl rfl rfl rfl rfl (fun K hK => ?_); go_big_quiet_op; refine hK _ ?_; clear hK K))
  refine wpV_mk rfl rfl rfl [] rfl (fun vs w7 hC _ => yields_call (by kernel_rfl) ?_) (fun vs v w7 hC hV hF => ?_)
  · obtain ⟨⟨w7, hk, -⟩, rfl⟩ := hC
    exact hs1 w7 _ (fun w8 g8 => ⟨_, rfl, ⟨Keep.of_grow [] g8, trivial⟩, rfl⟩)
  obtain rfl := hV
  clear hC hF w7
  simp only [List.set_cons_succ, List.set_cons_zero]
  repeat (first | (refine wpV_skp rfl rfl ?_; simp only [List.set_cons_succ, List.set_cons_zero]) | (refine wpV_val rfl rfl rfl rfl rfl _ (fun w hC => by obtain ⟨n, rfl⟩ := hC; exact exec_load (ldY _ n.h)) ?_; simp only [List.set_cons_succ, List.set_cons_zero]) | (refine wpV_look rfl rfl rfl rfl rfl (fun K hK => ?_); go_big_quiet_op; refine hK _ ?_; clear hK K))
  refine wpV_mk rfl rfl rfl [] rfl (fun vs w7 hC _ => yields_call (by kernel_rfl) ?_) (fun vs v w7 hC hV hF => ?_)
  · obtain ⟨⟨w7, hk, -⟩, rfl⟩ := hC
    exact hs2 w7 _ (fun w8 g8 => ⟨_, rfl, ⟨Keep.of_grow [] g8, trivial⟩, rfl⟩)
  obtain rfl := hV
  clear hC hF w7
  simp only [List.set_cons_succ, List.set_cons_zero]
  repeat (first | (refine wpV_skp rfl rfl ?_; simp only [List.set_cons_succ, List.set_cons_zero]) | (refine wpV_look rfl rfl rfl rfl rfl (fun K hK => ?_); go_big_quiet_op; refine hK _ ?_; clear hK K))
  refine wpV_mk rfl rfl rfl [] rfl (fun vs w7 hC _ => yields_call (by kernel_rfl) ?_) (fun vs v w7 hC hV hF => ?_)
  · obtain ⟨⟨w7, hk, -⟩, rfl⟩ := hC
    exact haw w7 _ (fun w8 g8 => ⟨_, rfl, ⟨Keep.of_grow [] g8, trivial⟩, rfl⟩)
  obtain rfl := hV
  clear hC hF w7
  simp only [List.set_cons_succ, List.set_cons_zero]
  repeat (first | (refine wpV_skp rfl rfl ?_; simp only [List.set_cons_succ, List.set_cons_zero]) | (refine wpV_look rfl rfl rfl rfl rfl (fun K hK => ?_); go_big_quiet_op; refine hK _ ?_; clear hK K))
  refine wpV_nil ?_
  intro w9 hC hF
  obtain ⟨⟨w9, hkw9, -⟩, rfl⟩ := hC
  clear hF
  have hf := hR _ (G5.trans hkw9.grow)
  clear hR
  go_wp2_with fail
  exact hf
end Go.Proofs.Ytaepfkpfageiaaa
