/- A node's tag is made anew. · A leaf's tag is put in, and all above it made anew. · A leaf's tag is put in: the loop. · A node's tag, told. · The document's Mac. · The document's frame. · The document's tags. · A leaf's tag, the top's tag, the tags beside a leaf's way. · A leaf is given a text; a leaf's text is taken. · Has a leaf this text? -/
import Derived.Test.YtfmnkcmicbnfdaaGHt2
import Derived.Test.YtfmnkcmicbnfdaaGPaths
import Derived.Test.YtfmnkcmicbnfdaaMacG
import Derived.Test.YtfmnkcmicbnfdaaGTabE
import Derived.Test.YtfmnkcmicbnfdaaGRsL
import Derived.BigRegion
import Derived.Test.YtfmnkcmicbnfdaaMacF
import Derived.Test.YtfmnkcmicbnfdaaRegC

namespace Go.Proofs.Ytfmnkcmicbnfdaa
open Go Go.RowKit

theorem nodeP_len (l i : Nat) (bs : List B16) : (nodeP l i bs).flatten.length = 20 + 16 * bs.length := by
  simp [nodeP, numS_len]
  have := flatB_len bs
  simp at this
  omega


set_option maxRecDepth 100000 in
set_option maxHeartbeats 1000000 in
theorem renew1 (t : Tre) (q3 lv l i : Nat) (hlv : Hid (lv = l + 1)) (hl : lv < t.L) (hi : i < lw t.n lv) (hn1 : 1 ≤ t.n) (hn2 : t.n ≤ 65536) (hkey : t.key.length = 32) {h : Int → Bool} {T : Nat → Nat → B16} {FP : List Nat} {cs : List Clm} (hcs : cs.length ≤ 100000) {c1 c2 c4 c5 c6 c7 c8 c9 c10 c11 c12 c13 c14 c15 c16 c17 c18 c19 c20 c21 c22 c23 c24 c25 c26 c27 c28 c29 : Value} (w : World) (a : HB w t h T FP cs) (o3 : w.heap[q3]? = some (.cells #[.int .i64 (lv : Int), .int .i64 (i : Int)] 76 (0, 0))) (hq3 : q3 ∉ FP) {Q : Exit → Act → World → Prop}
    (hQ : ∀ (FP' : List Nat) (w' : World), HB w' t h (up2 T lv i (nodeT t.key lv i (kidsB t.n T l i))) FP' (cs ++ [clmS t.key (framS (nodeP lv i (kidsB t.n T l i))) true]) → Keep (t.hard ++ FP) w w' → (∀ g ∈ FP', g ∈ FP ∨ w.heap.size ≤ g) → ∀ {u4 u5 u6 u7 u8 u9 u10 u11 u12 u13 u14 u15 u16 u17 u18 u19 u20 u21 u22 u23 u24 u25 u26 u27 u28 u29 : Value}, Q .normal ⟨List.toArray (.pointer (some ⟨t.p, 0, none⟩) :: c1 :: c2 :: .pointer (some ⟨q3, 0, none⟩) :: u4 :: u5 :: u6 :: u7 :: u8 :: u9 :: u10 :: u11 :: u12 :: u13 :: u14 :: u15 :: u16 :: u17 :: u18 :: u19 :: u20 :: u21 :: u22 :: u23 :: u24 :: u25 :: u26 :: u27 :: u28 :: u29 :: []), []⟩ w') :
    Code.wp Try.prog (regionAt Try.f60 1) Q ⟨List.toArray (.pointer (some ⟨t.p, 0, none⟩) :: c1 :: c2 :: .pointer (some ⟨q3, 0, none⟩) :: c4 :: c5 :: c6 :: c7 :: c8 :: c9 :: c10 :: c11 :: c12 :: c13 :: c14 :: c15 :: c16 :: c17 :: c18 :: c19 :: c20 :: c21 :: c22 :: c23 :: c24 :: c25 :: c26 :: c27 :: c28 :: c29 :: []), []⟩ w := by
  have hml : maxLen = 9223372036854775807 := rfl
  have hK := kn_le t.n l i
  have hkb := kidsB_len t.n T l i
  have hfl := nodeP_len lv i (kidsB t.n T l i)
  have hwl := lw_le t.n lv
  have hnL : lv ≤ 2147483647 ∧ i ≤ 2147483647 := by
    refine ⟨?_, by omega⟩
    have h1 := a.ht.lev.sl.hle
    have h2 := a.ht.lev.sl.hlen
    by_cases hb : lv ≤ 2147483647
    · exact hb
    · exfalso
      have := hlv.out
      have h3 : lw t.n lv = 0 := by
        unfold lw
        rw [List.getD_eq_getElem?_getD, List.getElem?_eq_none (by have := wl_len t.n; omega)]
        rfl
      omega
  have hkd := fun w' (k : Keep FP w w') => tkidsC (a.ht.keep k (fun x hx => (a.d x hx).1) (fun x hx => (a.d x hx).2)) hn1 hn2 lv l i hlv (by have := hlv.out; omega) (by have := hlv.out; rw [← this]; exact hi)
  have hnp := fun ko kc w s R hR => nodePartsC lv i hnL.1 hnL.2 ko kc (kidsB t.n T l i) (kn t.n l i) hkb (by omega) w s R hR
  obtain ⟨bs, hbs⟩ : ∃ bs, bs = kidsB t.n T l i := ⟨_, rfl⟩
  rw [← hbs] at hkb hfl
  simp only [← hbs] at hkd hnp hQ
  obtain ⟨K, hKK⟩ : ∃ K, K = kn t.n l i := ⟨_, rfl⟩
  simp only [← hKK] at hkd hnp
  rw [← hKK] at hkb hK
  have hsh := shortMC (macS t.key (framS (nodeP lv i bs))) (macS_len _ _)
  have hMl : ((macS t.key (framS (nodeP lv i bs))).map B).length = 32 := by rw [List.length_map]; exact macS_len _ _
  obtain ⟨x, hx⟩ : ∃ x, x = clmS t.key (framS (nodeP lv i bs)) true := ⟨_, rfl⟩
  have hmk : ∀ w', BkO w' t.bv FP cs → Sl w' 1 t.ko 32 t.kc (t.key.map B) → ∀ lo vs, Sl w' 1 lo 4 4 vs → Pt w' vs (nodeP lv i bs) → ∀ R : Ending → World → Prop, (∀ fp' w'', BkO w'' t.bv fp' (cs ++ [x]) → Keep FP w' w'' → (∀ g ∈ fp', g ∈ FP ∨ w'.heap.size ≤ g) → R (.returned (.agg ((macS t.key (framS (nodeP lv i bs))).map B).toArray)) w'') → Calls Try.prog 64 #[t.bv, .slice t.ko 32 t.kc, .slice lo 4 4] w' R :=
    fun w' b sk lo vs s pt R hR => makeO b hcs t.ko 32 t.kc t.key hkey lo 4 4 vs (nodeP lv i bs) rfl sk (by omega) s pt (by omega) (by omega) R (by rw [← hx]; exact hR)
  rw [← hx] at hQ
  obtain ⟨M, hM⟩ : ∃ M, M = (macS t.key (framS (nodeP lv i bs))).map B := ⟨_, rfl⟩
  simp only [← hM] at hsh hmk
  rw [← hM] at hMl
  obtain ⟨tg, htg⟩ : ∃ tg, tg = nodeT t.key lv i bs := ⟨_, rfl⟩
  rw [← htg] at hQ
  have hsh' : ∀ (w : World) (R : Ending → World → Prop), (∀ w', Grow w w' → R (.returned (.agg (tg.b.map B).toArray)) w') → Calls Try.prog 63 #[.agg M.toArray] w R := by rw [htg]; exact hsh
  clear hsh hM htg hx hfl
  obtain ⟨gl, off, hlo, hcl, hgl⟩ := a.ht.level hl
  have ob := a.ht.obj
  rw [hlo] at ob
  have hl1 := a.ht.lev.sl.hle
  have hl2 := a.ht.lev.sl.hcap
  have hrl := (a.ht.row lv hl).sl.hle
  have hps : t.p ∉ FP := fun hm => (a.d _ hm).2 (by simp [Tre.soft])
  have hgs : gl ∉ FP := fun hm => (a.d _ hm).2 hgl
  unfold Tre.rv at hcl
  have q1 := KW.cell (fp := FP) (p0 := tt) (obj_cell ob 0 rfl) hps
  have q2 := KW.cell (fp := FP) (p0 := tt) (obj_cell ob 1 rfl) hps
  have q3' := KW.cell (fp := FP) (p0 := tt) (obj_cell ob 2 rfl) hps
  have q4 := KW.cell (fp := FP) (p0 := tt) hcl hgs
  have q5 := KW.cell (fp := FP) (p0 := tt) (obj_cell o3 0 rfl) hq3
  have q6 := KW.cell (fp := FP) (p0 := tt) (obj_cell o3 1 rfl) hq3
  have hkfp : ∀ g ∈ blk t.ko, g ∉ FP := fun g hg hm => (a.d _ hm).2 (by simp [Tre.soft, hg])
  clear hcl ob o3 hK
  have : Nonempty (KW FP tt w) := ⟨⟨w, Keep.refl _ _, trivial⟩⟩
  let W : Nat → Array Value → Value → World → Prop := fun j _ v w' =>
    (j = 21 → ∃ ao c, v = .slice ao K c ∧ Sl w' 16 ao K c (bVs bs)) ∧
    (j = 22 → ∃ lo vs, v = .slice lo 4 4 ∧ Sl w' 1 lo 4 4 vs ∧ Pt w' vs (nodeP lv i bs)) ∧
    (j = 23 → v = .agg M.toArray ∧ ∃ fp', BkO w' t.bv fp' (cs ++ [x]) ∧ ∀ g ∈ fp', g ∈ FP ∨ w.heap.size ≤ g) ∧
    (j = 24 → v = .agg (tg.b.map B).toArray)
  conv => arg 2; whnf
  refine RC.wp_region_Y FP 23 [21, 22, 23, 24] [(23, 99), (23, 21), (23, 22)] (by simp) W ?_ (fun w' => BkO w' t.bv FP cs) (by kernel_rfl) a.bk (fun w1 w2 g b => b.grow g) ?_
  · rintro i j vs v w1 w' hij hkl _ kp ⟨v1, v2, v3, v4⟩
    by_cases e : i = 23
    · subst e
      exact ⟨fun hj => by subst hj; simp at hkl, fun hj => by subst hj; simp at hkl, fun hj => absurd hj.symm hij, v4⟩
    · rw [if_neg e] at kp
      exact ⟨fun hj => let ⟨ao, c, e, s⟩ := v1 hj; ⟨ao, c, e, s.grow kp.grow⟩, fun hj => let ⟨lo, vs, e, s, p⟩ := v2 hj; ⟨lo, vs, e, s.grow kp.grow, p.grow kp.grow⟩, fun hj => let ⟨e, fp', b, inn⟩ := v3 hj; ⟨e, fp', b.grow kp.grow, inn⟩, v4⟩
  unfold RC.segW
  repeat (first | (refine RC.wpV_skp rfl rfl ?_; simp only [List.set_cons_succ, List.set_cons_zero]) | (refine RC.wpV_look rfl rfl rfl rfl rfl (fun K hK => ?_); go_big_quiet_op; refine hK _ ?_; clear hK K) | (refine RC.wpV_free rfl rfl rfl rfl (fun K hK => ?_); unfold RC.Base; go_big_quiet_op; refine hK _ ?_; clear hK K))
  refine RC.wpV_mk rfl rfl rfl [] (by kernel_rfl) (fun vs7 w7 hC hF => yields_call (by kernel_rfl) ?_) (fun vs7 v w7 hC hV hF => ?_)
  · obtain ⟨⟨w7, hk, -⟩, rfl⟩ := hC
    exact hkd w7 hk _ (fun ao c w8 o8 g8 _ => ⟨_, rfl, Keep.of_grow [] g8, fun _ => ⟨_, _, rfl, o8.sl⟩, by simp, by simp, by simp⟩)
  obtain ⟨b21, d21, rfl, -⟩ := hV.1 rfl
  clear hV hC hF w7
  simp only [List.set_cons_succ, List.set_cons_zero]
  refine RC.wpV_mk rfl rfl rfl [21] (by kernel_rfl) (fun vs7 w7 hC hF => yields_call (by kernel_rfl) ?_) (fun vs7 v w7 hC hV hF => ?_)
  · obtain ⟨ao, c, e, s⟩ := ((hF 21 (by simp)).2 rfl).1 rfl
    cases e
    exact hnp _ _ w7 s _ (fun lo vs w8 s8 p8 g8 _ => ⟨_, rfl, Keep.of_grow [] g8, by simp, fun _ => ⟨_, _, rfl, s8, p8⟩, by simp, by simp⟩)
  obtain ⟨b22, v22, rfl, -, -⟩ := hV.2.1 rfl
  clear hV hC hF w7
  simp only [List.set_cons_succ, List.set_cons_zero]
  refine RC.wpV_mk rfl rfl rfl [22, 99] (by kernel_rfl) (fun vs7 w7 hC hF => yields_call (by kernel_rfl) ?_) (fun vs7 v w7 hC hV hF => ?_)
  · obtain ⟨lo, vs, e, s, p⟩ := ((hF 22 (by simp)).2 rfl).2.1 rfl
    have h99 := ((((hF 99 (by simp)).1.resolve_left (by simp)).1.resolve_left (by simp))).1 rfl
    cases e
    obtain ⟨⟨w7, hk, -⟩, rfl⟩ := hC
    exact hmk w7 h99 (a.ht.key.keep hk hkfp) _ _ s p _ (fun fp' w8 b8 k8 in8 => ⟨_, rfl, k8, by simp, by simp, fun _ => ⟨rfl, fp', b8, fun g hg => (in8 g hg).imp id fun h => Nat.le_trans hk.size h⟩, by simp⟩)
  obtain ⟨rfl, -⟩ := hV.2.2.1 rfl
  clear hV hC hF w7
  simp only [List.set_cons_succ, List.set_cons_zero]
  refine RC.wpV_mk rfl rfl rfl [] (by kernel_rfl) (fun vs7 w7 hC hF => yields_call (by kernel_rfl) ?_) (fun vs7 v w7 hC hV hF => ?_)
  · exact hsh' w7 _ (fun w8 g8 => ⟨_, rfl, Keep.of_grow [] g8, by simp, by simp, by simp, fun _ => rfl⟩)
  obtain rfl := hV.2.2.2 rfl
  clear hV hC hF w7
  simp only [List.set_cons_succ, List.set_cons_zero]
  repeat (first | (refine RC.wpV_skp rfl rfl ?_; simp only [List.set_cons_succ, List.set_cons_zero]) | (refine RC.wpV_look rfl rfl rfl rfl rfl (fun K hK => ?_); go_big_quiet_op; refine hK _ ?_; clear hK K) | (refine RC.wpV_free rfl rfl rfl rfl (fun K hK => ?_); unfold RC.Base; go_big_quiet_op; refine hK _ ?_; clear hK K))
  refine RC.wpV_end0 rfl rfl (by kernel_rfl) (fun w7 hC hF => ?_)
  obtain ⟨-, fp', b7, in7⟩ := (((hF 23).1.resolve_left (by simp)).2 rfl).2.2.1 rfl
  obtain ⟨⟨w7, hk, -⟩, rfl⟩ := hC
  have a7 := a.book b7 hk in7
  obtain ⟨r1, h1, k1⟩ := a7.ht.store hl hi tg
  unfold yields
  rw [exec_store r1]
  simp only [yUpon]
  refine ⟨trivial, hQ fp' _ ⟨h1, b7.keep k1 (fun y hy hm => ?_), a7.d⟩ ((hk.mono (by simp +contextual)).trans (k1.mono ?_)) in7⟩
  · have e : y = t.g lv := by simpa using hm
    subst e
    exact (a7.d _ hy).1 (Tre.ghard hl)
  · intro y hy
    have e : y = t.g lv := by simpa using hy
    subst e
    exact List.mem_append_left _ (Tre.ghard hl)
end Go.Proofs.Ytfmnkcmicbnfdaa

namespace Go.Proofs.Ytfmnkcmicbnfdaa
open Go Go.RowKit

set_option maxRecDepth 100000 in
set_option maxHeartbeats 1000000 in
theorem renewC (t : Tre) (lv l i : Nat) (hlv : Hid (lv = l + 1)) (hl : lv < t.L) (hi : i < lw t.n lv) (hn1 : 1 ≤ t.n) (hn2 : t.n ≤ 65536) (hkey : t.key.length = 32) {h : Int → Bool} {T : Nat → Nat → B16} {FP : List Nat} {cs : List Clm} (hcs : cs.length ≤ 100000) (w : World) (a : HB w t h T FP cs) (R : Ending → World → Prop)
    (hR : ∀ (FP' : List Nat) (w' : World), HB w' t h (up2 T lv i (nodeT t.key lv i (kidsB t.n T l i))) FP' (cs ++ [clmS t.key (framS (nodeP lv i (kidsB t.n T l i))) true]) → Keep (t.hard ++ FP) w w' → (∀ g ∈ FP', g ∈ FP ∨ w.heap.size ≤ g) → R (.returned (.tuple #[])) w') :
    Calls Try.prog 60 #[.pointer (some ⟨t.p, 0, none⟩), .agg #[.int .i64 (lv : Int), .int .i64 (i : Int)]] w R := by
  have o3 := alloc_new w (.cells #[.int .i64 (lv : Int), .int .i64 (i : Int)] 76)
  have g3 := Grow.alloc w (.cells #[.int .i64 (lv : Int), .int .i64 (i : Int)] 76)
  have a3 := a.grow g3
  have hlt := a.lt
  go_enter Try.func60, Try.ntmps60
  go_upto_region 1 with (fail)
  refine renew1 t w.heap.size lv l i hlv hl hi hn1 hn2 hkey hcs _ a3 o3 (fun hm => by have := hlt _ (List.mem_append_right _ hm); omega) ?_
  intro FP' w' a' k' in'
  intros
  have hf := hR FP' w' a' ((Keep.of_grow _ g3).trans k') (fun g hg => (in' g hg).imp id fun h => Nat.le_trans g3.size h)
  clear hR
  go_wp2_with fail
  exact bodyPost_end (v := .tuple #[]) (by simp [results, Try.results60]) rfl hf

/-- The places of a way. -/
theorem way_cells {w : World} {g off f k : Nat} (h : Cells w g off (pk (wayN f k))) (j : Nat) (hj : j < k) : w.cell? ⟨g, off + j * 2, none⟩ = some (.int .i64 (j : Int)) ∧ w.cell? ⟨g, off + j * 2 + 1, none⟩ = some (.int .i64 ((f / 4 ^ j : Nat) : Int)) := by
  have := pk_at (wayN f k) j (by rw [wayN_len]; exact hj)
  simp only [wayN, List.getElem_map, List.getElem_range] at this
  exact ⟨h.at this.1, by rw [Nat.add_assoc]; exact h.at this.2⟩


set_option maxRecDepth 100000 in
set_option maxHeartbeats 1000000 in
theorem put5 (t : Tre) (k q5 : Nat) (hL : 0 < t.L) (hk : k < t.n) (_ : t.n ≤ 65536) (x : B16) {h : Int → Bool} {T : Nat → Nat → B16} {c2 c3 c4 c6 c7 c8 c9 c10 c11 c12 c13 c14 c15 c16 c17 c18 c19 c20 c21 c22 c23 c24 c25 c26 c27 c28 c29 c30 c31 c32 : Value} (w : World) (a : Ht w t h T) (o5 : Cells w q5 0 (x.b.map B)) {Q : Exit → Act → World → Prop}
    (hQ : ∀ (w' : World), Ht w' t h (up2 T 0 k x) → Keep [t.g 0] w w' → ∀ {u20 u21 u22 u23 u24 u25 u26 u27 u28 : Value}, Q .normal ⟨List.toArray (.pointer (some ⟨t.p, 0, none⟩) :: .int .i64 (k : Int) :: c2 :: c3 :: c4 :: .pointer (some ⟨q5, 0, none⟩) :: c6 :: c7 :: c8 :: c9 :: c10 :: c11 :: c12 :: c13 :: c14 :: c15 :: c16 :: c17 :: c18 :: c19 :: u20 :: u21 :: u22 :: u23 :: u24 :: u25 :: u26 :: u27 :: u28 :: c29 :: c30 :: c31 :: c32 :: []), []⟩ w') :
    Code.wp Try.prog (regionAt Try.f62 5) Q ⟨List.toArray (.pointer (some ⟨t.p, 0, none⟩) :: .int .i64 (k : Int) :: c2 :: c3 :: c4 :: .pointer (some ⟨q5, 0, none⟩) :: c6 :: c7 :: c8 :: c9 :: c10 :: c11 :: c12 :: c13 :: c14 :: c15 :: c16 :: c17 :: c18 :: c19 :: c20 :: c21 :: c22 :: c23 :: c24 :: c25 :: c26 :: c27 :: c28 :: c29 :: c30 :: c31 :: c32 :: []), []⟩ w := by
  have hml : maxLen = 9223372036854775807 := rfl
  have hw0 := lw_zero t.n
  have hsz : (Try.prog.info? 33).map (·.size) = some (x.b.map B).length := by rw [bV_len]; exact i16
  have ldV : ∀ w', Keep [] w w' → (Instr.loadAt 33 (.pointer (some ⟨q5, 0, none⟩))).run Try.prog w' = .ok (.agg (x.b.map B).toArray) w' := fun w' k => run_ld Try.underlying33 rfl hsz (o5.keep k (by simp))
  obtain ⟨gl, off, hlo, hcl, hgl⟩ := a.level hL
  have ob := a.obj
  rw [hlo] at ob
  have hl1 := a.lev.sl.hle
  have hl2 := a.lev.sl.hcap
  unfold Tre.rv at hcl
  rw [hw0, Nat.add_zero] at hcl
  have q3' := KW.cell (fp := []) (p0 := tt) (obj_cell ob 2 rfl) (by simp)
  have q4 := KW.cell (fp := []) (p0 := tt) hcl (by simp)
  have hst := fun w' (kk : Keep [] w w') => (a.keep kk (by simp) (by simp)).store hL (by rw [hw0]; exact hk) x
  obtain ⟨V, hV⟩ : ∃ V, V = (x.b.map B).toArray := ⟨_, rfl⟩
  have hst2 : ∀ w', Keep [] w w' → ∃ w2, (Instr.storeAt 33 (.pointer (some ⟨t.g 0, k * 16, none⟩)) (.agg V)).run Try.prog w' = .ok () w2 ∧ Ht w2 t h (up2 T 0 k x) ∧ Keep [t.g 0] w' w2 := fun w' kk => by
    rw [hV]; exact ⟨_, hst w' kk⟩
  rw [← hV] at ldV
  clear hst hV hcl ob o5 hw0 hsz
  conv => arg 2; whnf
  refine wp_region_R (segT w []) (by kernel_rfl) segT_drew ?_
  unfold segT segK segR
  repeat (first | (refine wpV_skp rfl rfl ?_; simp only [List.set_cons_succ, List.set_cons_zero]) | (refine wpV_val rfl rfl rfl rfl rfl _ (fun w hC => by obtain ⟨n, rfl⟩ := hC; exact exec_load (ldV _ n.h)) ?_; simp only [List.set_cons_succ, List.set_cons_zero]) | (refine wpV_look rfl rfl rfl rfl rfl (fun K hK => ?_); go_big_quiet_op; refine hK _ ?_; clear hK K))
  refine wpV_end0 rfl rfl (by kernel_rfl) (fun w7 hC hF => ?_)
  obtain ⟨⟨w7, hk7, -⟩, rfl⟩ := hC
  obtain ⟨w8, r8, a8, k8⟩ := hst2 w7 hk7
  unfold yields
  rw [exec_store r8]
  simp only [yUpon]
  exact hQ w8 a8 ((Keep.of_nil hk7).trans k8)
end Go.Proofs.Ytfmnkcmicbnfdaa

namespace Go.Proofs.Ytfmnkcmicbnfdaa
open Go Go.RowKit

/-- Steps that turn only what may turn, or what is new. -/
theorem keep_step {A fp fp' : List Nat} {a b c : World} (k : Keep (A ++ fp) a b) (inn : ∀ g ∈ fp', g ∈ fp ∨ a.heap.size ≤ g) (k' : Keep (A ++ fp') b c) : Keep (A ++ fp) a c :=
  k.trans' k' fun i hi => by
    rcases List.mem_append.1 hi with h | h
    · exact .inl (List.mem_append_left _ h)
    · exact (inn i h).imp (fun h => List.mem_append_right _ h) id
theorem inn_step {fp fp' fq : List Nat} {a b : World} (inn : ∀ g ∈ fp', g ∈ fp ∨ a.heap.size ≤ g) (hs : a.heap.size ≤ b.heap.size) (in' : ∀ g ∈ fq, g ∈ fp' ∨ b.heap.size ≤ g) : ∀ g ∈ fq, g ∈ fp ∨ a.heap.size ≤ g := fun g hg => by
  rcases in' g hg with h | h
  · exact inn g h
  · exact .inr (Nat.le_trans hs h)

theorem own_cellsB {w : World} {e : TypeId} {q n c : Nat} {xs : List Value} (o : Own w e 1 (some ⟨q, 0, none⟩) n c xs) (h : 0 < n) : Cells w q 0 xs := by
  obtain ⟨g, off, eg, hcs⟩ := o.sl.hat h
  cases eg
  exact hcs

set_option maxRecDepth 100000 in
set_option maxHeartbeats 1000000 in
theorem putTC (t : Tre) (k : Nat) (hk : k < t.n) (x : B16) (hL : t.L = (wl t.n).length) (hn2 : t.n ≤ 1000) (hkey : t.key.length = 32) {h : Int → Bool} {T : Nat → Nat → B16} {FP : List Nat} {cs : List Clm} {lv : Nat → B16} (hT : Agr t.key t.n t.L lv T) (hcs : cs.length ≤ 90000) (w : World) (a : HB w t h T FP cs) (R : Ending → World → Prop)
    (hR : ∀ (FP' : List Nat) (ds : List Clm) (T' : Nat → Nat → B16) (w' : World), HB w' t h T' FP' (cs ++ ds) → Agr t.key t.n t.L (upL lv k x) T' → (∀ d ∈ ds, NodeC t.key d) → ds.length ≤ t.L → Keep (t.hard ++ FP) w w' → (∀ g ∈ FP', g ∈ FP ∨ w.heap.size ≤ g) → R (.returned (.tuple #[])) w') :
    Calls Try.prog 62 #[.pointer (some ⟨t.p, 0, none⟩), .int .i64 (k : Int), .agg (x.b.map B).toArray] w R := by
  have hml : maxLen = 9223372036854775807 := rfl
  have hwl := wl_len t.n
  have hL0 : 0 < t.L := by
    rw [hL]
    by_cases h : t.n ≤ 1
    · rw [wl_one h]; simp
    · rw [wl_more h]; simp
  have hlt := a.lt
  have hlt2 := a.ht.lt
  have ob : Own (w.alloc (.cells (x.b.map B).toArray 33)) 33 1 (some ⟨w.heap.size, 0, none⟩) 16 16 (x.b.map B) := Own.made (n := 16) (sz := 1) (heap_alloc_new w (.cells (x.b.map B).toArray 33)) (by simp [x.h]) (by omega) (by simpa using B_one x.b)
  have ga := Grow.alloc w (.cells (x.b.map B).toArray 33)
  have a1 := a.grow ga
  have hs := fun R => sizeTC (R := R) a1.ht hL0
  have hw := fun w R hR => wayC t.n k (by simp [Lit.wf, IntKind.min, IntKind.max, IntKind.signed, IntKind.bits]; omega) w R hR
  rw [way_at t.n k (by omega) (by omega) hk, wayN_len, ← hL] at hw
  obtain ⟨V, hV⟩ : ∃ V, V = (x.b.map B).toArray := ⟨_, rfl⟩
  have HV := Lib.hid hV
  have HL := Lib.hid hL
  have hL1 : t.L ≤ 1001 := by omega
  have hwi0 := fun j (hj : j < t.L) => way_in t.n k hk j (by omega)
  clear hL hwl
  rw [← hV] at ob ga a1 hs ⊢
  clear hV
  go_enter Try.func62, Try.ntmps62
  go_wp2_with fail
  obtain ⟨q5, hq5⟩ : ∃ q, q = w.heap.size := ⟨_, rfl⟩
  have hz5 := Nat.le_of_eq hq5.symm
  generalize w.alloc (.cells V 33) = w1 at *
  rw [← hq5] at ob ⊢
  clear hq5
  refine hs _ ?_
  clear hs
  go_wp2_with fail
  refine hw w1 _ ?_
  clear hw
  intro po pc w2 op g2 fp
  have a2 := a1.grow g2
  have ob2 := ob.grow g2
  have g12 := ga.trans g2
  have hz2 := g12.size
  have hz1 := ga.size
  have hpo := op.lt
  clear ob ga a1 g2
  go_wp2_with fail
  go_loopw [13] (fun vi wr => ∃ (j : Nat) (FP' : List Nat) (ds : List Clm) (T' : Nat → Nat → B16), vi = .int .i64 (j : Int) ∧ j ≤ t.L ∧ HB wr t h T' FP' (cs ++ ds) ∧ Hid (PutI t.key t.n t.L lv k x j T') ∧ Hid (∀ d ∈ ds, NodeC t.key d) ∧ ds.length ≤ j ∧ Keep (t.hard ++ FP) w2 wr ∧ Hid (∀ g ∈ FP', g ∈ FP ∨ w2.heap.size ≤ g)) (fun vi _ => t.L - (intOf vi).toNat)
  case atStart => exact ⟨0, FP, [], T, rfl, by omega, by simpa using a2, Lib.hid (PutI.zero hT), Lib.hid (by simp), by simp, Keep.refl _ _, Lib.hid (fun g hg => .inl hg)⟩
  case round =>
    clear a2
    obtain ⟨j, FP', ds, T', rfl, hj, a3, hput, hds, hdl, k3, in3⟩ := hrel
    have hnot : ∀ y, y < w2.heap.size → (w.heap.size ≤ y) → y ∉ t.hard ++ FP := fun y _ hy hm => by have := hlt y hm; omega
    by_cases hlt3 : j < t.L
    · obtain ⟨gk, offk, ek, hck⟩ := (op.sl.keep k3 (fun g hg => hnot g (hpo g hg) (by have := fp g hg; omega))).hat (by omega)
      subst ek
      obtain ⟨c0, c1⟩ := way_cells hck j hlt3
      have hsl := op.sl.hle
      have hsm := op.sl.hcap
      have hwi := hwi0 j hlt3
      have hwle := lw_le t.n j
      by_cases hj0 : j = 0
      · subst hj0
        have c0' : wr.cell? ⟨gk, offk, none⟩ = some (.int .i64 0) := by simpa using c0
        have c1' : wr.cell? ⟨gk, offk + 1, none⟩ = some (.int .i64 (k : Int)) := by simpa using c1
        clear hwi hwle hck c0 c1
        go_upto_region 5 with (fail)
        have g4 := Grow.alloc wr (.cells #[.int .i64 0, .int .i64 (k : Int)] 76)
        have a4 := a3.grow g4
        have o4 := (ob2.keep k3 (fun g hg => hnot g (ob2.lt g hg) (by simp [blk] at hg; omega))).grow g4
        refine put5 t k q5 hL0 hk (by omega) x _ a4.ht (own_cellsB o4 (by omega)) ?_
        intro w5 a5 k5
        intros
        have hd5 : ∀ y ∈ [t.g 0], y ∈ t.hard := fun y hy => by simp at hy; subst hy; exact Tre.ghard hL0
        have a6 : HB w5 t h (up2 T' 0 k x) FP' (cs ++ ds) := ⟨a5, a4.bk.keep k5 (fun y hy hm => (a4.d y hy).1 (hd5 y hm)), a4.d⟩
        have k6 : Keep (t.hard ++ FP) w2 w5 := (k3.trans (Keep.of_grow _ g4)).trans (k5.mono (fun y hy => List.mem_append_left _ (hd5 y hy)))
        have Hp := Lib.hid hput.out.leaf
        clear g4 a4 o4 a5 k5 a3 k3 hput
        go_wp2_with fail
        go_roundw
        case rel => exact ⟨1, FP', ds, _, rfl, by omega, a6, Hp, hds, by omega, k6, in3⟩
        case measure => simp [intOf]; omega
      · obtain ⟨l, hl⟩ : ∃ l, j = l + 1 := ⟨j - 1, by omega⟩
        have Hl := Lib.hid hl
        obtain ⟨d, hd⟩ : ∃ d, d = k / 4 ^ j := ⟨_, rfl⟩
        rw [← hd] at c1 hwi
        have Hd := Lib.hid hd
        clear hl hd hck
        go_wp2_with fail
        have g4 := Grow.alloc wr (.cells #[.int .i64 (j : Int), .int .i64 (d : Int)] 76)
        refine renewC t j l d Hl hlt3 hwi (by omega) (by omega) hkey (by rw [List.length_append]; omega) _ (a3.grow g4) _ ?_
        intro FP5 w5 a5 k5 in5
        have hp := hput.out
        rw [Hl.out] at hp
        have hp2 := hp.step (by rw [← Hl.out]; exact hlt3)
        rw [← Hl.out, ← Hd.out] at hp2
        have Hp : Hid (PutI t.key t.n t.L lv k x (j + 1) (up2 T' j d (nodeT t.key j d (kidsB t.n T' l d)))) := Lib.hid (by rw [show j + 1 = l + 2 by rw [Hl.out]]; exact hp2)
        have k6 := keep_step (k3.trans (Keep.of_grow _ g4)) in3.out k5
        have in6 := Lib.hid (inn_step in3.out (Nat.le_trans k3.size g4.size) in5)
        rw [List.append_assoc] at a5
        have Hd2 : Hid (∀ e ∈ ds ++ [clmS t.key (framS (nodeP j d (kidsB t.n T' l d))) true], NodeC t.key e) := Lib.hid (fun e he => by
          rcases List.mem_append.1 he with h | h
          · exact hds.out e h
          · simp at h; exact ⟨_, _, _, by rw [kidsB_len]; exact kn_le _ _ _, h⟩)
        have hdl2 : (ds ++ [clmS t.key (framS (nodeP j d (kidsB t.n T' l d))) true]).length ≤ j + 1 := by rw [List.length_append]; simpa using hdl
        clear g4 a3 k3 k5 in5 hp hp2 hput hds hdl in3
        go_wp2_with fail
        go_roundw
        case rel => exact ⟨j + 1, FP5, _, _, by go_num, by omega, a5, Hp, Hd2, hdl2, k6, in6⟩
        case measure => simp [intOf]; omega
    · obtain rfl : j = t.L := by omega
      have hfin := hR FP' ds T' wr a3 hput.out.done hds.out hdl ((Keep.of_grow _ g12).trans k3) (inn_step (fun g hg => .inl hg) hz2 in3.out)
      clear hR
      go_wp2_with fail
      exact bodyPost_end (v := .tuple #[]) (by simp [results, Try.results62]) rfl hfin
end Go.Proofs.Ytfmnkcmicbnfdaa

namespace Go.Proofs.Ytfmnkcmicbnfdaa
open Go Go.RowKit

/-- What stands at a place; nothing where there is none. -/
def nodeA (n : Nat) (T : Nat → Nat → B16) (level i : Int) : B16 := if 0 ≤ i ∧ i < (wid n level : Int) then T level.toNat i.toNat else B0


set_option maxRecDepth 100000 in
set_option maxHeartbeats 1000000 in
theorem node1n (p q3 : Nat) (level i : Int) (hi : i < 0) {c1 c2 c4 c5 c6 c7 c8 c9 c10 c11 c12 c13 c14 c15 c16 c17 c18 c19 c20 c21 c22 c23 c24 c25 c26 c27 c28 c29 c30 : Value} (w : World) (o3 : w.heap[q3]? = some (.cells #[.int .i64 level, .int .i64 i] 76 (0, 0))) {Q : Exit → Act → World → Prop}
    (hQ : ∀ (w' : World), Grow w w' → ∀ {u5 u6 u7 u8 u9 u10 u11 u12 u13 u14 u15 u16 : Value}, Q .normal ⟨List.toArray (.pointer (some ⟨p, 0, none⟩) :: c1 :: c2 :: .pointer (some ⟨q3, 0, none⟩) :: c4 :: u5 :: u6 :: u7 :: u8 :: u9 :: u10 :: u11 :: u12 :: u13 :: u14 :: u15 :: u16 :: .bool true :: c18 :: c19 :: c20 :: c21 :: c22 :: c23 :: c24 :: c25 :: c26 :: c27 :: c28 :: c29 :: c30 :: []), []⟩ w') :
    Code.wp Try.prog (regionAt Try.f45 1) Q ⟨List.toArray (.pointer (some ⟨p, 0, none⟩) :: c1 :: c2 :: .pointer (some ⟨q3, 0, none⟩) :: c4 :: c5 :: c6 :: c7 :: c8 :: c9 :: c10 :: c11 :: c12 :: c13 :: c14 :: c15 :: c16 :: c17 :: c18 :: c19 :: c20 :: c21 :: c22 :: c23 :: c24 :: c25 :: c26 :: c27 :: c28 :: c29 :: c30 :: []), []⟩ w := by
  have q1 := KW.cell (fp := []) (p0 := tt) (obj_cell o3 1 rfl) (by simp)
  have hd : decide (i < 0) = true := decide_eq_true hi
  clear hi o3
  conv => arg 2; whnf
  refine wp_region_R (segT w []) (by kernel_rfl) segT_drew ?_
  unfold segT segK segR
  repeat (first | (refine wpV_skp rfl rfl ?_; simp only [List.set_cons_succ, List.set_cons_zero]) | (refine wpV_look rfl rfl rfl rfl rfl (fun K hK => ?_); go_big_quiet_op; refine hK _ ?_; clear hK K))
  refine wpV_nil ?_
  intro w2 hC hF
  obtain ⟨⟨w2, hkw2, -⟩, rfl⟩ := hC
  clear hF
  exact hQ _ hkw2.grow
set_option maxRecDepth 100000 in
set_option maxHeartbeats 1000000 in
theorem node1 (p q3 n wd : Nat) (level i : Int) (b : Bool) (hi : 0 ≤ i) (hd : decide ((wd : Int) ≤ i) = b) {c1 c2 c4 c5 c6 c7 c8 c9 c10 c11 c12 c13 c14 c15 c16 c17 c18 c19 c20 c21 c22 c23 c24 c25 c26 c27 c28 c29 c30 : Value} (w : World) (o3 : w.heap[q3]? = some (.cells #[.int .i64 level, .int .i64 i] 76 (0, 0)))
    (hs : ∀ w', Grow w w' → ∀ R : Ending → World → Prop, R (.returned (.int .i64 (n : Int))) w' → Calls Try.prog 47 #[.pointer (some ⟨p, 0, none⟩)] w' R)
    (hwid : ∀ (w : World) (R : Ending → World → Prop), (∀ w', Grow w w' → R (.returned (.int .i64 (wd : Int))) w') → Calls Try.prog 44 #[.int .i64 (n : Int), .int .i64 level] w R) {Q : Exit → Act → World → Prop}
    (hQ : ∀ (w' : World), Grow w w' → ∀ {u5 u6 u7 u8 u9 u10 u11 u12 u13 u14 u15 u16 : Value}, Q .normal ⟨List.toArray (.pointer (some ⟨p, 0, none⟩) :: c1 :: c2 :: .pointer (some ⟨q3, 0, none⟩) :: c4 :: u5 :: u6 :: u7 :: u8 :: u9 :: u10 :: u11 :: u12 :: u13 :: u14 :: u15 :: u16 :: .bool b :: c18 :: c19 :: c20 :: c21 :: c22 :: c23 :: c24 :: c25 :: c26 :: c27 :: c28 :: c29 :: c30 :: []), []⟩ w') :
    Code.wp Try.prog (regionAt Try.f45 1) Q ⟨List.toArray (.pointer (some ⟨p, 0, none⟩) :: c1 :: c2 :: .pointer (some ⟨q3, 0, none⟩) :: c4 :: c5 :: c6 :: c7 :: c8 :: c9 :: c10 :: c11 :: c12 :: c13 :: c14 :: c15 :: c16 :: c17 :: c18 :: c19 :: c20 :: c21 :: c22 :: c23 :: c24 :: c25 :: c26 :: c27 :: c28 :: c29 :: c30 :: []), []⟩ w := by
  have q0 := KW.cell (fp := []) (p0 := tt) (obj_cell o3 0 rfl) (by simp)
  have q1 := KW.cell (fp := []) (p0 := tt) (obj_cell o3 1 rfl) (by simp)
  have hd0 : decide (i < 0) = false := decide_eq_false (by omega)
  clear hi o3
  conv => arg 2; whnf
  refine wp_region_R (segT w [(7, pIs (.int .i64 (n : Int))), (10, pIs (.int .i64 (wd : Int)))]) (by kernel_rfl) segT_drew ?_
  unfold segT segK segR
  repeat (first | (refine wpV_skp rfl rfl ?_; simp only [List.set_cons_succ, List.set_cons_zero]) | (refine wpV_look rfl rfl rfl rfl rfl (fun K hK => ?_); go_big_quiet_op; refine hK _ ?_; clear hK K))
  refine wpV_mk rfl rfl rfl [] (by kernel_rfl) (fun vs w7 hC _ => yields_call (by kernel_rfl) ?_) (fun vs v w7 hC hV hF => ?_)
  · obtain ⟨⟨w7, hk7, -⟩, rfl⟩ := hC
    exact hs w7 hk7.grow _ ⟨_, rfl, ⟨Keep.refl [] _, trivial⟩, rfl⟩
  obtain rfl := hV
  clear hC hF w7
  simp only [List.set_cons_succ, List.set_cons_zero]
  repeat (first | (refine wpV_skp rfl rfl ?_; simp only [List.set_cons_succ, List.set_cons_zero]) | (refine wpV_look rfl rfl rfl rfl rfl (fun K hK => ?_); go_big_quiet_op; refine hK _ ?_; clear hK K))
  refine wpV_mk rfl rfl rfl [] rfl (fun vs w7 hC _ => yields_call (by kernel_rfl) ?_) (fun vs v w7 hC hV hF => ?_)
  · obtain ⟨⟨w7, hk, -⟩, rfl⟩ := hC
    exact hwid w7 _ (fun w8 g8 => ⟨_, rfl, ⟨Keep.of_grow [] g8, trivial⟩, rfl⟩)
  obtain rfl := hV
  clear hC hF w7
  simp only [List.set_cons_succ, List.set_cons_zero]
  repeat (first | (refine wpV_skp rfl rfl ?_; simp only [List.set_cons_succ, List.set_cons_zero]) | (refine wpV_look rfl rfl rfl rfl rfl (fun K hK => ?_); go_big_quiet_op; refine hK _ ?_; clear hK K))
  refine wpV_nil ?_
  intro w2 hC hF
  obtain ⟨⟨w2, hkw2, -⟩, rfl⟩ := hC
  clear hF
  exact hQ _ hkw2.grow


set_option maxRecDepth 100000 in
set_option maxHeartbeats 1000000 in
theorem node3 (t : Tre) (q3 q4 l i : Nat) {h : Int → Bool} {T : Nat → Nat → B16} (hl : l < t.L) (hi : i < lw t.n l) {c1 c2 c5 c6 c7 c8 c9 c10 c11 c12 c13 c14 c15 c16 c17 c18 c19 c20 c21 c22 c23 c24 c25 c26 c27 c28 c29 c30 : Value} (w : World) (a : Ht w t h T) (o3 : w.heap[q3]? = some (.cells #[.int .i64 (l : Int), .int .i64 (i : Int)] 76 (0, 0))) (o4 : Own w 33 1 (some ⟨q4, 0, none⟩) 16 16 (List.replicate 16 (.int .u8 0))) {Q : Exit → Act → World → Prop}
    (hQ : ∀ (w' : World), Own w' 33 1 (some ⟨q4, 0, none⟩) 16 16 ((T l i).b.map B) → Keep [q4] w w' → ∀ {u19 u20 u21 u22 u23 u24 u25 u26 u27 u28 u29 u30 : Value}, Q .normal ⟨List.toArray (.pointer (some ⟨t.p, 0, none⟩) :: c1 :: c2 :: .pointer (some ⟨q3, 0, none⟩) :: .pointer (some ⟨q4, 0, none⟩) :: c5 :: c6 :: c7 :: c8 :: c9 :: c10 :: c11 :: c12 :: c13 :: c14 :: c15 :: c16 :: c17 :: c18 :: u19 :: u20 :: u21 :: u22 :: u23 :: u24 :: u25 :: u26 :: u27 :: u28 :: u29 :: u30 :: []), []⟩ w') :
    Code.wp Try.prog (regionAt Try.f45 3) Q ⟨List.toArray (.pointer (some ⟨t.p, 0, none⟩) :: c1 :: c2 :: .pointer (some ⟨q3, 0, none⟩) :: .pointer (some ⟨q4, 0, none⟩) :: c5 :: c6 :: c7 :: c8 :: c9 :: c10 :: c11 :: c12 :: c13 :: c14 :: c15 :: c16 :: c17 :: c18 :: c19 :: c20 :: c21 :: c22 :: c23 :: c24 :: c25 :: c26 :: c27 :: c28 :: c29 :: c30 :: []), []⟩ w := by
  have hml : maxLen = 9223372036854775807 := rfl
  have hsz : (Try.prog.info? 33).map (·.size) = some ((T l i).b.map B).length := by rw [bV_len]; exact i16
  have htg := a.tag hl hi
  have ldV : ∀ w', Keep [] w w' → (Instr.loadAt 33 (.pointer (some ⟨t.g l, i * 16, none⟩))).run Try.prog w' = .ok (.agg ((T l i).b.map B).toArray) w' := fun w' k => run_ld Try.underlying33 rfl hsz (htg.keep k (by simp))
  obtain ⟨gl, off, hlo, hcl, -⟩ := a.level hl
  have ob := a.obj
  rw [hlo] at ob
  have hl1 := a.lev.sl.hle
  have hl2 := a.lev.sl.hcap
  have hrl := (a.row l hl).sl.hle
  have hrm := (a.row l hl).sl.hcap
  unfold Tre.rv at hcl
  have q1 := KW.cell (fp := []) (p0 := tt) (obj_cell ob 2 rfl) (by simp)
  have q2 := KW.cell (fp := []) (p0 := tt) hcl (by simp)
  have q5 := KW.cell (fp := []) (p0 := tt) (obj_cell o3 0 rfl) (by simp)
  have q6 := KW.cell (fp := []) (p0 := tt) (obj_cell o3 1 rfl) (by simp)
  have hVl := bV_len (T l i)
  have hV1 := B_one (T l i).b
  obtain ⟨V, hV⟩ : ∃ V, V = (T l i).b.map B := ⟨_, rfl⟩
  rw [← hV] at ldV hVl hV1
  rw [← hV] at hQ
  clear hV htg hsz a ob hcl o3
  conv => arg 2; whnf
  refine wp_region_R (segT w []) (by kernel_rfl) segT_drew ?_
  unfold segT segK segR
  repeat (first | (refine wpV_skp rfl rfl ?_; simp only [List.set_cons_succ, List.set_cons_zero]) | (refine wpV_val rfl rfl rfl rfl rfl _ (fun w hC => by obtain ⟨n, rfl⟩ := hC; exact exec_load (ldV _ n.h)) ?_; simp only [List.set_cons_succ, List.set_cons_zero]) | (refine wpV_look rfl rfl rfl rfl rfl (fun K hK => ?_); go_big_quiet_op; refine hK _ ?_; clear hK K))
  refine wpV_end0 rfl rfl (by kernel_rfl) (fun w7 hC hF => ?_)
  obtain ⟨⟨w7, hk7, -⟩, rfl⟩ := hC
  obtain ⟨r1, r3, r4⟩ := store_arr (P := Try.prog) hVl hV1 (o4.keep hk7 (by simp)) i16
  unfold yields
  rw [exec_store r1]
  simp only [yUpon]
  exact hQ _ r3 ((Keep.of_nil hk7).trans r4)

set_option maxRecDepth 100000 in
set_option maxHeartbeats 1000000 in
theorem nodeTC {w : World} {t : Tre} {h : Int → Bool} {T : Nat → Nat → B16} (a : Ht w t h T) (hL : t.L = (wl t.n).length) (hn1 : 1 ≤ t.n) (hn2 : t.n ≤ 1000) (level i : Int) (R : Ending → World → Prop) (hR : ∀ w', Grow w w' → R (.returned (.agg ((nodeA t.n T level i).b.map B).toArray)) w') :
    Calls Try.prog 45 #[.pointer (some ⟨t.p, 0, none⟩), .agg #[.int .i64 level, .int .i64 i]] w R := by
  have hml : maxLen = 9223372036854775807 := rfl
  have hwf : (Lit.int .i64 (t.n : Int)).wf = true := by simp [Lit.wf, IntKind.min, IntKind.max, IntKind.signed, IntKind.bits]; omega
  have hL0 : 0 < t.L := by
    rw [hL]
    by_cases h : t.n ≤ 1
    · rw [wl_one h]; simp
    · rw [wl_more h]; simp
  have o3 := alloc_new w (.cells #[.int .i64 level, .int .i64 i] 76)
  have g3 := Grow.alloc w (.cells #[.int .i64 level, .int .i64 i] 76)
  have z3 : (w.alloc (.cells #[.int .i64 level, .int .i64 i] 76)).heap.size = w.heap.size + 1 := by simp
  have o4 : Own ((w.alloc (.cells #[.int .i64 level, .int .i64 i] 76)).alloc (.cells (List.replicate 16 (.int .u8 0)).toArray 33)) 33 1 (some ⟨(w.alloc (.cells #[.int .i64 level, .int .i64 i] 76)).heap.size, 0, none⟩) 16 16 (List.replicate 16 (.int .u8 0)) := own_new _ _ rfl (by omega)
  have g4 := Grow.alloc (w.alloc (.cells #[.int .i64 level, .int .i64 i] 76)) (.cells (List.replicate 16 (.int .u8 0)).toArray 33)
  have o34 := g4.block o3
  rw [z3] at o4
  have G := g3.trans g4
  have a4 := a.grow G
  have hsz : (Try.prog.info? 33).map (·.size) = some (B0.b.map B).toArray.size := by rw [List.size_toArray, bV_len]; exact i16
  go_enter Try.func45, Try.ntmps45
  go_upto_region 1 with (fail)
  change Code.wp _ _ _ ⟨_, _⟩ ((w.alloc (.cells #[.int .i64 level, .int .i64 i] 76)).alloc (.cells (List.replicate 16 (.int .u8 0)).toArray 33))
  generalize (w.alloc (.cells #[.int .i64 level, .int .i64 i] 76)).alloc (.cells (List.replicate 16 (.int .u8 0)).toArray 33) = w4 at *
  obtain ⟨q3, hq3⟩ : ∃ q, q = w.heap.size := ⟨_, rfl⟩
  obtain ⟨q4, hq4⟩ : ∃ q, q = w.heap.size + 1 := ⟨_, rfl⟩
  rw [← hq4] at o4
  rw [← hq3] at o34
  rw [show w.heap.size = q3 from hq3.symm, show q3 + 1 = q4 by omega]
  have hz4 : w.heap.size ≤ q4 := by omega
  have hq4p : ∀ x, x ∈ t.hard ∨ x ∈ t.soft → x ≠ q4 := fun x hx e => by have := a.lt x hx; omega
  clear o3 g3 z3 g4 hq3 hq4
  by_cases hi0 : i < 0
  · have e : nodeA t.n T level i = B0 := by unfold nodeA; rw [if_neg (by omega)]
    rw [e] at hR
    refine node1n t.p q3 level i hi0 w4 o34 ?_
    intro w5 g5
    intros
    have o5 := o4.grow g5
    obtain ⟨r1, r3, r4⟩ := store_arr (P := Try.prog) (bV_len B0) (B_one B0.b) o5 i16
    have th := own_there o5 (B0.b.map B).toArray.size (by rw [List.size_toArray]; exact bV_len B0)
    have hal := one_all (B_one B0.b)
    have hf := hR _ ((G.trans g5).then r4 (fun x hx => by simp at hx; omega))
    have hz : B0.b.map B = List.replicate 16 (.int .u8 0) := rfl
    rw [hz] at th hal r3 r4 hf hsz
    clear hR r1 o5
    go_wp2_with (refine wpList_store_mid rfl 33 _ _ rfl q4 0 (List.replicate 16 (.int .u8 0)).toArray rfl rfl th hsz hal ?_)
    simp only [List.replicate] at r3 hf
    exact bodyPost_ret (ret_bytes Try.results45 _ _ q4 _ _ _ 16 rfl r3 (by decide) Try.underlying33 rfl i16) rfl hf
  · have hs : ∀ w', Grow w4 w' → ∀ R : Ending → World → Prop, R (.returned (.int .i64 (t.n : Int))) w' → Calls Try.prog 47 #[.pointer (some ⟨t.p, 0, none⟩)] w' R := fun w' g => sizeTC (a4.grow g) hL0
    have hwid : ∀ (w : World) (R : Ending → World → Prop), (∀ w', Grow w w' → R (.returned (.int .i64 (wid t.n level : Int))) w') → Calls Try.prog 44 #[.int .i64 (t.n : Int), .int .i64 level] w R := fun w R hR => widthC t.n level hwf w R hR
    by_cases hin : (wid t.n level : Int) ≤ i
    · have e : nodeA t.n T level i = B0 := by unfold nodeA; rw [if_neg (by omega)]
      rw [e] at hR
      refine node1 t.p q3 t.n (wid t.n level) level i true (by omega) (decide_eq_true hin) w4 o34 hs hwid ?_
      clear hs hwid
      intro w5 g5
      intros
      have o5 := o4.grow g5
      obtain ⟨r1, r3, r4⟩ := store_arr (P := Try.prog) (bV_len B0) (B_one B0.b) o5 i16
      have th := own_there o5 (B0.b.map B).toArray.size (by rw [List.size_toArray]; exact bV_len B0)
      have hal := one_all (B_one B0.b)
      have hf := hR _ ((G.trans g5).then r4 (fun x hx => by simp at hx; omega))
      have hz : B0.b.map B = List.replicate 16 (.int .u8 0) := rfl
      rw [hz] at th hal r3 r4 hf hsz
      clear hR r1 o5
      go_wp2_with (refine wpList_store_mid rfl 33 _ _ rfl q4 0 (List.replicate 16 (.int .u8 0)).toArray rfl rfl th hsz hal ?_)
      simp only [List.replicate] at r3 hf
      exact bodyPost_ret (ret_bytes Try.results45 _ _ q4 _ _ _ 16 rfl r3 (by decide) Try.underlying33 rfl i16) rfl hf
    · have hlev := wid_level (n := t.n) (level := level) (by omega)
      obtain ⟨l, rfl⟩ : ∃ l : Nat, level = l := ⟨level.toNat, by omega⟩
      obtain ⟨k, rfl⟩ : ∃ k : Nat, i = k := ⟨i.toNat, by omega⟩
      have hwl : wid t.n (l : Int) = lw t.n l := wid_lw t.n l hn1 (by omega)
      have hk : k < lw t.n l := by rw [← hwl]; omega
      have hl : l < t.L := by
        rw [hL]
        rcases Nat.lt_or_ge l (wl t.n).length with h | h
        · exact h
        · exfalso
          have : lw t.n l = 0 := by
            unfold lw
            rw [List.getD_eq_getElem?_getD, List.getElem?_eq_none h]
            rfl
          omega
      have e : nodeA t.n T l k = T l k := by unfold nodeA; rw [if_pos ⟨by omega, by omega⟩]; simp
      rw [e] at hR
      refine node1 t.p q3 t.n (wid t.n l) l k false (by omega) (decide_eq_false (by omega)) w4 o34 hs hwid ?_
      clear hs hwid hwl hlev hin hi0 hL e
      intro w5 g5
      intros
      go_upto_region 3 with (fail)
      refine node3 t q3 q4 l k hl hk w5 (a4.grow g5) (g5.block o34) (o4.grow g5) ?_
      intro w6 r6 k6
      intros
      have hf := hR _ ((G.trans g5).then k6 (fun x hx => by simp at hx; omega))
      obtain ⟨V, hV⟩ : ∃ V, V = (T l k).b.map B := ⟨_, rfl⟩
      rw [← hV] at hf r6
      clear hR hV
      go_wp2_with fail
      exact bodyPost_ret (v := .agg V.toArray) (ret_bytes Try.results45 _ _ q4 V _ _ 16 rfl r6 (by decide) Try.underlying33 rfl i16) rfl hf
end Go.Proofs.Ytfmnkcmicbnfdaa

namespace Go.Proofs.Ytfmnkcmicbnfdaa
open Go Go.RowKit

theorem made2r (w : World) (Z : List Value) (hZ : Z = List.replicate 64 (.int .u8 0)) (e : TypeId) :
    Own ((w.alloc (.cells Z.toArray e)).alloc (.cells Z.toArray e)).drew e 1 (some ⟨w.heap.size, 0, none⟩) 64 64 (List.replicate 64 (.int .u8 0)) ∧ Own ((w.alloc (.cells Z.toArray e)).alloc (.cells Z.toArray e)).drew e 1 (some ⟨w.heap.size + 1, 0, none⟩) 64 64 (List.replicate 64 (.int .u8 0)) ∧ Grow w ((w.alloc (.cells Z.toArray e)).alloc (.cells Z.toArray e)).drew := by
  subst hZ
  have oa := (own_new (t := e) (n := 64) w (.int .u8 0) rfl (by decide)).grow (Grow.alloc _ (.cells (List.replicate 64 (.int .u8 0)).toArray e))
  have ob := own_new (t := e) (n := 64) (w.alloc (.cells (List.replicate 64 (.int .u8 0)).toArray e)) (.int .u8 0) rfl (by decide)
  rw [sz_al] at ob
  have gab := (Grow.alloc w (.cells (List.replicate 64 (.int .u8 0)).toArray e)).trans (Grow.alloc _ (.cells (List.replicate 64 (.int .u8 0)).toArray e))
  have kd := Keep.drew [] ((w.alloc (.cells (List.replicate 64 (.int .u8 0)).toArray e)).alloc (.cells (List.replicate 64 (.int .u8 0)).toArray e))
  exact ⟨oa.keep kd (by simp), ob.keep kd (by simp), gab.trans kd.grow⟩



set_option maxRecDepth 100000 in
set_option maxHeartbeats 1000000 in
theorem rMacPad (k0 : List UInt8) (hk0 : k0.length ≤ 64) (n : Nat) (hn : n = k0.length) (ao : Option Addr) (c : Nat) {c0 c1 c2 c3 c4 c5 c6 c8 c9 c10 c11 c12 c13 c14 c15 c16 c17 c18 c19 c20 c21 c22 c23 c24 c25 c26 c27 c28 c29 c30 c31 c32 c33 c34 c35 c36 c37 c38 c39 c40 c41 c42 c43 c44 c45 c46 c47 c48 c49 c50 c51 c52 c53 c54 c55 c56 c57 c58 c59 c60 c61 c62 : Value} (w0 w : World) (own : Own w 5 1 ao n c (k0.map B)) (fr : Fr (blk ao) w0) (g : Grow w0 w) {Q : Exit → Act → World → Prop}
    (hQ : ∀ (ao' : Option Addr) (c' : Nat) (w' : World), Own w' 5 1 ao' 64 c' ((k0 ++ List.replicate (64 - k0.length) 0).map B) → Fr (blk ao') w0 → Grow w0 w' → ∀ {u25 u26 u27 u28 u29 u30 : Value}, Q .normal ⟨List.toArray (c0 :: c1 :: c2 :: c3 :: c4 :: c5 :: c6 :: .slice ao' 64 c' :: c8 :: c9 :: c10 :: c11 :: c12 :: c13 :: c14 :: c15 :: c16 :: c17 :: c18 :: c19 :: c20 :: c21 :: c22 :: c23 :: c24 :: u25 :: u26 :: u27 :: u28 :: u29 :: u30 :: c31 :: c32 :: c33 :: c34 :: c35 :: c36 :: c37 :: c38 :: c39 :: c40 :: c41 :: c42 :: c43 :: c44 :: c45 :: c46 :: c47 :: c48 :: c49 :: c50 :: c51 :: c52 :: c53 :: c54 :: c55 :: c56 :: c57 :: c58 :: c59 :: c60 :: c61 :: c62 :: []), []⟩ w') :
    Code.wp Try.prog (blockAt Try.f94 0) Q ⟨List.toArray (c0 :: c1 :: c2 :: c3 :: c4 :: c5 :: c6 :: .slice ao n c :: c8 :: c9 :: c10 :: c11 :: c12 :: c13 :: c14 :: c15 :: c16 :: c17 :: c18 :: c19 :: c20 :: c21 :: c22 :: c23 :: c24 :: c25 :: c26 :: c27 :: c28 :: c29 :: c30 :: c31 :: c32 :: c33 :: c34 :: c35 :: c36 :: c37 :: c38 :: c39 :: c40 :: c41 :: c42 :: c43 :: c44 :: c45 :: c46 :: c47 :: c48 :: c49 :: c50 :: c51 :: c52 :: c53 :: c54 :: c55 :: c56 :: c57 :: c58 :: c59 :: c60 :: c61 :: c62 :: []), []⟩ w := by
  have hml : maxLen = 9223372036854775807 := rfl
  subst hn
  conv => arg 2; whnf
  refine wp_block ?_
  go_loopw [7] (fun vr wr => ∃ (L : List UInt8) (ro : Option Addr) (rc : Nat), vr = .slice ro L.length rc ∧ L.length ≤ 64 ∧ k0.length ≤ L.length ∧ Hid (L = k0 ++ List.replicate (L.length - k0.length) 0) ∧ Own wr 5 1 ro L.length rc (L.map B) ∧ Fr (blk ro) w0 ∧ Grow w0 wr) (fun vr _ => 64 - lenV vr)
  case atStart => exact ⟨k0, ao, c, rfl, hk0, Nat.le_refl _, Lib.hid (by simp), own, fr, g⟩
  case round =>
    clear own fr g
    obtain ⟨L, ro, rc, rfl, hL, hLk, hLe, ho, hf, hg⟩ := hrel
    by_cases hlt : L.length < 64
    · have hnx : Hid (L ++ [0] = k0 ++ List.replicate ((L ++ [0]).length - k0.length) 0) := Lib.hid (by
        have h := hLe.out
        rw [List.length_append, List.length_singleton, show L.length + 1 - k0.length = (L.length - k0.length) + 1 by omega, List.replicate_succ', ← List.append_assoc, ← h])
      clear hQ hLe
      go_wp2_with (at_builtin; refine wpList_app TBy rfl rfl (ho.grow (Grow.alloc _ _)) (Own.made (n := 1) (heap_alloc_new _ _) rfl (by decide) (by simp [Value.oneCell'])).sl (by omega) (by omega) ?_; intro ao' cap' w9 hown _ hkeep hblk)
      have hg2 := (hg.trans (Grow.alloc wr _)).then hkeep hf
      have hf2 : Fr (blk ao') w0 := fun y hy => by
        rcases hblk y hy with h | h
        · exact hf y h
        · have := hg.size; simp at h; omega
      have e1 : L.length + 1 = (L ++ [0]).length := by simp
      have e2 : ∀ v : Value, v = B 0 → L.map B ++ [v] = (L ++ [0]).map B := by rintro v rfl; simp
      rw [e1] at hown ⊢
      clear hkeep hblk ho hf hg
      go_roundw
      case rel => exact ⟨L ++ [0], ao', cap', rfl, by simp; omega, by simp; omega, hnx, by simpa [B] using hown, hf2, hg2⟩
      case measure => simp [lenV]; omega
    · have h64 : L.length = 64 := by omega
      have hLL := hLe.out
      rw [h64] at hLL ho ⊢
      rw [hLL] at ho
      clear hLe hLL
      go_wp2_with fail
      exact hQ _ _ _ ho hf hg


set_option maxRecDepth 100000 in
set_option maxHeartbeats 1000000 in
theorem rMac7 {c0 c1 c2 c3 c4 c5 c6 c7 c8 c9 c10 c11 c12 c13 c14 c15 c16 c17 c18 c19 c20 c21 c22 c23 c24 c25 c26 c27 c28 c29 c30 c31 c32 c33 c34 c35 c36 c37 c38 c39 c40 c41 c42 c43 c44 c45 c46 c47 c48 c49 c50 c51 c52 c53 c54 c55 c56 c57 c58 c59 c60 c61 c62 : Value} (w : World) {Q : Exit → Act → World → Prop}
    (hQ : ∀ (qa qb : Nat) (w' : World), qa ≠ qb → w.heap.size ≤ qa → w.heap.size ≤ qb → Own w' 5 1 (some ⟨qa, 0, none⟩) 64 64 (List.replicate 64 (.int .u8 0)) → Own w' 5 1 (some ⟨qb, 0, none⟩) 64 64 (List.replicate 64 (.int .u8 0)) → Grow w w' →
      Q .normal ⟨List.toArray (c0 :: c1 :: c2 :: c3 :: c4 :: c5 :: c6 :: c7 :: c8 :: .slice (some ⟨qa, 0, none⟩) 64 64 :: .slice (some ⟨qb, 0, none⟩) 64 64 :: c11 :: c12 :: c13 :: c14 :: c15 :: c16 :: c17 :: c18 :: c19 :: c20 :: c21 :: c22 :: c23 :: c24 :: c25 :: c26 :: c27 :: c28 :: c29 :: c30 :: .slice (some ⟨qa, 0, none⟩) 64 64 :: .slice (some ⟨qb, 0, none⟩) 64 64 :: c33 :: c34 :: c35 :: c36 :: c37 :: c38 :: c39 :: c40 :: c41 :: c42 :: c43 :: c44 :: c45 :: c46 :: c47 :: c48 :: c49 :: c50 :: c51 :: c52 :: c53 :: c54 :: c55 :: c56 :: c57 :: c58 :: c59 :: c60 :: c61 :: c62 :: []), []⟩ w') :
    Code.wp Try.prog (regionAt Try.f94 7) Q ⟨List.toArray (c0 :: c1 :: c2 :: c3 :: c4 :: c5 :: c6 :: c7 :: c8 :: c9 :: c10 :: c11 :: c12 :: c13 :: c14 :: c15 :: c16 :: c17 :: c18 :: c19 :: c20 :: c21 :: c22 :: c23 :: c24 :: c25 :: c26 :: c27 :: c28 :: c29 :: c30 :: c31 :: c32 :: c33 :: c34 :: c35 :: c36 :: c37 :: c38 :: c39 :: c40 :: c41 :: c42 :: c43 :: c44 :: c45 :: c46 :: c47 :: c48 :: c49 :: c50 :: c51 :: c52 :: c53 :: c54 :: c55 :: c56 :: c57 :: c58 :: c59 :: c60 :: c61 :: c62 :: []), []⟩ w := by
  have mk : ∀ w : World, (Instr.makeSlice 27 (.int .i64 64) (.int .i64 64)).run Try.prog w = .ok (.slice (some ⟨w.heap.size, 0, none⟩) 64 64) (w.alloc (.cells (List.replicate 64 (.int .u8 0)).toArray 5)) := make_bytes 64 (by decide)
  obtain ⟨Z, hZ⟩ : ∃ Z, Z = List.replicate 64 (Value.int .u8 0) := ⟨_, rfl⟩
  obtain ⟨oa, ob, g⟩ := made2r w Z hZ 5
  simp only [← hZ] at mk
  clear hZ
  conv => arg 2; whnf
  go_region
  all_goals first
    | exact hQ w.heap.size (w.heap.size + 1) _ (by omega) (by omega) (by omega) oa ob g
    | exact hQ (w.heap.size + 1) w.heap.size _ (by omega) (by omega) (by omega) ob oa g
    | trace_state


set_option maxRecDepth 100000 in
set_option maxHeartbeats 1000000 in
theorem rMacL (ko : Option Addr) (kc : Nat) (kl : List UInt8) (hkl : kl.length = 64) (qa qb : Nat) (hab : qa ≠ qb) {c0 c1 c2 c3 c4 c5 c6 c8 c12 c13 c14 c15 c16 c17 c18 c19 c20 c21 c22 c23 c24 c25 c26 c27 c28 c29 c30 c31 c32 c33 c34 c35 c36 c37 c38 c39 c40 c41 c42 c43 c44 c45 c46 c47 c48 c49 c50 c51 c52 c53 c54 c55 c56 c57 c58 c59 c60 c61 c62 : Value} (w : World) (key : Sl w 1 ko 64 kc (kl.map B)) (hd : ∀ g ∈ blk ko, g ∉ [qa, qb])
    (oa : Own w 5 1 (some ⟨qa, 0, none⟩) 64 64 (List.replicate 64 (.int .u8 0))) (ob : Own w 5 1 (some ⟨qb, 0, none⟩) 64 64 (List.replicate 64 (.int .u8 0))) {Q : Exit → Act → World → Prop}
    (hQ : ∀ w' : World, Own w' 5 1 (some ⟨qa, 0, none⟩) 64 64 ((kl.map (· ^^^ 54)).map B) → Own w' 5 1 (some ⟨qb, 0, none⟩) 64 64 ((kl.map (· ^^^ 92)).map B) → Keep [qa, qb] w w' → ∀ {u11 u33 u34 u35 u36 u37 u38 u39 u40 u41 u42 u43 u44 u45 u46 u47 u48 u49 u50 u51 u52 : Value}, Q .normal ⟨List.toArray (c0 :: c1 :: c2 :: c3 :: c4 :: c5 :: c6 :: .slice ko 64 kc :: c8 :: .slice (some ⟨qa, 0, none⟩) 64 64 :: .slice (some ⟨qb, 0, none⟩) 64 64 :: u11 :: c12 :: c13 :: c14 :: c15 :: c16 :: c17 :: c18 :: c19 :: c20 :: c21 :: c22 :: c23 :: c24 :: c25 :: c26 :: c27 :: c28 :: c29 :: c30 :: c31 :: c32 :: u33 :: u34 :: u35 :: u36 :: u37 :: u38 :: u39 :: u40 :: u41 :: u42 :: u43 :: u44 :: u45 :: u46 :: u47 :: u48 :: u49 :: u50 :: u51 :: u52 :: c53 :: c54 :: c55 :: c56 :: c57 :: c58 :: c59 :: c60 :: c61 :: c62 :: []), []⟩ w') :
    Code.wp Try.prog (blockAt Try.f94 2) Q ⟨List.toArray (c0 :: c1 :: c2 :: c3 :: c4 :: c5 :: c6 :: .slice ko 64 kc :: c8 :: .slice (some ⟨qa, 0, none⟩) 64 64 :: .slice (some ⟨qb, 0, none⟩) 64 64 :: .int .i64 0 :: c12 :: c13 :: c14 :: c15 :: c16 :: c17 :: c18 :: c19 :: c20 :: c21 :: c22 :: c23 :: c24 :: c25 :: c26 :: c27 :: c28 :: c29 :: c30 :: c31 :: c32 :: c33 :: c34 :: c35 :: c36 :: c37 :: c38 :: c39 :: c40 :: c41 :: c42 :: c43 :: c44 :: c45 :: c46 :: c47 :: c48 :: c49 :: c50 :: c51 :: c52 :: c53 :: c54 :: c55 :: c56 :: c57 :: c58 :: c59 :: c60 :: c61 :: c62 :: []), []⟩ w := by
  have hml : maxLen = 9223372036854775807 := rfl
  have hks := key.hle
  have hkm := key.hcap
  obtain ⟨gk, off, eg, -⟩ := key.hat (by decide)
  subst eg
  have hgk : gk ≠ qa ∧ gk ≠ qb := by
    have := hd gk (by simp [blk])
    simpa using this
  conv => arg 2; whnf
  refine wp_block ?_
  go_loopw [11] (fun vi wr => ∃ (i : Nat) (A C : List UInt8), vi = .int .i64 (i : Int) ∧ i ≤ 64 ∧ Hid (A = (kl.take i).map (· ^^^ 54) ∧ C = (kl.take i).map (· ^^^ 92)) ∧ Own wr 5 1 (some ⟨qa, 0, none⟩) 64 64 (A.map B ++ List.replicate (64 - i) (.int .u8 0)) ∧ Own wr 5 1 (some ⟨qb, 0, none⟩) 64 64 (C.map B ++ List.replicate (64 - i) (.int .u8 0)) ∧ Keep [qa, qb] w wr) (fun vi _ => 64 - (intOf vi).toNat)
  case atStart => exact ⟨0, [], [], by simp, by omega, Lib.hid ⟨rfl, rfl⟩, by simpa using oa, by simpa using ob, Keep.refl _ _⟩
  case round =>
    clear oa ob
    obtain ⟨i, A, C, rfl, hi, hAC, oa, ob, ki⟩ := hrel
    by_cases hlt : i < 64
    · obtain ⟨ch, hch⟩ : ∃ ch : UInt8, ch = kl[i]'(by omega) := ⟨_, rfl⟩
      have hat : kl[i]? = some ch := by rw [hch]; simp
      have hnx : Hid (A ++ [ch ^^^ 54] = (kl.take (i + 1)).map (· ^^^ 54) ∧ C ++ [ch ^^^ 92] = (kl.take (i + 1)).map (· ^^^ 92)) := Lib.hid (by
        rw [take_snoc _ i ch hat, hAC.out.1, hAC.out.2]; simp)
      have lA : A.length = i := by rw [hAC.out.1, List.length_map, List.length_take]; omega
      have lC : C.length = i := by rw [hAC.out.2, List.length_map, List.length_take]; omega
      have hkey := key.keep ki (by simp [blk, hgk.1, hgk.2])
      obtain ⟨g5, off5, eg, hc⟩ := hkey.hat (by decide)
      cases eg
      have c1 : wr.cell? ⟨gk, off + i, none⟩ = some (.int .u8 (ch.toNat : Int)) := hc.at (by rw [List.getElem?_map, hat]; rfl)
      obtain ⟨g3, v, eg, hv, hfz, hset⟩ := own_put oa (i := i) (by omega)
      cases eg
      have oa2 := hset (B (ch ^^^ 54)) rfl
      rw [set_pad A 64 i lA hlt] at oa2
      have k1 := Keep.setCell (fp := [qa]) wr ⟨qa, i, none⟩ (by simp) (B (ch ^^^ 54))
      have ob1 := ob.keep k1 (by simp [blk]; exact fun e => hab e.symm)
      have hkey2 := hkey.keep k1 (by simp [blk, hgk.1])
      obtain ⟨g5, off5, eg, hc2⟩ := hkey2.hat (by decide)
      cases eg
      have c2 : (wr.setCell ⟨qa, i, none⟩ (B (ch ^^^ 54))).cell? ⟨gk, off + i, none⟩ = some (.int .u8 (ch.toNat : Int)) := hc2.at (by rw [List.getElem?_map, hat]; rfl)
      obtain ⟨g4, v2, eg, hv2, hfz2, hset2⟩ := own_put ob1 (i := i) (by omega)
      cases eg
      have ob2 := hset2 (B (ch ^^^ 92)) rfl
      rw [set_pad C 64 i lC hlt] at ob2
      have k2 := Keep.setCell (fp := [qb]) (wr.setCell ⟨qa, i, none⟩ (B (ch ^^^ 54))) ⟨qb, i, none⟩ (by simp) (B (ch ^^^ 92))
      have oa3 := oa2.keep k2 (by simp [blk]; exact hab)
      have k3 := (ki.trans (k1.mono (by simp))).trans (k2.mono (by simp))
      have e1 : bits BinOp.xor IntKind.u8 (ch.toNat : Int) 54 = (((ch ^^^ 54).toNat : Nat) : Int) := xor_val ch 54 (by decide)
      have e2 : bits BinOp.xor IntKind.u8 (ch.toNat : Int) 92 = (((ch ^^^ 92).toNat : Nat) : Int) := xor_val ch 92 (by decide)
      simp only [B] at hv2 hfz2 c2
      obtain ⟨x, hx⟩ : ∃ x, x = ch.toNat := ⟨_, rfl⟩
      obtain ⟨y1, hy1⟩ : ∃ x, x = ch ^^^ 54 := ⟨_, rfl⟩
      obtain ⟨y2, hy2⟩ : ∃ x, x = ch ^^^ 92 := ⟨_, rfl⟩
      rw [← hx] at e1 e2 c1 c2
      rw [← hy1] at e1 hnx oa3 ob2 k3 hv2 hfz2 c2
      rw [← hy2] at e2 hnx oa3 ob2 k3
      clear hx hy1 hy2 hset hset2 oa2 ob1 k1 k2 lA lC hat ki oa ob hAC hQ hkey hkey2 hc hc2 hch
      go_wp2_with fail
      exact ⟨⟨i + 1, _, _, by go_num, by omega, hnx, oa3, ob2, k3⟩, by simp [intOf]; omega⟩
    · obtain rfl : i = 64 := by omega
      have hA := hAC.out
      rw [List.take_of_length_le (by omega)] at hA
      obtain ⟨rfl, rfl⟩ := hA
      simp only [Nat.sub_self, List.replicate_zero, List.append_nil] at oa ob
      clear hAC
      go_wp2_with fail
      exact hQ _ oa ob ki


set_option maxRecDepth 100000 in
set_option maxHeartbeats 2000000 in
theorem rMacC (p : Nat) (w : World) (sm : Sm w p Hs Ks) (ko : Option Addr) (kc : Nat) (key : List UInt8) (sk : Sl w 1 ko key.length kc (key.map B)) (hkl : key.length ≤ 900000) (bo : Option Addr) (c : Nat) (text : List UInt8) (sb : Sl w 1 bo text.length c (text.map B)) (htl : text.length ≤ 900000)
    (R : Ending → World → Prop) (hR : ∀ w', Grow w w' → R (.returned (.agg ((macS key text).map B).toArray)) w') :
    Calls Try.prog 94 #[.pointer (some ⟨p, 0, none⟩), .slice ko key.length kc, .slice bo text.length c] w R := by
  have hml : maxLen = 9223372036854775807 := rfl
  have hHlt : ∀ x ∈ Hs, x < 4294967296 := Hs_lt
  have hsum := fun bo c L w sm sb hl R hR => rSumC p Hs Ks hHlt bo c L w sm sb hl R hR
  have hdef : ∀ l, sumOf Hs Ks l = sumS l := fun l => rfl
  simp only [hdef] at hsum
  have hil := inK_len key
  have hol := outK_len key
  have h32 := sumS_len (inK key ++ text)
  have hM32 := macS_len key text
  have hK32 := sumS_len key
  have hsum0 := fun bo c w' sm sb => hsum bo c key w' sm sb (by omega)
  have hsum1 := fun bo c w' sm sb => hsum bo c (inK key ++ text) w' sm sb (by rw [List.length_append]; omega)
  have hsum2 := fun bo c w' sm sb => hsum bo c (outK key ++ sumS (inK key ++ text)) w' sm sb (by rw [List.length_append]; omega)
  have e0 : sumS (outK key ++ sumS (inK key ++ text)) = macS key text := rfl
  rw [e0] at hsum2
  simp only [List.length_append, hil, hol, h32] at hsum1 hsum2
  have hkn : Hid (keyN key = (if 64 < key.length then sumS key else key) ++ List.replicate (64 - (if 64 < key.length then sumS key else key).length) 0) := Lib.hid rfl
  generalize Hs = H at *
  generalize Ks = K at *
  obtain ⟨S1, hS1⟩ : ∃ S, S = sumS (inK key ++ text) := ⟨_, rfl⟩
  obtain ⟨S0, hS0⟩ : ∃ S, S = sumS key := ⟨_, rfl⟩
  obtain ⟨A, hA⟩ : ∃ A, A = (macS key text).map B := ⟨_, rfl⟩
  rw [← hS1] at hsum1 hsum2 h32
  rw [← hS0] at hsum0 hkn hK32
  simp only [← hA] at hsum2 hR
  have hA1 : ∀ v ∈ A, v.oneCell' = true := by rw [hA]; exact B_one _
  have hAl : A.length = 32 := by rw [hA, List.length_map]; exact hM32
  have HS1 : ∀ v ∈ S1.map B, v.oneCell' = true := B_one _
  have hS1l : (S1.map B).length = 32 := by rw [List.length_map]; exact h32
  have HS0 : ∀ v ∈ S0.map B, v.oneCell' = true := B_one _
  have hS0l : (S0.map B).length = 32 := by rw [List.length_map]; exact hK32
  have i32 : (Try.prog.info? 123).map (·.size) = some 32 := by kernel_rfl
  have hpl := smlt sm
  clear hA hM32 e0 hdef hHlt hsum hS1 hS0 hil hol h32
  have o6 : Own (w.alloc (.cells (List.replicate 32 (.int .u8 0)).toArray 123)) 123 1 (some ⟨w.heap.size, 0, none⟩) 32 32 (List.replicate 32 (.int .u8 0)) := own_new w _ rfl (by omega)
  have ga := Grow.alloc w (.cells (List.replicate 32 (.int .u8 0)).toArray 123)
  go_enter Try.func94, Try.ntmps94
  go_upto_region 1 with (fail)
  change Code.wp _ _ _ ⟨_, _⟩ (w.alloc (.cells (List.replicate 32 (.int .u8 0)).toArray 123))
  have sk1 := sk.grow ga
  have sb1 := sb.grow ga
  have sm1 : Sm (w.alloc (.cells (List.replicate 32 (.int .u8 0)).toArray 123)) p H K := ⟨sm.1.keep (Keep.of_grow [] ga) (by simp), sm.2⟩
  have hsz1 := ga.size
  obtain ⟨q6, hq6⟩ : ∃ q, q = w.heap.size := ⟨_, rfl⟩
  generalize w.alloc (.cells (List.replicate 32 (.int .u8 0)).toArray 123) = w1 at *
  rw [← hq6] at o6 ⊢
  have Hq6 := Lib.hid hq6
  have hp1 : p < w1.heap.size := by omega
  clear hq6 sm sk sb hpl hsz1
  have o0 : Own (w1.alloc (.cells #[] 5)) 5 1 (some ⟨w1.heap.size, 0, none⟩) 0 0 [] := Own.made (n := 0) (heap_alloc_new w1 _) rfl (by decide) (by simp)
  have g0 := Grow.alloc w1 (.cells #[] 5)
  go_upto_region 2 with (at_builtin; refine wpList_app TBy rfl rfl o0 (sk1.grow g0) (by omega) (by omega) ?_; intro ao1 cap1 w2 o7 _ kp blk1; simp only [Nat.zero_add, List.nil_append] at o7)
  have f7 : Fr (blk ao1) w1 := fun y hy => by
    rcases blk1 y hy with h | h
    · simp [blk] at h; omega
    · simp at h; omega
  have g2 : Grow w1 w2 := g0.then kp (fun y hy => by simp [blk] at hy; omega)
  clear o0 g0 kp blk1 sk1
  by_cases h64 : 64 < key.length
  · have hd : decide (64 < (key.length : Int)) = true := by simp; omega
    rw [if_pos h64] at hkn
    have hc0 := hsum0 ao1 cap1 w2 ⟨sm1.1.keep (Keep.of_grow [] g2) (by simp), sm1.2⟩ o7.sl
    clear h64 hsum0
    go_wp2_with fail
    refine hc0 _ ?_
    clear hc0 o7
    intro w3 g3
    have G3 := g2.trans g3
    obtain ⟨o8, ga3, th3, al3⟩ := newvar (t := 123) w3 (.int .u8 0) rfl (by omega) hS0l HS0
    have hsz0 : (Try.prog.info? 123).map (·.size) = some (S0.map B).toArray.size := by rw [List.size_toArray, hS0l]; exact i32
    go_upto_region 4 with (refine wpList_store_mid rfl 123 _ _ rfl w3.heap.size 0 (S0.map B).toArray rfl rfl th3 hsz0 al3 ?_)
    change Code.wp _ _ _ ⟨_, _⟩ ((w3.alloc (.cells (List.replicate 32 (.int .u8 0)).toArray 123)).setCells w3.heap.size 0 (S0.map B))
    have G4 := G3.trans ga3
    obtain ⟨q8, hq8⟩ : ∃ q, q = w3.heap.size := ⟨_, rfl⟩
    generalize (w3.alloc (.cells (List.replicate 32 (.int .u8 0)).toArray 123)).setCells w3.heap.size 0 (S0.map B) = w4 at *
    rw [← hq8] at o8 ⊢
    clear hq8 th3 al3 ga3 G3 g3 g2 f7
    have so := o8.sl
    have o0 : Own (w4.alloc (.cells #[] 5)) 5 1 (some ⟨w4.heap.size, 0, none⟩) 0 0 [] := Own.made (n := 0) (heap_alloc_new w4 _) rfl (by decide) (by simp)
    have g0 := Grow.alloc w4 (.cells #[] 5)
    go_upto_block 0 with (at_builtin; refine wpList_app TBy rfl rfl o0 (so.grow g0) (by omega) (by omega) ?_; intro ao2 cap2 w5 o7 _ kp blk1; simp only [Nat.zero_add, List.nil_append] at o7)
    have f7 : Fr (blk ao2) w1 := fun y hy => by
      have := G4.size
      rcases blk1 y hy with h | h
      · simp [blk] at h; omega
      · simp at h; omega
    have g5 : Grow w1 w5 := G4.trans (g0.then kp (fun y hy => by simp [blk] at hy; omega))
    clear o0 g0 kp blk1 so o8 G4 hd
    refine rMacPad S0 (by omega) 32 hK32.symm ao2 cap2 w1 w5 o7 f7 g5 ?_
    intro ao c' w6 o9 f9 g6
    rw [← hkn.out] at o9
    intros
    clear o7 f7 g5
    go_upto_region 7 with (fail)
    refine rMac7 w6 ?_
    intro qa qb w7 hab ha hb oa ob g7
    go_upto_block 2 with (fail)
    refine rMacL ao c' (keyN key) (keyN_len key) qa qb hab w7 (o9.sl.grow g7) (fun g hg => by have := o9.lt g hg; simp; omega) oa ob ?_
    intro w8 oa8 ob8 k8
    intros
    change Own w8 _ _ _ _ _ ((inK key).map B) at oa8
    change Own w8 _ _ _ _ _ ((outK key).map B) at ob8
    have hs6 := g6.size
    have G8 : Grow w1 w8 := (g6.trans g7).then k8 (fun x hx => by simp at hx; omega)
    have hpa : p ≠ qa := by omega
    have hpb : p ≠ qb := by omega
    have sm8 : Sm w8 p H K := ⟨sm1.1.keep (Keep.of_grow [] G8) (by simp), sm1.2⟩
    clear oa ob k8 g7 g6 o9 f9
    go_wp2_with (at_builtin; refine wpList_app TBy rfl rfl oa8 (sb1.grow G8) (by omega) (by omega) ?_; intro ao3 cap3 w9 own9 _ kp9 blk9; rw [← List.map_append] at own9)
    have G9 : Grow w1 w9 := G8.then kp9 (fun x hx => by simp [blk] at hx; omega)
    have ob9 := ob8.keep kp9 (by simp [blk]; exact fun e => hab e.symm)
    have sm9 : Sm w9 p H K := ⟨sm8.1.keep kp9 (by simp [blk]; exact hpa), sm8.2⟩
    have hc1 := hsum1 ao3 cap3 w9 sm9 own9.sl
    clear own9 kp9 blk9 oa8 ob8 G8 sm8 hsum1
    refine hc1 _ ?_
    clear hc1
    intro w10 g10
    have G10 := G9.trans g10
    have ob10 := ob9.grow g10
    have sm10 : Sm w10 p H K := ⟨sm9.1.keep (Keep.of_grow [] g10) (by simp), sm9.2⟩
    clear G9 ob9 sm9 g10
    obtain ⟨o12, ga1, th1, al1⟩ := newvar (t := 123) w10 (.int .u8 0) rfl (by omega) hS1l HS1
    have hszF : (Try.prog.info? 123).map (·.size) = some (S1.map B).toArray.size := by rw [List.size_toArray, hS1l]; exact i32
    go_upto_region 14 with (refine wpList_store_mid rfl 123 _ _ rfl w10.heap.size 0 (S1.map B).toArray rfl rfl th1 hszF al1 ?_)
    change Code.wp _ _ _ ⟨_, _⟩ ((w10.alloc (.cells (List.replicate 32 (.int .u8 0)).toArray 123)).setCells w10.heap.size 0 (S1.map B))
    have G11 := G10.trans ga1
    have ob11 := ob10.grow ga1
    have sm11 : Sm _ p H K := ⟨sm10.1.keep (Keep.of_grow [] ga1) (by simp), sm10.2⟩
    clear th1 al1 ga1 G10 ob10 sm10
    obtain ⟨q, hq⟩ : ∃ q, q = w10.heap.size := ⟨_, rfl⟩
    generalize (w10.alloc (.cells (List.replicate 32 (.int .u8 0)).toArray 123)).setCells w10.heap.size 0 (S1.map B) = w11 at *
    rw [← hq] at o12 ⊢
    clear hq
    have so := o12.sl
    clear o12
    go_wp2_with (at_builtin; refine wpList_app TBy rfl rfl ob11 so (by omega) (by omega) ?_; intro ao4 cap4 w12 own12 _ kp12 blk12; rw [← List.map_append] at own12)
    have G12 : Grow w1 w12 := G11.then kp12 (fun x hx => by simp [blk] at hx; omega)
    have sm12 : Sm w12 p H K := ⟨sm11.1.keep kp12 (by simp [blk]; exact hpb), sm11.2⟩
    have hc2 := hsum2 ao4 cap4 w12 sm12 own12.sl
    clear own12 kp12 blk12 ob11 G11 sm11 hsum2 so
    refine hc2 _ ?_
    clear hc2
    intro w13 g13
    have G13 := G12.trans g13
    obtain ⟨r1, r3, r4⟩ := store_arr (P := Try.prog) hAl hA1 (o6.grow G13) i32
    have hf := hR _ ((ga.trans G13).then r4 (fun x hx => by simp at hx; have := Hq6.out; omega))
    have hth := own_there (o6.grow G13) A.toArray.size (by simpa using hAl)
    have hsz : (Try.prog.info? 123).map (·.size) = some A.toArray.size := by rw [List.size_toArray, hAl]; exact i32
    have hall := one_all hA1
    clear hR r1 r4 sm12 G12 g13
    go_wp2_with ((with_reducible show wpList _ _ _ _ _ _); refine wpList_store_mid rfl 123 _ _ rfl q6 0 A.toArray rfl rfl hth hsz hall ?_)
    exact bodyPost_ret (v := .agg A.toArray) (ret_bytes Try.results94 _ _ q6 A _ _ 32 rfl r3 (by decide) Try.underlying123 rfl i32) rfl hf
  · have hd : decide (64 < (key.length : Int)) = false := by simp; omega
    rw [if_neg h64] at hkn
    have h64' : key.length ≤ 64 := by omega
    clear hsum0 h64
    go_upto_block 0 with (fail)
    refine rMacPad key h64' key.length rfl ao1 cap1 w1 w2 o7 f7 g2 ?_
    intro ao c' w6 o9 f9 g6
    rw [← hkn.out] at o9
    intros
    clear o7 f7 g2 hd
    go_upto_region 7 with (fail)
    refine rMac7 w6 ?_
    intro qa qb w7 hab ha hb oa ob g7
    go_upto_block 2 with (fail)
    refine rMacL ao c' (keyN key) (keyN_len key) qa qb hab w7 (o9.sl.grow g7) (fun g hg => by have := o9.lt g hg; simp; omega) oa ob ?_
    intro w8 oa8 ob8 k8
    intros
    change Own w8 _ _ _ _ _ ((inK key).map B) at oa8
    change Own w8 _ _ _ _ _ ((outK key).map B) at ob8
    have hs6 := g6.size
    have G8 : Grow w1 w8 := (g6.trans g7).then k8 (fun x hx => by simp at hx; omega)
    have hpa : p ≠ qa := by omega
    have hpb : p ≠ qb := by omega
    have sm8 : Sm w8 p H K := ⟨sm1.1.keep (Keep.of_grow [] G8) (by simp), sm1.2⟩
    clear oa ob k8 g7 g6 o9 f9
    go_wp2_with (at_builtin; refine wpList_app TBy rfl rfl oa8 (sb1.grow G8) (by omega) (by omega) ?_; intro ao3 cap3 w9 own9 _ kp9 blk9; rw [← List.map_append] at own9)
    have G9 : Grow w1 w9 := G8.then kp9 (fun x hx => by simp [blk] at hx; omega)
    have ob9 := ob8.keep kp9 (by simp [blk]; exact fun e => hab e.symm)
    have sm9 : Sm w9 p H K := ⟨sm8.1.keep kp9 (by simp [blk]; exact hpa), sm8.2⟩
    have hc1 := hsum1 ao3 cap3 w9 sm9 own9.sl
    clear own9 kp9 blk9 oa8 ob8 G8 sm8 hsum1
    refine hc1 _ ?_
    clear hc1
    intro w10 g10
    have G10 := G9.trans g10
    have ob10 := ob9.grow g10
    have sm10 : Sm w10 p H K := ⟨sm9.1.keep (Keep.of_grow [] g10) (by simp), sm9.2⟩
    clear G9 ob9 sm9 g10
    obtain ⟨o12, ga1, th1, al1⟩ := newvar (t := 123) w10 (.int .u8 0) rfl (by omega) hS1l HS1
    have hszF : (Try.prog.info? 123).map (·.size) = some (S1.map B).toArray.size := by rw [List.size_toArray, hS1l]; exact i32
    go_upto_region 14 with (refine wpList_store_mid rfl 123 _ _ rfl w10.heap.size 0 (S1.map B).toArray rfl rfl th1 hszF al1 ?_)
    change Code.wp _ _ _ ⟨_, _⟩ ((w10.alloc (.cells (List.replicate 32 (.int .u8 0)).toArray 123)).setCells w10.heap.size 0 (S1.map B))
    have G11 := G10.trans ga1
    have ob11 := ob10.grow ga1
    have sm11 : Sm _ p H K := ⟨sm10.1.keep (Keep.of_grow [] ga1) (by simp), sm10.2⟩
    clear th1 al1 ga1 G10 ob10 sm10
    obtain ⟨q, hq⟩ : ∃ q, q = w10.heap.size := ⟨_, rfl⟩
    generalize (w10.alloc (.cells (List.replicate 32 (.int .u8 0)).toArray 123)).setCells w10.heap.size 0 (S1.map B) = w11 at *
    rw [← hq] at o12 ⊢
    clear hq
    have so := o12.sl
    clear o12
    go_wp2_with (at_builtin; refine wpList_app TBy rfl rfl ob11 so (by omega) (by omega) ?_; intro ao4 cap4 w12 own12 _ kp12 blk12; rw [← List.map_append] at own12)
    have G12 : Grow w1 w12 := G11.then kp12 (fun x hx => by simp [blk] at hx; omega)
    have sm12 : Sm w12 p H K := ⟨sm11.1.keep kp12 (by simp [blk]; exact hpb), sm11.2⟩
    have hc2 := hsum2 ao4 cap4 w12 sm12 own12.sl
    clear own12 kp12 blk12 ob11 G11 sm11 hsum2 so
    refine hc2 _ ?_
    clear hc2
    intro w13 g13
    have G13 := G12.trans g13
    obtain ⟨r1, r3, r4⟩ := store_arr (P := Try.prog) hAl hA1 (o6.grow G13) i32
    have hf := hR _ ((ga.trans G13).then r4 (fun x hx => by simp at hx; have := Hq6.out; omega))
    have hth := own_there (o6.grow G13) A.toArray.size (by simpa using hAl)
    have hsz : (Try.prog.info? 123).map (·.size) = some A.toArray.size := by rw [List.size_toArray, hAl]; exact i32
    have hall := one_all hA1
    clear hR r1 r4 sm12 G12 g13
    go_wp2_with ((with_reducible show wpList _ _ _ _ _ _); refine wpList_store_mid rfl 123 _ _ rfl q6 0 A.toArray rfl rfl hth hsz hall ?_)
    exact bodyPost_ret (v := .agg A.toArray) (ret_bytes Try.results94 _ _ q6 A _ _ 32 rfl r3 (by decide) Try.underlying123 rfl i32) rfl hf
end Go.Proofs.Ytfmnkcmicbnfdaa

namespace Go.Proofs.Ytfmnkcmicbnfdaa
open Go Go.RowKit

theorem build4 (w : World) (k : Nat) (a b c d : Int) (ha : a = (k % 256 : Nat)) (hb : b = (k / 256 % 256 : Nat)) (hc : c = (k / 65536 % 256 : Nat)) (hd : d = (k / 16777216 % 256 : Nat)) (e : TypeId) :
    (pBy (len4 k)).p (.slice (some ⟨w.heap.size, 0, none⟩) 4 4) (w.alloc (.cells #[.int .u8 a, .int .u8 b, .int .u8 c, .int .u8 d] e)) := by
  have h := len4_B k a b c d ha hb hc hd
  have s := sl_obj (C := [.int .u8 a, .int .u8 b, .int .u8 c, .int .u8 d]) (alloc_new w (.cells #[.int .u8 a, .int .u8 b, .int .u8 c, .int .u8 d] e)) 4 rfl (by decide) (by simp [Value.oneCell'])
  refine ⟨_, _, rfl, ?_⟩
  rw [← h]
  exact s
set_option maxRecDepth 100000 in
set_option maxHeartbeats 1000000 in
theorem rFramC (lo : Option Addr) (cap : Nat) (vs : List Value) (ls : List (List UInt8)) (w : World) (s : Sl w 1 lo ls.length cap vs) (p : Pt w vs ls) (hl : ls.length ≤ 1000000) (ht : ls.flatten.length ≤ 1000000) (R : Ending → World → Prop)
    (hR : ∀ ao c w', Own w' 5 1 ao (framS ls).length c ((framS ls).map B) → Grow w w' → Fr (blk ao) w → R (.returned (.slice ao (framS ls).length c)) w') :
    Calls Try.prog 95 #[.slice lo ls.length cap] w R := by
  have hml : maxLen = 9223372036854775807 := rfl
  have hfl : ∀ i, (framS (ls.take i)).length ≤ 5000000 := fun i => by
    rw [framS_len]
    have h1 : (ls.take i).flatten.length ≤ ls.flatten.length := flat_le ls i
    have h2 : (ls.take i).length ≤ ls.length := by rw [List.length_take]; omega
    omega
  obtain ⟨n, hn⟩ : ∃ n, n = ls.length := ⟨_, rfl⟩
  rw [← hn] at s hl ⊢
  have Hn := Lib.hid hn
  have Hfl := Lib.hid hfl
  clear hn ht hfl
  go_enter Try.func95, Try.ntmps95
  go_wp2_with fail
  go_loopw [3, 4] (fun o vi wr => ∃ (i : Nat) (L : List UInt8) (ao : Option Addr) (c : Nat), vi = .int .i64 (i : Int) ∧ o = .slice ao L.length c ∧ Hid (L = framS (ls.take i)) ∧ i ≤ n ∧ Own wr 5 1 ao L.length c (L.map B) ∧ Grow w wr ∧ Fr (blk ao) w) (fun _ vi _ => n - (intOf vi).toNat)
  case atStart => exact ⟨0, [], none, 0, by simp, rfl, Lib.hid (by simp [framS]), by omega, Own.none _ _ _, Grow.refl _, by simp [blk, Fr]⟩
  case round =>
    obtain ⟨i, L, ao, c, rfl, rfl, hL, hi, ho, hg, hb⟩ := hrel
    by_cases hil : i < n
    · obtain ⟨g, off, eg, hcs⟩ := s.hat (by omega)
      subst eg
      have hil2 : i < ls.length := by rw [← Hn.out]; exact hil
      obtain ⟨xo, xc, hxv, sx⟩ := p.2 i hil2
      have c1 := KW.cell (fp := []) (p0 := tt) (hcs.at hxv) (by simp)
      have cr := (hcs.keep (Keep.of_grow [] hg) (by simp)).at hxv
      have hft := framS_take ls i hil2
      have hfl := Hfl.out (i + 1)
      have hfl0 := Hfl.out i
      rw [hft, ← hL.out] at hfl
      rw [← hL.out] at hfl0
      simp only [List.length_append, len4_len] at hfl
      obtain ⟨X, hX⟩ : ∃ X, X = ls[i] := ⟨_, rfl⟩
      rw [← hX] at c1 cr sx hft hfl
      have h2 : Hid (L ++ len4 X.length ++ X = framS (ls.take (i + 1))) := Lib.hid (by rw [hft, ← hL.out])
      obtain ⟨k, hk⟩ : ∃ k, k = X.length := ⟨_, rfl⟩
      rw [← hk] at c1 cr sx hfl
      have Hk := Lib.hid hk
      have hR0 := Lib.hid hR
      clear hX hft hcs hk hxv hil2 hR
      go_upto_region 6 with (fail)
      clear cr
      refine RC.wp_region_F [14, 15, 16, 17] (RC.segP w wr hg [(12, pBy (len4 k))]) (by kernel_rfl) RC.segP_from ?_
      unfold RC.segP RC.segX
      repeat (first | (refine RC.wpV_skp rfl rfl ?_; simp only [List.set_cons_succ, List.set_cons_zero]) | (refine RC.wpV_look rfl rfl rfl rfl rfl (fun K hK => ?_); go_big_quiet_op; refine hK _ ?_; clear hK K) | (refine RC.wpV_free rfl rfl rfl rfl (fun K hK => ?_); unfold RC.Base; go_big_quiet_op; refine hK _ ?_; clear hK K))
      refine RC.wpV_mk rfl rfl rfl [] (by kernel_rfl) (fun vs7 w7 hC _ => ?_) (fun vs7 v w7 hC hV hF => ?_)
      · obtain ⟨⟨w7, hk7, -⟩, rfl⟩ := hC
        unfold yields
        go_simp
        exact ⟨⟨[], Keep.alloc [] w7 _, by simp⟩, build4 w7 k _ _ _ _ (by omega) (by omega) (by omega) (by omega) _⟩
      obtain ⟨bo, d, rfl, -⟩ := hV
      clear hC hF w7
      simp only [List.set_cons_succ, List.set_cons_zero]
      repeat (first | (refine RC.wpV_skp rfl rfl ?_; simp only [List.set_cons_succ, List.set_cons_zero]) | (refine RC.wpV_look rfl rfl rfl rfl rfl (fun K hK => ?_); go_big_quiet_op; refine hK _ ?_; clear hK K) | (refine RC.wpV_free rfl rfl rfl rfl (fun K hK => ?_); unfold RC.Base; go_big_quiet_op; refine hK _ ?_; clear hK K))
      refine RC.wpV_tn rfl rfl (by kernel_rfl) (fun w7 hC hF => ?_)
      obtain ⟨⟨w7, hk7, -⟩, rfl⟩ := hC
      obtain ⟨bo', d', e, s4⟩ := (hF 12).2 rfl
      cases e
      rw [len4_len] at s4
      obtain ⟨ao1, cap1, w8, hr, own1, -, kp1, blk1⟩ := run_app TBy w7 27 (ho.keep hk7 (by simp)) s4 (by omega) (by omega)
      have g7 := hg.trans hk7.grow
      have g8 := g7.then kp1 hb
      have hb8 : Fr (blk ao1) w := fun y hy => by
        rcases blk1 y hy with h | h
        · exact hb y h
        · have := g7.size; omega
      unfold yields
      rw [run_exec_append hr]
      simp only [yUpon]
      refine ⟨RC.segL w w8 g8, RC.segL_at, ?_⟩
      simp only [List.set_cons_succ, List.set_cons_zero]
      clear hr hF kp1 blk1 s4 ho hk7 g7 hg hb
      unfold RC.segL RC.segX
      repeat (first | (refine RC.wpV_skp rfl rfl ?_; simp only [List.set_cons_succ, List.set_cons_zero]) | (refine RC.wpV_look rfl rfl rfl rfl rfl (fun K hK => ?_); go_big_quiet_op; refine hK _ ?_; clear hK K) | (refine RC.wpV_free rfl rfl rfl rfl (fun K hK => ?_); unfold RC.Base; go_big_quiet_op; refine hK _ ?_; clear hK K))
      refine RC.wpV_tn rfl rfl (by kernel_rfl) (fun w9 hC _ => ?_)
      obtain ⟨⟨w9, hk9, -⟩, rfl⟩ := hC
      have g9 := g8.trans hk9.grow
      obtain ⟨ao2, cap2, w10, hr, own2, -, kp2, blk2⟩ := run_app TBy w9 27 (own1.keep hk9 (by simp)) (sx.grow g9) (by omega) (by omega)
      have g10 := g9.then kp2 hb8
      have hb10 : Fr (blk ao2) w := fun y hy => by
        rcases blk2 y hy with h | h
        · exact hb8 y h
        · have := g9.size; omega
      unfold yields
      rw [run_exec_append hr]
      simp only [yUpon]
      refine ⟨RC.segL w w10 g10, RC.segL_at, ?_⟩
      simp only [List.set_cons_succ, List.set_cons_zero]
      unfold RC.segL RC.segX
      have e1 : L.length + 4 + k = (L ++ len4 X.length ++ X).length := by rw [Hk.out]; simp [len4_len]; omega
      have e2 : L.map B ++ (len4 k).map B ++ X.map B = (L ++ len4 X.length ++ X).map B := by rw [Hk.out]; simp
      rw [e1, e2] at own2
      rw [e1]
      clear hr kp2 blk2 e1 e2 own1 c1 g9 hk9 hb8 g8
      repeat (first | (refine RC.wpV_skp rfl rfl ?_; simp only [List.set_cons_succ, List.set_cons_zero]) | (refine RC.wpV_look rfl rfl rfl rfl rfl (fun K hK => ?_); go_big_quiet_op; refine hK _ ?_; clear hK K) | (refine RC.wpV_free rfl rfl rfl rfl (fun K hK => ?_); unfold RC.Base; go_big_quiet_op; refine hK _ ?_; clear hK K))
      refine RC.wpV_nil ?_
      intro w11 hC _
      obtain ⟨⟨w11, hk11, -⟩, rfl⟩ := hC
      have own3 := own2.keep hk11 (by simp)
      have g11 := g10.trans hk11.grow
      clear own2 hk11 g10
      go_wp2_with fail
      go_roundw
      case rel => exact ⟨i + 1, _, ao2, cap2, by go_num, rfl, h2, by omega, own3, g11, hb10⟩
      case measure => simp [intOf]; omega
    · obtain rfl : i = n := by omega
      have hLL : L = framS ls := by rw [hL.out, List.take_of_length_le (by rw [← Hn.out]; exact Nat.le_refl _)]
      rw [← hLL] at hR
      clear hL Hfl hLL
      go_wp2_with fail
      exact hR _ _ _ ho hg hb
end Go.Proofs.Ytfmnkcmicbnfdaa

namespace Go.Proofs.Ytfmnkcmicbnfdaa
open Go Go.RowKit


set_option maxRecDepth 100000 in
set_option maxHeartbeats 1000000 in
theorem made1 (p ph q4 : Nat) (ko : Option Addr) (kc : Nat) (key : List UInt8) (hkey : key.length = 32) (lo : Option Addr) (ln cap : Nat) (vs : List Value) (ls : List (List UInt8)) (hln : ls.length = ln) (hl : ln ≤ 1000) (ht : ls.flatten.length ≤ 100000) {c2 c3 c5 c6 c7 c8 c9 c10 c11 c12 c13 c14 c15 c16 : Value} (w : World) (c0' : w.cell? ⟨p, 0, none⟩ = some (.pointer (some ⟨ph, 0, none⟩))) (c1' : w.cell? ⟨p, 1, none⟩ = some (.slice ko 32 kc)) (sm : Sm w ph Hs Ks) (sk : Sl w 1 ko 32 kc (key.map B)) (s : Sl w 1 lo ln cap vs) (pt : Pt w vs ls) (o4 : Own w 33 1 (some ⟨q4, 0, none⟩) 16 16 (List.replicate 16 (.int .u8 0))) {Q : Exit → Act → World → Prop}
    (hQ : ∀ (w' : World), Own w' 33 1 (some ⟨q4, 0, none⟩) 16 16 ((tagB key ls).b.map B) → Keep [q4] w w' → ∀ {u5 u6 u7 u8 u9 u10 u11 u12 u13 u14 u15 u16 : Value}, Q .normal ⟨List.toArray (.pointer (some ⟨p, 0, none⟩) :: .slice lo ln cap :: c2 :: c3 :: .pointer (some ⟨q4, 0, none⟩) :: u5 :: u6 :: u7 :: u8 :: u9 :: u10 :: u11 :: u12 :: u13 :: u14 :: u15 :: u16 :: []), []⟩ w') :
    Code.wp Try.prog (regionAt Try.f66 1) Q ⟨List.toArray (.pointer (some ⟨p, 0, none⟩) :: .slice lo ln cap :: c2 :: c3 :: .pointer (some ⟨q4, 0, none⟩) :: c5 :: c6 :: c7 :: c8 :: c9 :: c10 :: c11 :: c12 :: c13 :: c14 :: c15 :: c16 :: []), []⟩ w := by
  have hml : maxLen = 9223372036854775807 := rfl
  have q0 := KW.cell (fp := []) (p0 := tt) c0' (by simp)
  have q1 := KW.cell (fp := []) (p0 := tt) c1' (by simp)
  have hfl := framS_len ls
  have hfr := fun w' (g : Grow w w') => rFramC lo cap vs ls w' (by rw [hln]; exact s.grow g) (pt.grow g) (by omega) (by omega)
  simp only [hln] at hfr
  have hmac : ∀ w', Grow w w' → ∀ bo c, Sl w' 1 bo (framS ls).length c ((framS ls).map B) → ∀ R : Ending → World → Prop, (∀ w2, Grow w' w2 → R (.returned (.agg ((macS key (framS ls)).map B).toArray)) w2) → Calls Try.prog 94 #[.pointer (some ⟨ph, 0, none⟩), .slice ko 32 kc, .slice bo (framS ls).length c] w' R := fun w' g bo c sb R hR => by
    have := rMacC ph w' (sm.grow g) ko kc key (by rw [hkey]; exact sk.grow g) (by omega) bo c (framS ls) sb (by omega) R hR
    rwa [hkey] at this
  have hsh := rShortC (macS key (framS ls)) (macS_len _ _)
  have hVl := bV_len (tagB key ls)
  have hV1 := B_one (tagB key ls).b
  have hVe : (tagB key ls).b = shortS (macS key (framS ls)) := rfl
  rw [hVe] at hVl hV1 hQ
  obtain ⟨V, hV⟩ : ∃ V, V = (shortS (macS key (framS ls))).map B := ⟨_, rfl⟩
  simp only [← hV] at hsh hVl hV1 hQ
  obtain ⟨M, hM⟩ : ∃ M, M = ((macS key (framS ls)).map B).toArray := ⟨_, rfl⟩
  simp only [← hM] at hsh hmac
  obtain ⟨FL, hFL⟩ : ∃ N, N = framS ls := ⟨_, rfl⟩
  simp only [← hFL] at hfr hmac
  clear hV hM hVe hfl hFL hln
  conv => arg 2; whnf
  refine wp_region_R (segT w [(9, pBy FL), (10, pIs (.agg M)), (11, pIs (.agg V.toArray))]) (by kernel_rfl) segT_drew ?_
  unfold segT segK segR
  repeat (first | (refine wpV_skp rfl rfl ?_; simp only [List.set_cons_succ, List.set_cons_zero]) | (refine wpV_look rfl rfl rfl rfl rfl (fun K hK => ?_); go_big_quiet_op; refine hK _ ?_; clear hK K))
  refine wpV_mk rfl rfl rfl [] (by kernel_rfl) (fun vs w7 hC hF => yields_call (by kernel_rfl) ?_) (fun vs v w7 hC hV hF => ?_)
  · obtain ⟨⟨w7, hk7, -⟩, rfl⟩ := hC
    exact hfr w7 hk7.grow _ (fun ao c w8 o8 g8 _ => ⟨_, rfl, ⟨Keep.of_grow [] g8, trivial⟩, ⟨_, _, rfl, o8.sl⟩⟩)
  obtain ⟨b9, d9, rfl, -⟩ := hV
  clear hC hF w7
  simp only [List.set_cons_succ, List.set_cons_zero]
  refine wpV_mk rfl rfl rfl [9] (by kernel_rfl) (fun vs w7 hC hF => yields_call (by kernel_rfl) ?_) (fun vs v w7 hC hV hF => ?_)
  · obtain ⟨⟨w7, hk7, -⟩, rfl⟩ := hC
    obtain ⟨bo, d, e, hs⟩ := (hF 9 (by simp)).2 rfl
    cases e
    exact hmac w7 hk7.grow _ _ hs _ (fun w8 g8 => ⟨_, rfl, ⟨Keep.of_grow [] g8, trivial⟩, rfl⟩)
  obtain rfl := hV
  clear hC hF w7
  simp only [List.set_cons_succ, List.set_cons_zero]
  refine wpV_mk rfl rfl rfl [] rfl (fun vs w7 hC _ => yields_call (by kernel_rfl) ?_) (fun vs v w7 hC hV hF => ?_)
  · obtain ⟨⟨w7, hk, -⟩, rfl⟩ := hC
    exact hsh w7 _ (fun w8 g8 => ⟨_, rfl, ⟨Keep.of_grow [] g8, trivial⟩, rfl⟩)
  obtain rfl := hV
  clear hC hF w7
  simp only [List.set_cons_succ, List.set_cons_zero]
  refine wpV_end0 rfl rfl (by kernel_rfl) (fun w7 hC hF => ?_)
  obtain ⟨⟨w7, hk7, -⟩, rfl⟩ := hC
  obtain ⟨r1, r3, r4⟩ := store_arr (P := Try.prog) hVl hV1 (o4.keep hk7 (by simp)) i16
  unfold yields
  rw [exec_store r1]
  simp only [yUpon]
  exact hQ _ r3 ((Keep.of_nil hk7).trans r4)

set_option maxRecDepth 100000 in
set_option maxHeartbeats 1000000 in
theorem madeC (p ph : Nat) (ko : Option Addr) (kc : Nat) (key : List UInt8) (hkey : key.length = 32) (lo : Option Addr) (ln cap : Nat) (vs : List Value) (ls : List (List UInt8)) (hln : ls.length = ln) (hl : ln ≤ 1000) (ht : ls.flatten.length ≤ 100000) (w : World) (c0' : w.cell? ⟨p, 0, none⟩ = some (.pointer (some ⟨ph, 0, none⟩))) (c1' : w.cell? ⟨p, 1, none⟩ = some (.slice ko 32 kc)) (sm : Sm w ph Hs Ks) (sk : Sl w 1 ko 32 kc (key.map B)) (s : Sl w 1 lo ln cap vs) (pt : Pt w vs ls) (R : Ending → World → Prop)
    (hR : ∀ w', Grow w w' → R (.returned (.agg ((tagB key ls).b.map B).toArray)) w') :
    Calls Try.prog 66 #[.pointer (some ⟨p, 0, none⟩), .slice lo ln cap] w R := by
  have hml : maxLen = 9223372036854775807 := rfl
  have o4 : Own (w.alloc (.cells (List.replicate 16 (.int .u8 0)).toArray 33)) 33 1 (some ⟨w.heap.size, 0, none⟩) 16 16 (List.replicate 16 (.int .u8 0)) := own_new _ _ rfl (by omega)
  have g4 := Grow.alloc w (.cells (List.replicate 16 (.int .u8 0)).toArray 33)
  go_enter Try.func66, Try.ntmps66
  go_upto_region 1 with (fail)
  change Code.wp _ _ _ ⟨_, _⟩ (w.alloc (.cells (List.replicate 16 (.int .u8 0)).toArray 33))
  refine made1 p ph w.heap.size ko kc key hkey lo ln cap vs ls hln hl ht _ (g4.cell c0') (g4.cell c1') (sm.grow g4) (sk.grow g4) (s.grow g4) (pt.grow g4) o4 ?_
  intro w5 o5 k5
  intros
  have hf := hR _ (g4.then k5 (fun x hx => by simp at hx; omega))
  obtain ⟨q, hq⟩ : ∃ q, q = w.heap.size := ⟨_, rfl⟩
  rw [← hq] at o5 ⊢
  obtain ⟨V, hV⟩ : ∃ V, V = (tagB key ls).b.map B := ⟨_, rfl⟩
  rw [← hV] at o5 hf
  clear hR hq hV
  go_wp2_with fail
  exact bodyPost_ret (v := .agg V.toArray) (ret_bytes Try.results66 _ _ q V _ _ 16 rfl o5 (by decide) Try.underlying33 rfl i16) rfl hf

set_option maxRecDepth 100000 in
set_option maxHeartbeats 1000000 in
theorem leafTextC (p ph : Nat) (ko : Option Addr) (kc : Nat) (key : List UInt8) (hkey : key.length = 32) (leaf : Nat) (hleaf : leaf ≤ 2147483647) (a0 : Option Addr) (n c0 : Nat) (text : List UInt8) (htl : text.length ≤ 1000) (w : World) (c0' : w.cell? ⟨p, 0, none⟩ = some (.pointer (some ⟨ph, 0, none⟩))) (c1' : w.cell? ⟨p, 1, none⟩ = some (.slice ko 32 kc)) (sm : Sm w ph Hs Ks) (sk : Sl w 1 ko 32 kc (key.map B)) (s : Sl w 1 a0 n c0 (text.map B)) (R : Ending → World → Prop)
    (hR : ∀ w', Grow w w' → R (.returned (.agg ((leafT key leaf text).b.map B).toArray)) w') :
    Calls Try.prog 33 #[.pointer (some ⟨p, 0, none⟩), .int .i64 (leaf : Int), .slice a0 n c0] w R := by
  have hml : maxLen = 9223372036854775807 := rfl
  have kc2 := fun (w : World) (C : Array Value) (n c : Nat) => Lib.run_convert_bytes_const (P := Try.prog) w 27 5 C n c Try.underlying27 Try.underlying5
  have kc3 : ∀ (w : World) (o : Obj) (C : Array Value) (n c : Nat), (convert 27 27 (.slice (some ⟨w.heap.size + 1, 0, none⟩) n c)).run Try.prog ((w.alloc o).alloc (.cells C 5)) = .ok (.slice (some ⟨w.heap.size + 1, 0, none⟩) n c) ((w.alloc o).alloc (.cells C 5 (C.size, C.size + 1))) := fun w o C n c => by
    have := kc2 (w.alloc o) C n c
    rwa [show (w.alloc o).heap.size = w.heap.size + 1 by simp] at this
  have h8 := eightC leaf hleaf
  have hfl : (leafP leaf text).flatten.length = 12 + text.length := by simp [leafP, numS_len]; omega
  have o4 : Own (w.alloc (.cells (List.replicate 16 (.int .u8 0)).toArray 33)) 33 1 (some ⟨w.heap.size, 0, none⟩) 16 16 (List.replicate 16 (.int .u8 0)) := own_new _ _ rfl (by omega)
  have g4 := Grow.alloc w (.cells (List.replicate 16 (.int .u8 0)).toArray 33)
  obtain ⟨s1, g1⟩ := lit1 (w.alloc (.cells (List.replicate 16 (.int .u8 0)).toArray 33)) [108, 101, 97, 102] 4 rfl (by decide) (4, 5)
  rw [sz_al] at s1
  have G := g4.trans g1
  have o41 := o4.grow g1
  go_enter Try.func33, Try.ntmps33
  go_wp2_with fail
  change Calls _ _ _ ((w.alloc (.cells (List.replicate 16 (.int .u8 0)).toArray 33)).alloc (.cells (([108, 101, 97, 102] : List UInt8).map B).toArray 5 (4, 5))) _
  obtain ⟨q6, hq6⟩ : ∃ q, q = w.heap.size := ⟨_, rfl⟩
  obtain ⟨q7, hq7⟩ : ∃ q, q = w.heap.size + 1 := ⟨_, rfl⟩
  rw [← hq7] at s1
  rw [← hq6] at o41
  rw [show w.heap.size = q6 from hq6.symm, show q6 + 1 = q7 by omega]
  have hz6 := Nat.le_of_eq hq6.symm
  generalize (w.alloc (.cells (List.replicate 16 (.int .u8 0)).toArray 33)).alloc (.cells (([108, 101, 97, 102] : List UInt8).map B).toArray 5 (4, 5)) = w1 at *
  clear hq6 hq7 o4 g4 g1
  refine h8 w1 _ ?_
  clear h8
  intro ao c w2 o2 g2 f2
  have ga := Grow.alloc w2 (.cells #[.slice (some ⟨q7, 0, none⟩) 4 4, .slice ao 8 c, .slice a0 n c0] 27)
  have G2 := (G.trans g2).trans ga
  obtain ⟨sl, pt⟩ := three_parts (alloc_new w2 (.cells #[.slice (some ⟨q7, 0, none⟩) 4 4, .slice ao 8 c, .slice a0 n c0] 27)) ((s1.grow g2).grow ga) (o2.sl.grow ga) (s.grow G2)
  have hm := madeC p ph ko kc key hkey _ 3 3 _ (leafP leaf text) rfl (by omega) (by omega) _ (G2.cell c0') (G2.cell c1') (sm.grow G2) (sk.grow G2) sl pt
  have he : tagB key (leafP leaf text) = leafT key leaf text := rfl
  rw [he] at hm
  have o42 := o41.grow (g2.trans ga)
  have hVl := bV_len (leafT key leaf text)
  have hV1 := B_one (leafT key leaf text).b
  obtain ⟨V, hV⟩ : ∃ V, V = (leafT key leaf text).b.map B := ⟨_, rfl⟩
  simp only [← hV] at hm hR
  rw [← hV] at hVl hV1
  clear hV he s1 o2 s sl pt o41
  go_wp2_with fail
  refine hm _ ?_
  clear hm
  intro w5 g5
  have o5 := o42.grow g5
  obtain ⟨r1, r3, r4⟩ := store_arr (P := Try.prog) hVl hV1 o5 i16
  have th := own_there o5 V.toArray.size (by simpa using hVl)
  have hal := one_all hV1
  have hsz : (Try.prog.info? 33).map (·.size) = some V.toArray.size := by rw [List.size_toArray, hVl]; exact i16
  have hf := hR _ ((G2.trans g5).then r4 (fun x hx => by simp at hx; omega))
  clear hR r1 o5 r4 o42
  go_wp2_with (refine wpList_store_mid rfl 33 _ _ rfl q6 0 V.toArray rfl rfl th hsz hal ?_)
  exact bodyPost_ret (v := .agg V.toArray) (ret_bytes Try.results33 _ _ q6 V _ _ 16 rfl r3 (by decide) Try.underlying33 rfl i16) rfl hf
end Go.Proofs.Ytfmnkcmicbnfdaa

namespace Go.Proofs.Ytfmnkcmicbnfdaa
open Go Go.RowKit

set_option maxRecDepth 100000 in
set_option maxHeartbeats 1000000 in
theorem leafTC {w : World} {t : Tre} {h : Int → Bool} {T : Nat → Nat → B16} (a : Ht w t h T) (hL : t.L = (wl t.n).length) (hn1 : 1 ≤ t.n) (hn2 : t.n ≤ 1000) (i : Int) (R : Ending → World → Prop) (hR : ∀ w', Grow w w' → R (.returned (.agg ((nodeA t.n T 0 i).b.map B).toArray)) w') :
    Calls Try.prog 35 #[.pointer (some ⟨t.p, 0, none⟩), .int .i64 i] w R := by
  have hml : maxLen = 9223372036854775807 := rfl
  have o4 : Own (w.alloc (.cells (List.replicate 16 (.int .u8 0)).toArray 33)) 33 1 (some ⟨w.heap.size, 0, none⟩) 16 16 (List.replicate 16 (.int .u8 0)) := own_new _ _ rfl (by omega)
  have g4 := Grow.alloc w (.cells (List.replicate 16 (.int .u8 0)).toArray 33)
  have hnd := nodeTC (a.grow g4) hL hn1 hn2 0 i
  have hVl := bV_len (nodeA t.n T 0 i)
  have hV1 := B_one (nodeA t.n T 0 i).b
  obtain ⟨V, hV⟩ : ∃ V, V = (nodeA t.n T 0 i).b.map B := ⟨_, rfl⟩
  rw [← hV] at hVl hV1
  simp only [← hV] at hnd hR
  have hsz : (Try.prog.info? 33).map (·.size) = some V.toArray.size := by rw [List.size_toArray, hVl]; exact i16
  clear hV
  go_enter Try.func35, Try.ntmps35
  go_wp2_with fail
  refine hnd _ ?_
  clear hnd
  intro w5 g5
  have o5 := o4.grow g5
  obtain ⟨r1, r3, r4⟩ := store_arr (P := Try.prog) hVl hV1 o5 i16
  have th := own_there o5 V.toArray.size (by simpa using hVl)
  have hal := one_all hV1
  have hf := hR _ ((g4.trans g5).then r4 (fun x hx => by simp at hx; omega))
  obtain ⟨q, hq⟩ : ∃ q, q = w.heap.size := ⟨_, rfl⟩
  rw [← hq] at th r3 hf ⊢
  clear hR r1 o5 hq r4
  go_wp2_with (refine wpList_store_mid rfl 33 _ _ rfl q 0 V.toArray rfl rfl th hsz hal ?_)
  exact bodyPost_ret (v := .agg V.toArray) (ret_bytes Try.results35 _ _ q V _ _ 16 rfl r3 (by decide) Try.underlying33 rfl i16) rfl hf
/-- The top's tag. -/
def rootA (n : Nat) (T : Nat → Nat → B16) : B16 := nodeA n T (((wl n).length : Int) - 1) 0
set_option maxRecDepth 100000 in
set_option maxHeartbeats 1000000 in
theorem rootTC {w : World} {t : Tre} {h : Int → Bool} {T : Nat → Nat → B16} (a : Ht w t h T) (hL : t.L = (wl t.n).length) (hn1 : 1 ≤ t.n) (hn2 : t.n ≤ 1000) (R : Ending → World → Prop) (hR : ∀ w', Grow w w' → R (.returned (.agg ((rootA t.n T).b.map B).toArray)) w') :
    Calls Try.prog 37 #[.pointer (some ⟨t.p, 0, none⟩)] w R := by
  have hml : maxLen = 9223372036854775807 := rfl
  have hwf : (Lit.int .i64 (t.n : Int)).wf = true := by simp [Lit.wf, IntKind.min, IntKind.max, IntKind.signed, IntKind.bits]; omega
  have hwd : wide (t.n : Int) = wl t.n := by unfold wide; rw [if_neg (by omega)]; rfl
  have hwl := wl_len t.n
  have hL0 : 0 < t.L := by
    rw [hL]
    by_cases h : t.n ≤ 1
    · rw [wl_one h]; simp
    · rw [wl_more h]; simp
  have o4 : Own (w.alloc (.cells (List.replicate 16 (.int .u8 0)).toArray 33)) 33 1 (some ⟨w.heap.size, 0, none⟩) 16 16 (List.replicate 16 (.int .u8 0)) := own_new _ _ rfl (by omega)
  have g4 := Grow.alloc w (.cells (List.replicate 16 (.int .u8 0)).toArray 33)
  have hs := fun R => sizeTC (R := R) (a.grow g4) hL0
  have hl := fun w => levelsC t.n hwf w
  rw [hwd] at hl
  have hnd := fun w' (g : Grow w w') => nodeTC (a.grow g) hL hn1 hn2 (((wl t.n).length : Int) - 1) 0
  rw [← hL] at hwl
  have hr : rootA t.n T = nodeA t.n T (((wl t.n).length : Int) - 1) 0 := rfl
  rw [hr] at hR
  rw [← hL] at hR
  simp only [← hL] at hl hnd
  have hVl := bV_len (nodeA t.n T ((t.L : Int) - 1) 0)
  have hV1 := B_one (nodeA t.n T ((t.L : Int) - 1) 0).b
  obtain ⟨V, hV⟩ : ∃ V, V = (nodeA t.n T ((t.L : Int) - 1) 0).b.map B := ⟨_, rfl⟩
  rw [← hV] at hVl hV1
  simp only [← hV] at hnd hR
  have hsz : (Try.prog.info? 33).map (·.size) = some V.toArray.size := by rw [List.size_toArray, hVl]; exact i16
  clear hV hL hr hwd
  go_enter Try.func37, Try.ntmps37
  go_wp2_with fail
  refine hs _ ?_
  clear hs
  go_wp2_with fail
  refine hl _ _ ?_
  clear hl
  intro w3 g3
  have hn3 := hnd w3 (g4.trans g3)
  clear hnd
  go_wp2_with fail
  refine hn3 _ ?_
  clear hn3
  intro w5 g5
  have o5 := o4.grow (g3.trans g5)
  obtain ⟨r1, r3, r4⟩ := store_arr (P := Try.prog) hVl hV1 o5 i16
  have th := own_there o5 V.toArray.size (by simpa using hVl)
  have hal := one_all hV1
  have hf := hR _ (((g4.trans g3).trans g5).then r4 (fun x hx => by simp at hx; omega))
  obtain ⟨q, hq⟩ : ∃ q, q = w.heap.size := ⟨_, rfl⟩
  rw [← hq] at th r3 hf ⊢
  clear hR r1 o5 hq r4
  go_wp2_with (refine wpList_store_mid rfl 33 _ _ rfl q 0 V.toArray rfl rfl th hsz hal ?_)
  exact bodyPost_ret (v := .agg V.toArray) (ret_bytes Try.results37 _ _ q V _ _ 16 rfl r3 (by decide) Try.underlying33 rfl i16) rfl hf

/-- The tags beside a way. -/
def rowA (n : Nat) (T : Nat → Nat → B16) (l : List Pl) : List B16 := l.map fun p => nodeA n T p.1 p.2
def proofA (n : Nat) (T : Nat → Nat → B16) (ls : List (List Pl)) : List B16 := ls.flatMap (rowA n T)
theorem proofA_take {n : Nat} {T : Nat → Nat → B16} {ls : List (List Pl)} {i : Nat} (h : i < ls.length) : proofA n T (ls.take (i + 1)) = proofA n T (ls.take i) ++ rowA n T ls[i] := by
  unfold proofA
  rw [List.take_add_one, List.getElem?_eq_getElem h, List.flatMap_append]
  simp
theorem rowA_take {n : Nat} {T : Nat → Nat → B16} {l : List Pl} {j : Nat} (h : j < l.length) : rowA n T (l.take (j + 1)) = rowA n T (l.take j) ++ [nodeA n T l[j].1 l[j].2] := by
  unfold rowA
  rw [List.take_add_one, List.getElem?_eq_getElem h, List.map_append]
  simp
theorem proofA_len {n : Nat} {T : Nat → Nat → B16} : ∀ {ls : List (List Pl)}, (∀ l ∈ ls, l.length ≤ 4) → (proofA n T ls).length ≤ 4 * ls.length
  | [], _ => by simp [proofA]
  | l :: ls, h => by
    have h1 := proofA_len (n := n) (T := T) (ls := ls) (fun x hx => h x (by simp [hx]))
    have h2 := h l (by simp)
    have e : proofA n T (l :: ls) = rowA n T l ++ proofA n T ls := rfl
    have e2 : (rowA n T l).length = l.length := by simp [rowA]
    rw [e, List.length_append, e2, List.length_cons]
    omega
theorem beside_four (n leaf : Int) : ∀ l ∈ beside n leaf, l.length ≤ 4 := by
  intro l hl
  unfold beside at hl
  split at hl
  · simp at hl
  · simp only [besideN, List.mem_map] at hl
    obtain ⟨i, -, rfl⟩ := hl
    exact kids_len _ _ _
theorem beside_len (n : Nat) (hn : n ≤ 1000) (leaf : Int) : (beside n leaf).length ≤ 1001 := by
  unfold beside
  split
  · simp
  · rw [besideN_len]
    have : (wide (n : Int)).length ≤ 1001 := by
      unfold wide
      split
      · simp
      · have := wl_len n; simp; omega
    omega

set_option maxRecDepth 100000 in
set_option maxHeartbeats 2000000 in
theorem proofTC {w : World} {t : Tre} {h : Int → Bool} {T : Nat → Nat → B16} (a : Ht w t h T) (hL : t.L = (wl t.n).length) (hn1 : 1 ≤ t.n) (hn2 : t.n ≤ 1000) (leaf : Int) (R : Ending → World → Prop)
    (hR : ∀ ao n c w', n = (proofA t.n T (beside t.n leaf)).length → Own w' 33 16 ao n c (bVs (proofA t.n T (beside t.n leaf))) → Grow w w' → Fr (blk ao) w → R (.returned (.slice ao n c)) w') :
    Calls Try.prog 34 #[.pointer (some ⟨t.p, 0, none⟩), .int .i64 leaf] w R := by
  have hml : maxLen = 9223372036854775807 := rfl
  have hwf : (Lit.int .i64 (t.n : Int)).wf = true := by simp [Lit.wf, IntKind.min, IntKind.max, IntKind.signed, IntKind.bits]; omega
  have hL0 : 0 < t.L := by
    rw [hL]
    by_cases h : t.n ≤ 1
    · rw [wl_one h]; simp
    · rw [wl_more h]; simp
  have hs := fun R => sizeTC (R := R) a hL0
  have hb := besideC t.n leaf hwf w
  have h4 := beside_four t.n leaf
  have hbl := beside_len t.n hn2 leaf
  have hnd := fun w' (g : Grow w w') => nodeTC (a.grow g) hL hn1 hn2
  obtain ⟨ls, hls⟩ : ∃ ls, ls = beside t.n leaf := ⟨_, rfl⟩
  rw [← hls] at hb h4 hbl hR
  obtain ⟨N, hN⟩ : ∃ N, N = ls.length := ⟨_, rfl⟩
  rw [← hN] at hb hbl
  have HN := Lib.hid hN
  clear hls hL hN
  go_enter Try.func34, Try.ntmps34
  go_wp2_with fail
  refine hs _ ?_
  clear hs
  go_wp2_with fail
  refine hb _ ?_
  clear hb
  intro bo bc vs w2 ob rw2 g2
  go_wp2_with fail
  go_loopw [4, 14] (fun o vi wr => ∃ (i : Nat) (ao : Option Addr) (m c : Nat), vi = .int .i64 (i : Int) ∧ i ≤ N ∧ o = .slice ao m c ∧ m ≤ 4 * i ∧ Hid (m = (proofA t.n T (ls.take i)).length) ∧ Own wr 33 16 ao m c (bVs (proofA t.n T (ls.take i))) ∧ Grow w2 wr ∧ Fr (blk ao) w2) (fun _ vi _ => N - (intOf vi).toNat)
  case atStart => exact ⟨0, none, 0, 0, rfl, by omega, rfl, by omega, Lib.hid (by simp [proofA]), Own.none _ _ _, Grow.refl _, by simp [Fr, blk]⟩
  case round =>
    obtain ⟨i, ao, m, c, rfl, hi, rfl, hm, hml2, o, hg, hf⟩ := hrel
    by_cases hlt : i < N
    · have hil : i < ls.length := by rw [← HN.out]; exact hlt
      obtain ⟨gb, offb, eb, hcb⟩ := (ob.sl.grow hg).hat (by omega)
      subst eb
      obtain ⟨ro, rc, hv, sr⟩ := rows_at rw2 i hil
      have c1 := hcb.at hv
      have hpt := proofA_take (n := t.n) (T := T) hil
      have hr4 := h4 ls[i] (List.getElem_mem hil)
      obtain ⟨row, hrow⟩ : ∃ row, row = ls[i] := ⟨_, rfl⟩
      rw [← hrow] at sr hpt hr4 c1
      obtain ⟨M, hM⟩ : ∃ M, M = row.length := ⟨_, rfl⟩
      rw [← hM] at sr hr4 c1
      have HM := Lib.hid hM
      have hbs := ob.sl.hle
      have hbs2 := ob.sl.hcap
      clear hrow hM hv hcb hil
      go_wp2_with fail
      clear c1
      go_loopw [4, 20] (fun ov vj w4 => ∃ (j : Nat) (ao2 : Option Addr) (m2 c2 : Nat), vj = .int .i64 (j : Int) ∧ j ≤ M ∧ ov = .slice ao2 m2 c2 ∧ m2 ≤ 4 * i + j ∧ Hid (m2 = (proofA t.n T (ls.take i) ++ rowA t.n T (row.take j)).length) ∧ Own w4 33 16 ao2 m2 c2 (bVs (proofA t.n T (ls.take i) ++ rowA t.n T (row.take j))) ∧ Grow w2 w4 ∧ Fr (blk ao2) w2) (fun _ vj _ => M - (intOf vj).toNat)
      case atStart => exact ⟨0, ao, m, c, rfl, by omega, rfl, by omega, Lib.hid (by simpa [rowA] using hml2.out), by simpa [rowA] using o, hg, hf⟩
      case round =>
        clear o hml2 hf hm hg
        obtain ⟨j, ao2, m2, c2, rfl, hj, rfl, hm2, hml2, o, hg2, hf⟩ := hrel
        by_cases hlt2 : j < M
        · have hjl : j < row.length := by rw [← HM.out]; exact hlt2
          obtain ⟨gr, offr, er, hcr⟩ := (sr.grow hg2).hat (by omega)
          subst er
          have hp := pk_at row j hjl
          have hrt := rowA_take (n := t.n) (T := T) hjl
          obtain ⟨p, hpe⟩ : ∃ p, p = row[j] := ⟨_, rfl⟩
          rw [← hpe] at hp hrt
          have d0 := hcr.at hp.1
          have d1 := hcr.at hp.2
          rw [← Nat.add_assoc] at d1
          have hrs := sr.hle
          have hrs2 := sr.hcap
          clear hp hpe hcr hjl
          have g5 := Grow.alloc wr (.cells #[.int .i64 p.1, .int .i64 p.2] 76)
          have hn5 := hnd _ ((g2.trans hg2).trans g5) p.1 p.2
          obtain ⟨x, hx⟩ : ∃ x, x = nodeA t.n T p.1 p.2 := ⟨_, rfl⟩
          simp only [← hx] at hn5 hrt
          clear hx
          go_wp2_with fail
          refine hn5 _ ?_
          clear hn5
          intro w6 g6
          have o6 := o.grow (g5.trans g6)
          have g26 := hg2.trans (g5.trans g6)
          go_wp2_with (first | (refine wpList_slB rfl _ x rfl rfl ?_; intro g7 w7 G7 s7; have o7 := o6.grow G7) | (at_builtin; refine wpList_app TBl rfl rfl o7 s7 (by omega) (by omega) ?_; intro ao8 c8 w8 o8 _ k8 b8))
          rw [← bVs_app, List.append_assoc, ← hrt] at o8
          have hgw : Grow w2 w7 := g26.trans G7
          have g38 : Grow w2 w8 := hgw.then k8 hf
          have hf8 : Fr (blk ao8) w2 := fun y hy => by
            rcases b8 y hy with h | h
            · exact hf y h
            · have := hgw.size; omega
          have hml3 : Hid (m2 + 1 = (proofA t.n T (ls.take i) ++ rowA t.n T (row.take (j + 1))).length) := Lib.hid (by
            have := hml2.out
            rw [hrt, ← List.append_assoc, List.length_append, ← this]
            rfl)
          clear o6 o7 s7 k8 b8 o g26 hgw
          go_roundw
          case rel => exact ⟨j + 1, ao8, m2 + 1, c8, by go_num, by omega, rfl, by omega, hml3, o8, g38, hf8⟩
          case measure => simp [intOf]; omega
        · have hjM : j = M := by omega
          have htk : row.take j = row := List.take_of_length_le (by rw [hjM, HM.out]; exact Nat.le_refl _)
          rw [htk, ← hpt] at o hml2
          have hm3 : m2 ≤ 4 * (i + 1) := by omega
          clear hjM htk sr
          go_wp2_with fail
          go_roundw
          case rel => exact ⟨i + 1, ao2, m2, c2, by go_num, by omega, rfl, hm3, hml2, o, hg2, hf⟩
          case measure => simp [intOf]; omega
    · have hiN : i = N := by omega
      have htk : ls.take i = ls := List.take_of_length_le (by rw [hiN, HN.out]; exact Nat.le_refl _)
      rw [htk] at o hml2
      have hfin := hR ao m c _ hml2.out o (g2.trans hg) (fun x hx => Nat.le_trans g2.size (hf x hx))
      clear hR
      go_wp2_with fail
      exact hfin
end Go.Proofs.Ytfmnkcmicbnfdaa

namespace Go.Proofs.Ytfmnkcmicbnfdaa
open Go Go.RowKit

/-- The last operation, with a slot. -/
theorem RC.wpV_endD {C0 : World → Prop} {P : Program} {ops : Array Oper} {bm : Array Nat} {fr : List Nat} {Q : Exit → Act → World → Prop} {k : Nat} {S : RC.Seg C0} {l : List Value} {df : List Deferred} {F : Facts} {dst : Nat} {op : Op} {ty : TypeId} {pos : String} {after : Array Edge} {gd : Option (Nat × Bool)} (hi : ops[k]? = some ⟨some dst, op, ty, pos, after, gd⟩)
    (hw : Region.wanted ⟨some dst, op, ty, pos, after, gd⟩ (yielded ops l.toArray) = true) (hx : RC.xB ops bm fr k = true)
    (hy : ∀ w, S.C w → (∀ j, F j w) → yields P ⟨some dst, op, ty, pos, after, gd⟩ (Act.mk l.toArray df).eval w fun v w' => C0 w' ∧ Q .normal ⟨(l.set dst v).toArray, df⟩ w') : RC.wpV P ops bm fr Q [⟨some dst, op, ty, pos, after, gd⟩] k S ⟨l.toArray, df⟩ F :=
  RC.wpV_tn hi hw hx fun w h1 h2 => yUpon_mono (fun _ w' h => ⟨{ C := fun x => x = w', sub := fun x e => by rw [e]; exact h.1, R := fun _ _ x => x = w', V := fun _ _ _ _ => True, es := [], kills := [], hC := fun _ _ _ _ h => h, hV := fun _ _ _ _ _ _ _ _ _ _ h => h }, rfl, fun x hx _ => by rw [hx]; exact h.2⟩) _ (hy w h1 h2)
theorem exec_mput {P : Program} {w w' : World} {d : Option Tmp} {ty t : TypeId} {m k v : Operand} {pos : String} {after : Array Edge} {gd : Option (Nat × Bool)} {ρ : Operand → Value} (h : (Instr.mapUpdate t (ρ m) (ρ k) (ρ v)).run P w = .ok () w') :
    (execOp ρ ⟨d, .mapUpdate t m k v, ty, pos, after, gd⟩).run P w = .ok .skip w' := by
  unfold execOp
  simp only [Sem.run_bind, h, Result.andThen_ok, Sem.run_pure]
theorem wpList_mput {P : Program} {w w' : World} {ops : Array Oper} {rest : List Oper} {a : Act} {Q : Exit → Act → World → Prop} {ty t : TypeId} {m k v : Operand} {pos : String} {after : Array Edge} {x y z : Value} (hm : a.eval m = x) (hk : a.eval k = y) (hv : a.eval v = z) (h : (Instr.mapUpdate t x y z).run P w = .ok () w')
    (kk : wpList P ops Q rest a w') : wpList P ops Q (⟨none, .mapUpdate t m k v, ty, pos, after, none⟩ :: rest) a w := by
  subst hm hk hv
  refine wpList_plain rfl fun K hK => ?_
  unfold Oper.wp
  rw [exec_mput h]
  exact hK _ _ kk
theorem leafP_len (k : Nat) (text : List UInt8) : (leafP k text).flatten.length = 12 + text.length := by
  simp [leafP, numS_len]; omega
theorem Ht.marks {w w' : World} {t : Tre} {h h' : Int → Bool} {T : Nat → Nat → B16} (a : Ht w t h T) (m : MI w' t.m h') (k : Keep [t.m] w w') : Ht w' t h' T := by
  have hnd := a.nd
  unfold Tre.hard at hnd
  rw [List.nodup_cons] at hnd
  have hns : ∀ y ∈ t.soft, y ∉ [t.m] := fun y hy hm => a.sp y hy (by simp at hm; subst hm; simp [Tre.hard])
  exact {
    obj := k.obj a.obj (hns _ (by simp [Tre.soft]))
    key := a.key.keep k fun g hg => hns g (by simp [Tre.soft, hg])
    lev := a.lev.keep k fun g hg => hns g (by simp [Tre.soft, hg])
    row := fun j hj => (a.row j hj).keep k fun g hg hm => hnd.1 (by
      simp [blk] at hg hm
      rw [← hm, hg]
      exact List.mem_map.2 ⟨j, List.mem_range.2 hj, rfl⟩)
    mp := m
    nd := a.nd
    sp := a.sp
    klt := fun x hx => Nat.lt_of_lt_of_le (a.klt x hx) k.size }
theorem HB.marks {w w' : World} {t : Tre} {h h' : Int → Bool} {T : Nat → Nat → B16} {fp : List Nat} {cs : List Clm} (a : HB w t h T fp cs) (m : MI w' t.m h') (k : Keep [t.m] w w') : HB w' t h' T fp cs :=
  ⟨a.ht.marks m k, a.bk.keep k (fun x hx hm => (a.d x hx).1 (by simp at hm; subst hm; simp [Tre.hard])), a.d⟩

set_option maxRecDepth 100000 in
theorem setOut {w : World} {t : Tre} {h : Int → Bool} {T : Nat → Nat → B16} (a : Ht w t h T) (hL : 0 < t.L) (k : Int) (hk : k < 0 ∨ (t.n : Int) ≤ k) (x : Value) (R : Ending → World → Prop) (hR : R (.returned (.int .i64 3)) w) :
    Calls Try.prog 31 #[.pointer (some ⟨t.p, 0, none⟩), .int .i64 k, x] w R := by
  have hs := hasTC a hL k
  rw [decide_eq_false (by omega)] at hs
  clear a
  go_enter Try.func31, Try.ntmps31
  go_wp2_with fail
  refine hs _ ?_
  go_wp2_with fail
  exact hR
set_option maxRecDepth 100000 in
theorem clearOut {w : World} {t : Tre} {h : Int → Bool} {T : Nat → Nat → B16} (a : Ht w t h T) (hL : 0 < t.L) (k : Int) (hk : k < 0 ∨ (t.n : Int) ≤ k) (R : Ending → World → Prop) (hR : R (.returned (.int .i64 3)) w) :
    Calls Try.prog 51 #[.pointer (some ⟨t.p, 0, none⟩), .int .i64 k] w R := by
  have hs := hasTC a hL k
  rw [decide_eq_false (by omega)] at hs
  clear a
  go_enter Try.func51, Try.ntmps51
  go_wp2_with fail
  refine hs _ ?_
  go_wp2_with fail
  exact hR


set_option maxRecDepth 100000 in
set_option maxHeartbeats 1000000 in
theorem set4 (t : Tre) (k : Nat) (hk : k < t.n) (hL : t.L = (wl t.n).length) (hn2 : t.n ≤ 1000) (hkey : t.key.length = 32) (a0 : Option Addr) (n c0 : Nat) (text : List UInt8) (htl : text.length ≤ 1000) {h : Int → Bool} {T : Nat → Nat → B16} {FP : List Nat} {cs : List Clm} {lv : Nat → B16} (hT : Agr t.key t.n t.L lv T) (hcs : cs.length ≤ 80000) {c3 c4 c5 c6 c7 c8 c9 c10 c11 c12 c13 c14 c15 c16 c17 c18 c19 c20 c21 c22 c23 c24 c25 c26 c27 c28 c29 c30 c31 : Value} (w : World) (a : HB w t h T FP cs) (s : Sl w 1 a0 n c0 (text.map B)) (hd : ∀ g ∈ bz n a0, g ∉ FP) {Q : Exit → Act → World → Prop}
    (hQ : ∀ (FP' : List Nat) (ds : List Clm) (T' : Nat → Nat → B16) (w' : World), HB w' t h T' FP' (cs ++ clmS t.key (framS (leafP k text)) true :: ds) → Agr t.key t.n t.L (upL lv k (leafT t.key k text)) T' → (∀ d ∈ ds, NodeC t.key d) → ds.length ≤ t.L → Keep (t.hard ++ FP) w w' → (∀ g ∈ FP', g ∈ FP ∨ w.heap.size ≤ g) → ∀ {u16 u17 u18 u19 u20 u21 u22 u23 u24 u25 u26 u27 u28 u29 u30 u31 : Value}, Q .normal ⟨List.toArray (.pointer (some ⟨t.p, 0, none⟩) :: .int .i64 (k : Int) :: .slice a0 n c0 :: c3 :: c4 :: c5 :: c6 :: c7 :: c8 :: c9 :: c10 :: c11 :: c12 :: c13 :: c14 :: c15 :: u16 :: u17 :: u18 :: u19 :: u20 :: u21 :: u22 :: u23 :: u24 :: u25 :: u26 :: u27 :: u28 :: u29 :: u30 :: u31 :: []), []⟩ w') :
    Code.wp Try.prog (regionAt Try.f31 4) Q ⟨List.toArray (.pointer (some ⟨t.p, 0, none⟩) :: .int .i64 (k : Int) :: .slice a0 n c0 :: c3 :: c4 :: c5 :: c6 :: c7 :: c8 :: c9 :: c10 :: c11 :: c12 :: c13 :: c14 :: c15 :: c16 :: c17 :: c18 :: c19 :: c20 :: c21 :: c22 :: c23 :: c24 :: c25 :: c26 :: c27 :: c28 :: c29 :: c30 :: c31 :: []), []⟩ w := by
  have hml : maxLen = 9223372036854775807 := rfl
  have hfl := leafP_len k text
  have hlp := leafPartsC k (by omega) a0 n c0 text
  have hsh := shortMC (macS t.key (framS (leafP k text))) (macS_len _ _)
  have hMl : ((macS t.key (framS (leafP k text))).map B).length = 32 := by rw [List.length_map]; exact macS_len _ _
  obtain ⟨x, hx⟩ : ∃ x, x = clmS t.key (framS (leafP k text)) true := ⟨_, rfl⟩
  have hmk : ∀ w', BkO w' t.bv FP cs → Sl w' 1 t.ko 32 t.kc (t.key.map B) → ∀ lo vs, Sl w' 1 lo 3 3 vs → Pt w' vs (leafP k text) → ∀ R : Ending → World → Prop, (∀ fp' w'', BkO w'' t.bv fp' (cs ++ [x]) → Keep FP w' w'' → (∀ g ∈ fp', g ∈ FP ∨ w'.heap.size ≤ g) → R (.returned (.agg ((macS t.key (framS (leafP k text))).map B).toArray)) w'') → Calls Try.prog 64 #[t.bv, .slice t.ko 32 t.kc, .slice lo 3 3] w' R :=
    fun w' b sk lo vs s pt R hR => makeO b (by omega) t.ko 32 t.kc t.key hkey lo 3 3 vs (leafP k text) rfl sk (by omega) s pt (by omega) (by omega) R (by rw [← hx]; exact hR)
  have hput := fun FP2 w' (b : HB w' t h T FP2 (cs ++ [x])) => putTC t k hk (leafT t.key k text) hL hn2 hkey hT (by rw [List.length_append]; simp; omega) w' b
  rw [← hx] at hQ
  obtain ⟨M, hM⟩ : ∃ M, M = (macS t.key (framS (leafP k text))).map B := ⟨_, rfl⟩
  simp only [← hM] at hsh hmk
  rw [← hM] at hMl
  obtain ⟨tg, htg⟩ : ∃ tg, tg = leafT t.key k text := ⟨_, rfl⟩
  rw [← htg] at hQ hput
  have hsh' : ∀ (w : World) (R : Ending → World → Prop), (∀ w', Grow w w' → R (.returned (.agg (tg.b.map B).toArray)) w') → Calls Try.prog 63 #[.agg M.toArray] w R := by rw [htg]; exact hsh
  clear hsh hM htg hx hfl
  have ob := a.ht.obj
  have hps : t.p ∉ FP := fun hm => (a.d _ hm).2 (by simp [Tre.soft])
  have q1 := KW.cell (fp := FP) (p0 := tt) (obj_cell ob 0 rfl) hps
  have q2 := KW.cell (fp := FP) (p0 := tt) (obj_cell ob 1 rfl) hps
  have hkfp : ∀ g ∈ blk t.ko, g ∉ FP := fun g hg hm => (a.d _ hm).2 (by simp [Tre.soft, hg])
  clear ob
  have : Nonempty (KW FP tt w) := ⟨⟨w, Keep.refl _ _, trivial⟩⟩
  let W : Nat → Array Value → Value → World → Prop := fun j _ v w' =>
    (j = 12 → ∃ lo vs, v = .slice lo 3 3 ∧ Sl w' 1 lo 3 3 vs ∧ Pt w' vs (leafP k text)) ∧
    (j = 13 → v = .agg M.toArray ∧ ∃ fp', BkO w' t.bv fp' (cs ++ [x]) ∧ ∀ g ∈ fp', g ∈ FP ∨ w.heap.size ≤ g) ∧
    (j = 14 → v = .agg (tg.b.map B).toArray)
  conv => arg 2; whnf
  refine RC.wp_region_Y FP 13 [12, 13, 14] [(13, 99), (13, 12)] (by simp) W ?_ (fun w' => BkO w' t.bv FP cs) (by kernel_rfl) a.bk (fun w1 w2 g b => b.grow g) ?_
  · rintro i j vs v w1 w' hij hkl _ kp ⟨v2, v3, v4⟩
    by_cases e : i = 13
    · subst e
      exact ⟨fun hj => by subst hj; simp at hkl, fun hj => absurd hj.symm hij, v4⟩
    · rw [if_neg e] at kp
      exact ⟨fun hj => let ⟨lo, vs, e, s, p⟩ := v2 hj; ⟨lo, vs, e, s.grow kp.grow, p.grow kp.grow⟩, fun hj => let ⟨e, fp', b, inn⟩ := v3 hj; ⟨e, fp', b.grow kp.grow, inn⟩, v4⟩
  unfold RC.segW
  repeat (first | (refine RC.wpV_skp rfl rfl ?_; simp only [List.set_cons_succ, List.set_cons_zero]) | (refine RC.wpV_look rfl rfl rfl rfl rfl (fun K hK => ?_); go_big_quiet_op; refine hK _ ?_; clear hK K) | (refine RC.wpV_free rfl rfl rfl rfl (fun K hK => ?_); unfold RC.Base; go_big_quiet_op; refine hK _ ?_; clear hK K))
  refine RC.wpV_mk rfl rfl rfl [] (by kernel_rfl) (fun vs7 w7 hC hF => yields_call (by kernel_rfl) ?_) (fun vs7 v w7 hC hV hF => ?_)
  · obtain ⟨⟨w7, hk, -⟩, rfl⟩ := hC
    exact hlp w7 (s.keepZ hk hd) _ (fun lo vs w8 s8 p8 g8 _ => ⟨_, rfl, Keep.of_grow [] g8, fun _ => ⟨_, _, rfl, s8, p8⟩, by simp, by simp⟩)
  obtain ⟨b22, v22, rfl, -, -⟩ := hV.1 rfl
  clear hV hC hF w7
  simp only [List.set_cons_succ, List.set_cons_zero]
  refine RC.wpV_mk rfl rfl rfl [12, 99] (by kernel_rfl) (fun vs7 w7 hC hF => yields_call (by kernel_rfl) ?_) (fun vs7 v w7 hC hV hF => ?_)
  · obtain ⟨lo, vs, e, s, p⟩ := ((hF 12 (by simp)).2 rfl).1 rfl
    have h99 := (((hF 99 (by simp)).1.resolve_left (by simp))).1 rfl
    cases e
    obtain ⟨⟨w7, hk, -⟩, rfl⟩ := hC
    exact hmk w7 h99 (a.ht.key.keep hk hkfp) _ _ s p _ (fun fp' w8 b8 k8 in8 => ⟨_, rfl, k8, by simp, fun _ => ⟨rfl, fp', b8, fun g hg => (in8 g hg).imp id fun h => Nat.le_trans hk.size h⟩, by simp⟩)
  obtain ⟨rfl, -⟩ := hV.2.1 rfl
  clear hV hC hF w7
  simp only [List.set_cons_succ, List.set_cons_zero]
  refine RC.wpV_mk rfl rfl rfl [] (by kernel_rfl) (fun vs7 w7 hC hF => yields_call (by kernel_rfl) ?_) (fun vs7 v w7 hC hV hF => ?_)
  · exact hsh' w7 _ (fun w8 g8 => ⟨_, rfl, Keep.of_grow [] g8, by simp, by simp, fun _ => rfl⟩)
  obtain rfl := hV.2.2 rfl
  clear hV hC hF w7
  simp only [List.set_cons_succ, List.set_cons_zero]
  refine RC.wpV_endD rfl rfl (by kernel_rfl) (fun w7 hC hF => yields_call (by kernel_rfl) ?_)
  obtain ⟨-, fp', b7, in7⟩ := (((hF 13).1.resolve_left (by simp)).2 rfl).2.1 rfl
  obtain ⟨⟨w7, hk7, -⟩, rfl⟩ := hC
  have a7 := a.book b7 hk7 in7
  refine hput fp' w7 a7 _ (fun FP8 ds T8 w8 a8 h8 d8 l8 k8 in8 => ⟨_, rfl, trivial, ?_⟩)
  simp only [List.set_cons_succ, List.set_cons_zero]
  refine hQ FP8 ds T8 w8 (by rw [List.append_assoc] at a8; exact a8) h8 d8 l8 ?_ (inn_step in7 hk7.size in8)
  exact keep_step (hk7.mono (by simp +contextual)) in7 k8
end Go.Proofs.Ytfmnkcmicbnfdaa

namespace Go.Proofs.Ytfmnkcmicbnfdaa
open Go Go.RowKit

theorem exec_lookT {P : Program} {w : World} {d : Option Tmp} {ty t : TypeId} {m k : Operand} {ok : Bool} {pos : String} {after : Array Edge} {gd : Option (Nat × Bool)} {ρ : Operand → Value} {v : Value} (h : (Instr.lookup t (ρ m) (ρ k) ok).run P w = .ok v w) :
    (execOp ρ ⟨d, .lookup t m k ok, ty, pos, after, gd⟩).run P w = .ok (.value v) w := by
  unfold execOp
  simp only [Sem.run_bind, h, Result.andThen_ok, Sem.run_pure]
theorem zBoolT (w : World) : (zeroValue 4).run Try.prog w = .ok (.bool false) w := by go_simp


set_option maxRecDepth 100000 in
set_option maxHeartbeats 1000000 in
theorem check1o (t : Tre) (k : Int) (x : Value) {h : Int → Bool} {T : Nat → Nat → B16} (hL : 0 < t.L) (hk : ¬ (0 ≤ k ∧ k < (t.n : Int))) {c3 c4 c5 c6 c7 c8 c9 c10 c11 c12 c13 c14 c15 c16 c17 c18 c19 c20 c21 c22 c23 c24 c25 c26 c27 c28 c29 c30 c31 c32 c33 c34 : Value} (w : World) (a : Ht w t h T) {Q : Exit → Act → World → Prop}
    (hQ : ∀ (w' : World), Grow w w' → ∀ {u7 u8 u9 u10 u11 u12 u13 u14 u15 u16 u17 u18 u19 u20 u21 u22 u23 u24 u25 u26 u27 u28 u29 u30 u31 u32 u33 u34 : Value}, Q .normal ⟨List.toArray (.pointer (some ⟨t.p, 0, none⟩) :: .int .i64 k :: x :: c3 :: c4 :: c5 :: .bool false :: u7 :: u8 :: u9 :: u10 :: u11 :: u12 :: u13 :: u14 :: u15 :: u16 :: u17 :: u18 :: u19 :: u20 :: u21 :: u22 :: u23 :: u24 :: u25 :: u26 :: u27 :: u28 :: u29 :: u30 :: u31 :: u32 :: u33 :: u34 :: []), []⟩ w') :
    Code.wp Try.prog (regionAt Try.f50 1) Q ⟨List.toArray (.pointer (some ⟨t.p, 0, none⟩) :: .int .i64 k :: x :: c3 :: c4 :: c5 :: c6 :: c7 :: c8 :: c9 :: c10 :: c11 :: c12 :: c13 :: c14 :: c15 :: c16 :: c17 :: c18 :: c19 :: c20 :: c21 :: c22 :: c23 :: c24 :: c25 :: c26 :: c27 :: c28 :: c29 :: c30 :: c31 :: c32 :: c33 :: c34 :: []), []⟩ w := by
  have hh := fun w' (g : Grow w w') R => hasTC (R := R) (a.grow g) hL k
  rw [decide_eq_false hk] at hh
  clear a
  conv => arg 2; whnf
  refine wp_region_R (segT w [(2, pIs (.bool false))]) (by kernel_rfl) segT_drew ?_
  unfold segT segK segR
  repeat (first | (refine wpV_skp rfl rfl ?_; simp only [List.set_cons_succ, List.set_cons_zero]) | (refine wpV_look rfl rfl rfl rfl rfl (fun K hK => ?_); go_big_quiet_op; refine hK _ ?_; clear hK K))
  refine wpV_mk rfl rfl rfl [] (by kernel_rfl) (fun vs w7 hC _ => yields_call (by kernel_rfl) ?_) (fun vs v w7 hC hV hF => ?_)
  · obtain ⟨⟨w7, hk7, -⟩, rfl⟩ := hC
    exact hh w7 hk7.grow _ ⟨_, rfl, ⟨Keep.refl [] _, trivial⟩, rfl⟩
  obtain rfl := hV
  clear hC hF w7
  simp only [List.set_cons_succ, List.set_cons_zero]
  repeat (first | (refine wpV_skp rfl rfl ?_; simp only [List.set_cons_succ, List.set_cons_zero]) | (refine wpV_look rfl rfl rfl rfl rfl (fun K hK => ?_); go_big_quiet_op; refine hK _ ?_; clear hK K))
  refine wpV_nil ?_
  intro w2 hC hF
  obtain ⟨⟨w2, hkw2, -⟩, rfl⟩ := hC
  clear hF
  exact hQ _ hkw2.grow


set_option maxRecDepth 100000 in
set_option maxHeartbeats 1000000 in
theorem check1n (t : Tre) (k : Nat) (x : Value) {h : Int → Bool} {T : Nat → Nat → B16} (hL : 0 < t.L) (hk : k < t.n) (hh : h k = false) {c3 c4 c5 c6 c7 c8 c9 c10 c11 c12 c13 c14 c15 c16 c17 c18 c19 c20 c21 c22 c23 c24 c25 c26 c27 c28 c29 c30 c31 c32 c33 c34 : Value} (w : World) (a : Ht w t h T) {Q : Exit → Act → World → Prop}
    (hQ : ∀ (w' : World), Grow w w' → ∀ {u7 u8 u9 u10 u11 u12 u13 u14 u15 u16 u17 u18 u19 u20 u21 u22 u23 u24 u25 u26 u27 u28 u29 u30 u31 u32 u33 u34 : Value}, Q .normal ⟨List.toArray (.pointer (some ⟨t.p, 0, none⟩) :: .int .i64 (k : Int) :: x :: c3 :: c4 :: c5 :: .bool false :: u7 :: u8 :: u9 :: u10 :: u11 :: u12 :: u13 :: u14 :: u15 :: u16 :: u17 :: u18 :: u19 :: u20 :: u21 :: u22 :: u23 :: u24 :: u25 :: u26 :: u27 :: u28 :: u29 :: u30 :: u31 :: u32 :: u33 :: u34 :: []), []⟩ w') :
    Code.wp Try.prog (regionAt Try.f50 1) Q ⟨List.toArray (.pointer (some ⟨t.p, 0, none⟩) :: .int .i64 (k : Int) :: x :: c3 :: c4 :: c5 :: c6 :: c7 :: c8 :: c9 :: c10 :: c11 :: c12 :: c13 :: c14 :: c15 :: c16 :: c17 :: c18 :: c19 :: c20 :: c21 :: c22 :: c23 :: c24 :: c25 :: c26 :: c27 :: c28 :: c29 :: c30 :: c31 :: c32 :: c33 :: c34 :: []), []⟩ w := by
  have hs := fun w' (g : Grow w w') R => hasTC (R := R) (a.grow g) hL k
  rw [decide_eq_true (show 0 ≤ (k : Int) ∧ (k : Int) < (t.n : Int) by omega)] at hs
  have q3 := KW.cell (fp := []) (p0 := tt) (obj_cell a.obj 3 rfl) (by simp)
  have lkV : ∀ w', Keep [] w w' → (Instr.lookup 114 (.map (some t.m)) (.int .i64 (k : Int)) false).run Try.prog w' = .ok (.bool false) w' := fun w' kp => by
    have := (a.mp.grow kp.grow).look (P := Try.prog) Try.underlying114 Try.underlying3 (zBoolT w') (k : Int)
    rwa [hh] at this
  clear a hh
  conv => arg 2; whnf
  refine wp_region_R (segT w [(2, pIs (.bool true))]) (by kernel_rfl) segT_drew ?_
  unfold segT segK segR
  repeat (first | (refine wpV_skp rfl rfl ?_; simp only [List.set_cons_succ, List.set_cons_zero]) | (refine wpV_look rfl rfl rfl rfl rfl (fun K hK => ?_); go_big_quiet_op; refine hK _ ?_; clear hK K))
  refine wpV_mk rfl rfl rfl [] (by kernel_rfl) (fun vs w7 hC _ => yields_call (by kernel_rfl) ?_) (fun vs v w7 hC hV hF => ?_)
  · obtain ⟨⟨w7, hk7, -⟩, rfl⟩ := hC
    exact hs w7 hk7.grow _ ⟨_, rfl, ⟨Keep.refl [] _, trivial⟩, rfl⟩
  obtain rfl := hV
  clear hC hF w7
  simp only [List.set_cons_succ, List.set_cons_zero]
  repeat (first | (refine wpV_skp rfl rfl ?_; simp only [List.set_cons_succ, List.set_cons_zero]) | (refine wpV_val rfl rfl rfl rfl rfl _ (fun w hC => by obtain ⟨n, rfl⟩ := hC; exact exec_lookT (lkV _ n.h)) ?_; simp only [List.set_cons_succ, List.set_cons_zero]) | (refine wpV_look rfl rfl rfl rfl rfl (fun K hK => ?_); go_big_quiet_op; refine hK _ ?_; clear hK K))
  refine wpV_nil ?_
  intro w2 hC hF
  obtain ⟨⟨w2, hkw2, -⟩, rfl⟩ := hC
  clear hF
  exact hQ _ hkw2.grow


set_option maxRecDepth 100000 in
set_option maxHeartbeats 1000000 in
theorem check1 (t : Tre) (k : Nat) (hk : k < t.n) (hL : t.L = (wl t.n).length) (hn2 : t.n ≤ 1000) (hkey : t.key.length = 32) (a0 : Option Addr) (n c0 : Nat) (text : List UInt8) (htl : text.length ≤ 1000) {h : Int → Bool} (hh : h k = true) {T : Nat → Nat → B16} {FP : List Nat} {cs : List Clm} (hcs : cs.length ≤ 90000) (c : Bool) (hc : c = (shortS (macS t.key (framS (leafP k text))) == (T 0 k).b)) {c3 c4 c5 c6 c7 c8 c9 c10 c11 c12 c13 c14 c15 c16 c17 c18 c19 c20 c21 c22 c23 c24 c25 c26 c27 c28 c29 c30 c31 c32 c33 c34 : Value} (w : World) (a : HB w t h T FP cs) (s : Sl w 1 a0 n c0 (text.map B)) (hd : ∀ g ∈ bz n a0, g ∉ FP) {Q : Exit → Act → World → Prop}
    (hQ : ∀ (FP' : List Nat) (w' : World), HB w' t h T FP' (cs ++ if c then [clmS t.key (framS (leafP k text)) false] else []) → Keep FP w w' → (∀ g ∈ FP', g ∈ FP ∨ w.heap.size ≤ g) → ∀ {u7 u8 u9 u10 u11 u12 u13 u14 u15 u16 u17 u18 u19 u20 u21 u22 u23 u24 u25 u26 u27 u28 u29 u30 u31 u32 u33 u34 : Value}, Q .normal ⟨List.toArray (.pointer (some ⟨t.p, 0, none⟩) :: .int .i64 (k : Int) :: .slice a0 n c0 :: c3 :: c4 :: c5 :: .bool c :: u7 :: u8 :: u9 :: u10 :: u11 :: u12 :: u13 :: u14 :: u15 :: u16 :: u17 :: u18 :: u19 :: u20 :: u21 :: u22 :: u23 :: u24 :: u25 :: u26 :: u27 :: u28 :: u29 :: u30 :: u31 :: u32 :: u33 :: u34 :: []), []⟩ w') :
    Code.wp Try.prog (regionAt Try.f50 1) Q ⟨List.toArray (.pointer (some ⟨t.p, 0, none⟩) :: .int .i64 (k : Int) :: .slice a0 n c0 :: c3 :: c4 :: c5 :: c6 :: c7 :: c8 :: c9 :: c10 :: c11 :: c12 :: c13 :: c14 :: c15 :: c16 :: c17 :: c18 :: c19 :: c20 :: c21 :: c22 :: c23 :: c24 :: c25 :: c26 :: c27 :: c28 :: c29 :: c30 :: c31 :: c32 :: c33 :: c34 :: []), []⟩ w := by
  have hml : maxLen = 9223372036854775807 := rfl
  have hL0 : 0 < t.L := by
    rw [hL]
    by_cases h : t.n ≤ 1
    · rw [wl_one h]; simp
    · rw [wl_more h]; simp
  have hfl := leafP_len k text
  have hlp := leafPartsC k (by omega) a0 n c0 text
  have hall : ∀ w', Keep FP w w' → Ht w' t h T := fun w' kp => a.ht.keep kp (fun x hx => (a.d x hx).1) (fun x hx => (a.d x hx).2)
  have hs := fun w' (g : Keep FP w w') R => hasTC (R := R) (hall w' g) hL0 k
  rw [decide_eq_true (show 0 ≤ (k : Int) ∧ (k : Int) < (t.n : Int) by omega)] at hs
  have hlf := fun w' (g : Keep FP w w') R => leafTC (R := R) (hall w' g) hL (by omega) hn2 k
  have e0 : nodeA t.n T 0 k = T 0 k := by
    unfold nodeA
    rw [if_pos ⟨by omega, by rw [show (0 : Int) = ((0 : Nat) : Int) from rfl, wid_lw t.n 0 (by omega) (by omega), lw_zero]; omega⟩]
    simp
  rw [e0] at hlf
  have hck : ∀ w', BkO w' t.bv FP cs → Sl w' 1 t.ko 32 t.kc (t.key.map B) → ∀ lo vs, Sl w' 1 lo 3 3 vs → Pt w' vs (leafP k text) → ∀ R : Ending → World → Prop, (∀ fp' w'', BkO w'' t.bv fp' (cs ++ if c then [clmS t.key (framS (leafP k text)) false] else []) → Keep FP w' w'' → (∀ g ∈ fp', g ∈ FP ∨ w'.heap.size ≤ g) → R (.returned (.bool c)) w'') → Calls Try.prog 71 #[t.bv, .slice t.ko 32 t.kc, .agg ((T 0 k).b.map B).toArray, .slice lo 3 3] w' R :=
    fun w' b sk lo vs s pt R hR => by
      refine checkO b (by omega) t.ko 32 t.kc t.key (T 0 k).b hkey (T 0 k).h lo 3 3 vs (leafP k text) rfl sk (by omega) s pt (by omega) (by omega) R ?_
      rw [← hc]
      exact hR
  obtain ⟨V, hV⟩ : ∃ V, V = ((T 0 k).b.map B).toArray := ⟨_, rfl⟩
  simp only [← hV] at hck hlf
  obtain ⟨X, hX⟩ : ∃ X, X = cs ++ if c then [clmS t.key (framS (leafP k text)) false] else [] := ⟨_, rfl⟩
  rw [← hX] at hQ
  simp only [← hX] at hck
  have lkV : ∀ w', Keep FP w w' → (Instr.lookup 114 (.map (some t.m)) (.int .i64 (k : Int)) false).run Try.prog w' = .ok (.bool true) w' := fun w' kp => by
    have := ((hall w' kp).mp).look (P := Try.prog) Try.underlying114 Try.underlying3 (zBoolT w') (k : Int)
    rwa [hh] at this
  have ob := a.ht.obj
  have hps : t.p ∉ FP := fun hm => (a.d _ hm).2 (by simp [Tre.soft])
  have q1 := KW.cell (fp := FP) (p0 := tt) (obj_cell ob 0 rfl) hps
  have q2 := KW.cell (fp := FP) (p0 := tt) (obj_cell ob 1 rfl) hps
  have q3 := KW.cell (fp := FP) (p0 := tt) (obj_cell ob 3 rfl) hps
  have hkfp : ∀ g ∈ blk t.ko, g ∉ FP := fun g hg hm => (a.d _ hm).2 (by simp [Tre.soft, hg])
  clear ob hV hX hc e0 hfl hh
  have : Nonempty (KW FP tt w) := ⟨⟨w, Keep.refl _ _, trivial⟩⟩
  let W : Nat → Array Value → Value → World → Prop := fun j _ v w' =>
    (j = 2 → v = .bool true) ∧
    (j = 22 → v = .agg V) ∧
    (j = 25 → ∃ lo vs, v = .slice lo 3 3 ∧ Sl w' 1 lo 3 3 vs ∧ Pt w' vs (leafP k text)) ∧
    (j = 26 → v = .bool c ∧ ∃ fp', BkO w' t.bv fp' X ∧ ∀ g ∈ fp', g ∈ FP ∨ w.heap.size ≤ g)
  conv => arg 2; whnf
  refine RC.wp_region_Y FP 26 [2, 22, 25, 26] [(26, 99), (26, 25)] (by simp) W ?_ (fun w' => BkO w' t.bv FP cs) (by kernel_rfl) a.bk (fun w1 w2 g b => b.grow g) ?_
  · rintro i j vs v w1 w' hij hkl _ kp ⟨v1, v2, v3, v4⟩
    by_cases e : i = 26
    · subst e
      exact ⟨v1, v2, fun hj => by subst hj; simp at hkl, fun hj => absurd hj.symm hij⟩
    · rw [if_neg e] at kp
      exact ⟨v1, v2, fun hj => let ⟨lo, vs, e, s, p⟩ := v3 hj; ⟨lo, vs, e, s.grow kp.grow, p.grow kp.grow⟩, fun hj => let ⟨e, fp', b, inn⟩ := v4 hj; ⟨e, fp', b.grow kp.grow, inn⟩⟩
  unfold RC.segW
  repeat (first | (refine RC.wpV_skp rfl rfl ?_; simp only [List.set_cons_succ, List.set_cons_zero]) | (refine RC.wpV_look rfl rfl rfl rfl rfl (fun K hK => ?_); go_big_quiet_op; refine hK _ ?_; clear hK K) | (refine RC.wpV_free rfl rfl rfl rfl (fun K hK => ?_); unfold RC.Base; go_big_quiet_op; refine hK _ ?_; clear hK K))
  refine RC.wpV_mk rfl rfl rfl [] (by kernel_rfl) (fun vs7 w7 hC hF => yields_call (by kernel_rfl) ?_) (fun vs7 v w7 hC hV hF => ?_)
  · obtain ⟨⟨w7, hk7, -⟩, rfl⟩ := hC
    exact hs w7 hk7 _ ⟨_, rfl, Keep.refl [] _, fun _ => rfl, by simp, by simp, by simp⟩
  obtain rfl := hV.1 rfl
  clear hV hC hF w7
  simp only [List.set_cons_succ, List.set_cons_zero]
  repeat (first | (refine RC.wpV_skp rfl rfl ?_; simp only [List.set_cons_succ, List.set_cons_zero]) | (refine RC.wpV_val rfl rfl rfl rfl rfl _ (fun w hC => by obtain ⟨n, rfl⟩ := hC; exact exec_lookT (lkV _ n.h)) ?_; simp only [List.set_cons_succ, List.set_cons_zero]) | (refine RC.wpV_look rfl rfl rfl rfl rfl (fun K hK => ?_); go_big_quiet_op; refine hK _ ?_; clear hK K))
  refine RC.wpV_mk rfl rfl rfl [] (by kernel_rfl) (fun vs7 w7 hC hF => yields_call (by kernel_rfl) ?_) (fun vs7 v w7 hC hV hF => ?_)
  · obtain ⟨⟨w7, hk7, -⟩, rfl⟩ := hC
    exact hlf w7 hk7 _ (fun w8 g8 => ⟨_, rfl, Keep.of_grow [] g8, by simp, fun _ => rfl, by simp, by simp⟩)
  obtain rfl := hV.2.1 rfl
  clear hV hC hF w7
  simp only [List.set_cons_succ, List.set_cons_zero]
  repeat (first | (refine RC.wpV_skp rfl rfl ?_; simp only [List.set_cons_succ, List.set_cons_zero]) | (refine RC.wpV_look rfl rfl rfl rfl rfl (fun K hK => ?_); go_big_quiet_op; refine hK _ ?_; clear hK K) | (refine RC.wpV_free rfl rfl rfl rfl (fun K hK => ?_); unfold RC.Base; go_big_quiet_op; refine hK _ ?_; clear hK K))
  refine RC.wpV_mk rfl rfl rfl [] (by kernel_rfl) (fun vs7 w7 hC hF => yields_call (by kernel_rfl) ?_) (fun vs7 v w7 hC hV hF => ?_)
  · obtain ⟨⟨w7, hk7, -⟩, rfl⟩ := hC
    exact hlp w7 (s.keepZ hk7 hd) _ (fun lo vs w8 s8 p8 g8 _ => ⟨_, rfl, Keep.of_grow [] g8, by simp, by simp, fun _ => ⟨_, _, rfl, s8, p8⟩, by simp⟩)
  obtain ⟨b22, v22, rfl, -, -⟩ := hV.2.2.1 rfl
  clear hV hC hF w7
  simp only [List.set_cons_succ, List.set_cons_zero]
  refine RC.wpV_mk rfl rfl rfl [25, 99] (by kernel_rfl) (fun vs7 w7 hC hF => yields_call (by kernel_rfl) ?_) (fun vs7 v w7 hC hV hF => ?_)
  · obtain ⟨lo, vs, e, s, p⟩ := ((hF 25 (by simp)).2 rfl).2.2.1 rfl
    have h99 := (((((hF 99 (by simp)).1.resolve_left (by simp)).1.resolve_left (by simp)).1.resolve_left (by simp))).1 rfl
    cases e
    obtain ⟨⟨w7, hk7, -⟩, rfl⟩ := hC
    exact hck w7 h99 (a.ht.key.keep hk7 hkfp) _ _ s p _ (fun fp' w8 b8 k8 in8 => ⟨_, rfl, k8, by simp, by simp, by simp, fun _ => ⟨rfl, fp', b8, fun g hg => (in8 g hg).imp id fun h => Nat.le_trans hk7.size h⟩⟩)
  obtain ⟨rfl, -⟩ := hV.2.2.2 rfl
  clear hV hC hF w7
  simp only [List.set_cons_succ, List.set_cons_zero]
  repeat (first | (refine RC.wpV_skp rfl rfl ?_; simp only [List.set_cons_succ, List.set_cons_zero]) | (refine RC.wpV_look rfl rfl rfl rfl rfl (fun K hK => ?_); go_big_quiet_op; refine hK _ ?_; clear hK K) | (refine RC.wpV_free rfl rfl rfl rfl (fun K hK => ?_); unfold RC.Base; go_big_quiet_op; refine hK _ ?_; clear hK K))
  refine RC.wpV_nil ?_
  intro w7 hC hF
  obtain ⟨-, fp', b7, in7⟩ := ((hF 26).2 rfl).2.2.2 rfl
  obtain ⟨⟨w7, hk7, -⟩, rfl⟩ := hC
  clear hF
  exact hQ fp' _ (a.book b7 hk7 in7) hk7 in7
end Go.Proofs.Ytfmnkcmicbnfdaa
