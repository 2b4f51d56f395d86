/- the document's tape. -/
import Derived.Test.YtoelddjmjhnbaaaTape
namespace Go.Proofs.Ytoelddjmjhnbaaa
open Go Go.RowKit

/-- The block that a slice's reading hangs on: none where there is nothing. -/
def rblk (xs : List Value) (ao : Option Addr) : List Nat := if xs = [] then [] else blk ao
theorem Sl.keepB {fp : List Nat} {w w' : World} {sz : Nat} {ao : Option Addr} {n cap : Nat} {xs : List Value} (h : Sl w sz ao n cap xs) (k : Keep fp w w') (hb : ∀ g ∈ rblk xs ao, g ∉ fp) : Sl w' sz ao n cap xs := by
  by_cases h0 : xs = []
  · exact ⟨h.hle, h.hcap, h.hlen, h.hone, h.hnil, fun hn => let ⟨g, off, e, hc⟩ := h.hat hn; ⟨g, off, e, fun i hi => by subst h0; simp at hi⟩⟩
  · exact h.keep k (by simpa [rblk, h0] using hb)
theorem Sl.rblk_lt {w : World} {sz : Nat} {ao : Option Addr} {n cap : Nat} {xs : List Value} (h : Sl w sz ao n cap xs) : ∀ g ∈ rblk xs ao, g < w.heap.size := by
  intro g hg
  by_cases h0 : xs = []
  · simp [rblk, h0] at hg
  · simp only [rblk, h0, if_false] at hg
    have hl := List.length_pos_iff.2 h0
    have := h.hlen
    have hn : 0 < n := by
      rcases Nat.eq_zero_or_pos n with h | h
      · subst h; simp at this; exact absurd this h0
      · exact h
    obtain ⟨b, off, rfl, hc⟩ := h.hat hn
    simp [blk] at hg
    subst hg
    exact World.block_lt_of_cell? _ _ (hc 0 hl)

def RefAt (w : World) (q : Nat) (rb : List Nat) (bs : List Value) (at_ : Nat) (T : List (ByteArray × Int × Int)) : Prop :=
  ∃ bo bc lo lc, w.heap[q]? = some (.cells #[.slice bo bs.length bc, .int .i64 at_, .slice lo T.length lc] 30 (0, 0)) ∧ Sl w 1 bo bs.length bc bs ∧ at_ ≤ bs.length ∧
    Sl w 3 lo T.length lc (tk T) ∧ (∀ g ∈ rblk bs bo, g ≠ q ∧ g < w.heap.size) ∧ (∀ g ∈ blk lo, g ≠ q ∧ g < w.heap.size) ∧ rb = rblk bs bo ++ blk lo
theorem RefAt.keep {fp : List Nat} {w w' : World} {q : Nat} {rb : List Nat} {bs : List Value} {at_ : Nat} {T : List (ByteArray × Int × Int)} (h : RefAt w q rb bs at_ T) (k : Keep fp w w')
    (h1 : q ∉ fp) (h2 : ∀ g ∈ rb, g ∉ fp) : RefAt w' q rb bs at_ T := by
  obtain ⟨bo, bc, lo, lc, ho, hs, ha, hl, hq, hq2, rfl⟩ := h
  exact ⟨bo, bc, lo, lc, k.obj ho h1, hs.keepB k fun g hg => h2 g (by simp [hg]), ha, hl.keep k fun g hg => h2 g (by simp [hg]), fun g hg => ⟨(hq g hg).1, Nat.lt_of_lt_of_le (hq g hg).2 k.size⟩, fun g hg => ⟨(hq2 g hg).1, Nat.lt_of_lt_of_le (hq2 g hg).2 k.size⟩, rfl⟩

set_option maxHeartbeats 800000 in
theorem refTake (q : Nat) (rb : List Nat) (bs : List Value) (at_ : Nat) (T : List (ByteArray × Int × Int)) (w : World) (h : RefAt w q rb bs at_ T) (hn : bs.length ≤ 60000) (hT : T.length ≤ 60000)
    (what : ByteArray) (n : Nat) (hle : n + at_ ≤ bs.length) (R : Ending → World → Prop)
    (hR : ∀ ao' cap' rb' w', Own w' 5 1 ao' n cap' ((bs.drop at_).take n) → RefAt w' q rb' bs (at_ + n) (T ++ [(what, (at_ : Int), (n : Int))]) → Keep [q] w w' →
      Inn rb' rb w → Fr (blk ao') w → R (.returned (.tuple #[.slice ao' n cap', .int .i64 0])) w') :
    Calls Try.prog 18 #[.pointer (some ⟨q, 0, none⟩), .string what, .int .i64 n] w R := by
  obtain ⟨bo, bc, lo, lc, ho, hs, ha, hl, hq, hq2, rfl⟩ := h
  have g0 := KW.cell (fp := []) (p0 := tt) (obj_cell ho 0 rfl) (by simp)
  have g1 := KW.cell (fp := []) (p0 := tt) (obj_cell ho 1 rfl) (by simp)
  have hx : ¬ (bs.length : Int) - at_ < n := by omega
  go_enter Try.func18, Try.ntmps18
  go_wp2
  refine wp_region_R (segL w) (by kernel_rfl) segL_drew ?_
  unfold segL segK segR
  repeat (first | (refine wpV_skip rfl rfl ?_) | (refine wpV_free rfl rfl rfl rfl (fun K hK => ?_); go_big_quiet_op; refine hK _ ?_; clear hK K) | (refine wpV_look rfl rfl rfl rfl rfl (fun K hK => ?_); go_big_quiet_op; refine hK _ ?_; clear hK K))
  refine wpV_nil ?_
  intro w1 hC _
  obtain ⟨⟨w1, hk1, -⟩, rfl⟩ := hC
  clear g0 g1
  have ho1 := hk1.obj ho (by simp)
  have hs1 := hs.keep hk1 (by simp)
  have hl1 := hl.keep hk1 (by simp)
  have g1 := KW.cell (fp := []) (p0 := tt) (obj_cell ho1 1 rfl) (by simp)
  have g2 := KW.cell (fp := []) (p0 := tt) (obj_cell ho1 2 rfl) (by simp)
  go_wp2
  let news : List Value := [.string what, .int .i64 at_, .int .i64 n]
  let V : Nat → Array Value → Value → World → Prop := fun i _ v w' =>
    (i = 1 → ∃ ao, v = .slice ao 0 0 ∧ Own w' 46 3 ao 0 0 [] ∧ ∀ g ∈ blk ao, w1.heap.size ≤ g) ∧
    (i = 6 → ∃ ao c, v = .slice ao T.length c ∧ Own w' 46 3 ao T.length c (tk T) ∧ ∀ g ∈ blk ao, w1.heap.size ≤ g) ∧
    (i = 14 → ∃ ao c, v = .slice ao 1 c ∧ Sl w' 3 ao 1 c news ∧ ∀ g ∈ blk ao, w1.heap.size ≤ g)
  refine wp_region_F [0] (segK [] w1 [1, 6, 14] V ?_) (by kernel_rfl) segK_drew ?_
  · rintro i vs v wa wb k ⟨v1, v2, v3⟩
    refine ⟨fun hj => ?_, fun hj => ?_, fun hj => ?_⟩
    · obtain ⟨ao, e, ho, hb⟩ := v1 hj; exact ⟨ao, e, ho.keep k (by simp), hb⟩
    · obtain ⟨ao, c, e, ho, hb⟩ := v2 hj; exact ⟨ao, c, e, ho.keep k (by simp), hb⟩
    · obtain ⟨ao, c, e, ho, hb⟩ := v3 hj; exact ⟨ao, c, e, ho.keep k (by simp), hb⟩
  unfold segK segR
  repeat (first | (refine wpV_skip rfl rfl ?_) | (refine wpV_free rfl rfl rfl rfl (fun K hK => ?_); go_big_quiet_op; refine hK _ ?_; clear hK K) | (refine wpV_look rfl rfl rfl rfl rfl (fun K hK => ?_); go_big_quiet_op; refine hK _ ?_; clear hK K))
  refine wpV_mk rfl rfl rfl [] rfl (fun vs w2 hC _ => ?_) (fun vs v w2 hC hV hF => ?_)
  · obtain ⟨⟨w2, hk, -⟩, rfl⟩ := hC
    unfold yields
    go_simp
    have := hk.size
    exact ⟨⟨Keep.alloc _ _ _, trivial⟩, fun _ => ⟨_, rfl, Own.made (n := 0) (cur := #[]) (heap_alloc_new w2 _) rfl (by decide) (by simp), by simpa [blk] using this⟩, by simp, by simp⟩
  obtain ⟨ao, rfl, -, -⟩ := hV.1 rfl
  clear hV hC hF w2
  simp only [List.set_cons_succ, List.set_cons_zero]
  repeat (first | (refine wpV_skip rfl rfl ?_) | (refine wpV_free rfl rfl rfl rfl (fun K hK => ?_); go_big_quiet_op; refine hK _ ?_; clear hK K) | (refine wpV_look rfl rfl rfl rfl rfl (fun K hK => ?_); go_big_quiet_op; refine hK _ ?_; clear hK K))
  refine wpV_mk rfl rfl rfl [1] (by kernel_rfl) (fun vs w2 hC hF => ?_) (fun vs v w2 hC hV hF => ?_)
  · obtain ⟨ao', e, hown, hb⟩ := (hF 1 (by simp)).2 rfl |>.1 rfl
    cases e
    obtain ⟨⟨w2, hk, -⟩, rfl⟩ := hC
    obtain ⟨ao3, c3, w3, hr, h1, h3, h4⟩ := run_app0 TT w2 28 hown (hl1.keep hk (by simp)) (by unfold maxLen; omega) (by omega)
    have := hk.size
    refine yields_run (run_exec_append hr) ⟨⟨Keep.of_grow _ h3, trivial⟩, by simp, fun _ => ⟨ao3, c3, rfl, h1, fun g hg => ?_⟩, by simp⟩
    rcases h4 g hg with h | h
    · exact hb g h
    · omega
  obtain ⟨ao6, c6, rfl, -, -⟩ := hV.2.1 rfl
  clear hV hC hF w2
  simp only [List.set_cons_succ, List.set_cons_zero]
  repeat (first | (refine wpV_skip rfl rfl ?_) | (refine wpV_free rfl rfl rfl rfl (fun K hK => ?_); go_big_quiet_op; refine hK _ ?_; clear hK K) | (refine wpV_look rfl rfl rfl rfl rfl (fun K hK => ?_); go_big_quiet_op; refine hK _ ?_; clear hK K))
  refine wpV_mk rfl rfl rfl [] rfl (fun vs w2 hC _ => ?_) (fun vs v w2 hC hV hF => ?_)
  · obtain ⟨⟨w2, hk, -⟩, rfl⟩ := hC
    unfold yields
    go_simp
    have := hk.size
    exact ⟨⟨Keep.alloc _ _ _, trivial⟩, by simp, by simp, fun _ => ⟨_, _, rfl, (Own.made (heap_alloc_new w2 _) rfl (by decide) (by simp [Value.oneCell'])).sl, by simpa [blk] using this⟩⟩
  obtain ⟨ao7, c7, rfl, -, -⟩ := hV.2.2 rfl
  clear hV hC hF w2
  simp only [List.set_cons_succ, List.set_cons_zero]
  refine wpV_tn rfl rfl (by kernel_rfl) (fun w2 hC hF => ?_)
  obtain ⟨_, _, e, hown, hb⟩ := (hF 6).1.2 rfl |>.2.1 rfl
  cases e
  obtain ⟨_, _, e, hsl, hb7⟩ := (hF 14).2 rfl |>.2.2 rfl
  cases e
  obtain ⟨⟨w2, hk, -⟩, rfl⟩ := hC
  clear hF g1 g2
  obtain ⟨ao8, c8, w3, hr, h1, _, h3, h4⟩ := run_app TT w2 28 hown hsl (by unfold maxLen; omega) (by omega)
  have hz := hk.size
  have hk3 : Keep [] w1 w3 := hk.trans' h3 fun i hi => .inr (hb i hi)
  have hb8 : ∀ g ∈ blk ao8, w1.heap.size ≤ g := fun g hg => by rcases h4 g hg with h | h; exact hb g h; omega
  refine yields_run (run_exec_append hr) ⟨segL w3, segL_at, ?_⟩
  clear hr h3 h4 hsl hown
  simp only [List.set_cons_succ, List.set_cons_zero]
  unfold segL segK segR
  repeat (first | (refine wpV_skip rfl rfl ?_) | (refine wpV_free rfl rfl rfl rfl (fun K hK => ?_); go_big_quiet_op; refine hK _ ?_; clear hK K) | (refine wpV_look rfl rfl rfl rfl rfl (fun K hK => ?_); go_big_quiet_op; refine hK _ ?_; clear hK K))
  refine wpV_end0 rfl rfl (by kernel_rfl) (fun w4 hC hF => ?_)
  obtain ⟨⟨w4, hk4, -⟩, rfl⟩ := hC
  clear hF
  have hk5 := hk3.trans hk4
  have ho4 := hk5.obj ho1 (by simp)
  have c2 := obj_cell ho4 2 rfl
  have f2 := obj_free ho4 2
  have hown4 := h1.keep hk4 (by simp)
  unfold yields
  go_simp
  simp only [yUpon]
  obtain ⟨w6, hw6⟩ : ∃ w6, w6 = w4.setCell ⟨q, 2, none⟩ (.slice ao8 (T.length + 1) c8) := ⟨_, rfl⟩
  have ho6 := obj_set ho4 2 (.slice ao8 (T.length + 1) c8)
  have hk6 := (Keep.of_nil (fp := [q]) hk5).trans (Keep.setCell (fp := [q]) w4 ⟨q, 2, none⟩ (by simp) (.slice ao8 (T.length + 1) c8))
  have hqlt := lt_of_block ho1
  have hown6 := hown4.keep (Keep.setCell (fp := [q]) w4 ⟨q, 2, none⟩ (by simp) (.slice ao8 (T.length + 1) c8)) (fun g hg h => by simp at h; have := hb8 g hg; omega)
  rw [← hw6] at ho6 hk6 hown6 ⊢
  simp only [List.setIfInBounds_toArray, List.set_cons_succ, List.set_cons_zero] at ho6
  clear hw6 c2 f2 ho4 hown4 hk5 hk4 h1 hk3 hk hz
  have c1 := obj_cell ho6 1 rfl
  have f1 := obj_free ho6 1
  go_wp2
  obtain ⟨w7, hw7⟩ : ∃ w7, w7 = w6.setCell ⟨q, 1, none⟩ (.int .i64 (at_ + n)) := ⟨_, rfl⟩
  have ho7 := obj_set ho6 1 (.int .i64 (at_ + n))
  have hk7 := hk6.trans (Keep.setCell (fp := [q]) w6 ⟨q, 1, none⟩ (by simp) (.int .i64 (at_ + n)))
  have hown7 := hown6.keep (Keep.setCell (fp := [q]) w6 ⟨q, 1, none⟩ (by simp) (.int .i64 (at_ + n))) (fun g hg h => by simp at h; have := hb8 g hg; omega)
  have hs7 := hs1.keepB hk7 (fun g hg h => (hq g hg).1 (by simpa using h))
  rw [← hw7] at ho7 hk7 hown7 hs7 ⊢
  simp only [List.setIfInBounds_toArray, List.set_cons_succ, List.set_cons_zero] at ho7
  clear hw7 c1 f1 ho6 hk6 hown6
  have g0 := KW.cell (fp := []) (p0 := tt) (obj_cell ho7 0 rfl) (by simp)
  have g1 := KW.cell (fp := []) (p0 := tt) (obj_cell ho7 1 rfl) (by simp)
  obtain ⟨so, sc, hsl, hcut, hbl⟩ := run_cut TB hs7 (at_ : Int) ((at_ : Int) + n) at_ (at_ + n) rfl (by simp) (by omega) (by omega)
  simp only [Nat.add_sub_cancel_left, Nat.mul_one] at hsl hcut
  refine wp_region_R (segK [] w7 [0] (fun _ _ v w' => ∃ ao, v = .slice ao 0 0 ∧ Own w' 5 1 ao 0 0 [] ∧ ∀ g ∈ blk ao, w7.heap.size ≤ g) ?_) (by kernel_rfl) segK_drew ?_
  · rintro i vs v wa wb k ⟨ao, hv, ho, hb⟩
    exact ⟨ao, hv, ho.keep k (by simp), hb⟩
  unfold segK segR
  refine wpV_mk rfl rfl rfl [] rfl (fun vs w2 hC _ => ?_) (fun vs v w2 hC hV hF => ?_)
  · obtain ⟨⟨w2, hk, -⟩, rfl⟩ := hC
    unfold yields
    go_simp
    have := hk.size
    exact ⟨⟨Keep.alloc _ _ _, trivial⟩, _, rfl, Own.made (n := 0) (cur := #[]) (heap_alloc_new w2 _) rfl (by decide) (by simp), by simpa [blk] using this⟩
  obtain ⟨ao9, rfl, -, -⟩ := hV
  clear hC hF w2
  simp only [List.set_cons_succ, List.set_cons_zero]
  repeat (first | (refine wpV_skip rfl rfl ?_) | (refine wpV_look rfl rfl rfl rfl rfl (fun K hK => ?_); go_big_quiet_op; refine hK _ ?_; clear hK K))
  refine wpV_tn rfl rfl (by kernel_rfl) (fun w2 hC hF => ?_)
  obtain ⟨_, e, hown9, hb9⟩ := (hF 0).2 rfl
  cases e
  obtain ⟨⟨w2, hk, -⟩, rfl⟩ := hC
  clear hF g0 g1 hsl
  obtain ⟨ao3, c3, w3, hr, h1, h3, h4⟩ := run_app0 TB w2 22 hown9 (hcut.keep hk (by simp)) (by unfold maxLen; omega) (by omega)
  refine yields_run (run_exec_append hr) ⟨segL w3, segL_at, ?_⟩
  clear hr
  simp only [List.set_cons_succ, List.set_cons_zero]
  unfold segL segK segR
  repeat (first | (refine wpV_skip rfl rfl ?_) | (refine wpV_look rfl rfl rfl rfl rfl (fun K hK => ?_); go_big_quiet_op; refine hK _ ?_; clear hK K))
  refine wpV_nil ?_
  intro w4 hC _
  obtain ⟨⟨w4, hk4, -⟩, rfl⟩ := hC
  go_wp2
  have hk8 := hk.trans ((Keep.of_grow [] h3).trans hk4)
  have z1 := hk1.size
  have z7 := hk7.size
  have z := hk.size
  refine hR ao3 c3 (rblk bs bo ++ blk ao8) w4 (h1.keep hk4 (by simp)) ⟨bo, bc, ao8, c8, ?_, hs7.keep hk8 (by simp), by omega, ?_, fun g hg => ⟨(hq g hg).1, by have := (hq g hg).2; have := hk8.size; omega⟩, ?_, rfl⟩ ((Keep.of_nil hk1).trans (hk7.trans (Keep.of_nil hk8))) ?_ ?_
  · have := hk8.obj ho7 (by simp)
    simpa using this
  · have := (hown7.keep hk8 (by simp)).sl
    rw [tk_snoc]
    simpa [news] using this
  · intro g hg
    have e1 := hb8 g hg
    have e2 := hown7.lt g hg
    have e3 := hk8.size
    exact ⟨by omega, by omega⟩
  · intro g hg
    rcases List.mem_append.1 hg with h | h
    · exact .inl (by simp [h])
    · have := hb8 g h; exact .inr (by omega)
  · intro g hg
    rcases h4 g hg with h | h
    · have := hb9 g h; omega
    · omega
end Go.Proofs.Ytoelddjmjhnbaaa
