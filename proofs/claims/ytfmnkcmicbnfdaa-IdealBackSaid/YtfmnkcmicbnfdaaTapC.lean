/- tape: what each function does. -/
import Derived.Test.YtfmnkcmicbnfdaaGMem
import Derived.Test.YtfmnkcmicbnfdaaRows
namespace Go.Proofs.Ytfmnkcmicbnfdaa
open Go Go.RowKit

theorem TB : ST Try.prog 27 5 1 1 := ST.mk' (z := .int .u8 0) Try.underlying27 (by kernel_rfl) rfl (by decide)
theorem TT : ST Try.prog 94 161 3 32 := ST.mk' (z := .agg #[.string .empty, .int .i64 0, .int .i64 0]) Try.underlying94 (by kernel_rfl) rfl (by decide)

@[go_sem] theorem nilB (w : World) (ao : Option Addr) (n cap : Nat) : (binOp .eql 27 (.slice ao n cap) (.slice none 0 0)).run Try.prog w = .ok (.bool ao.isNone) w := Lib.run_eql_slice_nil w _ _ ao n cap 0 0 Try.underlying27
@[go_sem] theorem nilT (w : World) (ao : Option Addr) (n cap : Nat) : (binOp .eql 94 (.slice ao n cap) (.slice none 0 0)).run Try.prog w = .ok (.bool ao.isNone) w := Lib.run_eql_slice_nil w _ _ ao n cap 0 0 Try.underlying94

set_option maxRecDepth 100000 in
set_option maxHeartbeats 400000 in
theorem cloneTp (ao : Option Addr) (n cap : Nat) (xs : List Value) (w : World) (h : Sl w 1 ao n cap xs) (hn : n ≤ 60000) (R : Ending → World → Prop)
    (hR : ∀ ao' cap' w', Own w' 5 1 ao' n cap' xs → Grow w w' → Fr (blk ao') w → R (.returned (.slice ao' n cap')) w') :
    Calls Try.prog 55 #[.slice ao n cap] w R := by
  have hb : n ≤ maxLen ∧ (0 + n) * 1 ≤ 140737488355328 := by unfold maxLen; omega
  cases ao with
  | none =>
    obtain rfl := h.hnil rfl
    obtain rfl : n = 0 := by have := h.hle; omega
    obtain rfl : xs = [] := List.eq_nil_of_length_eq_zero (by simpa using h.hlen)
    go_enter Try.func55, Try.ntmps55
    go_wp2
    exact hR _ _ _ (Own.none w _ _) (Grow.refl w) (fun g hg => by simp [blk] at hg)
  | some a =>
    have ho : Own (w.alloc (.cells #[] 5)) 5 1 (some ⟨w.heap.size, 0, none⟩) 0 0 [] := Own.made (n := 0) (cur := #[]) (heap_alloc_new w _) rfl (by decide) (by simp)
    have hx := h.grow (Grow.alloc w (.cells #[] 5))
    go_enter Try.func55, Try.ntmps55
    go_wp2_with (at_builtin; refine wpList_app TB rfl rfl ho hx (by omega) (by omega) ?_; intro ao' cap' w1 hown _ hkeep hblk)
    simp only [Nat.zero_add, List.nil_append] at *
    go_wp2
    exact hR _ _ _ hown ((Keep.alloc [] w _).trans' hkeep (by simp [blk])).grow (fun g hg => by rcases hblk g hg with h | h; simp [blk] at h; omega; simp at h; omega)
/-- The cells of takes. -/
def tk (l : List (ByteArray × Int × Int)) : List Value := l.flatMap fun t => [.string t.1, .int .i64 t.2.1, .int .i64 t.2.2]
theorem tk_snoc (l : List (ByteArray × Int × Int)) (t : ByteArray × Int × Int) : tk (l ++ [t]) = tk l ++ [.string t.1, .int .i64 t.2.1, .int .i64 t.2.2] := by simp [tk]

/-- A tape at block p: wf: what it writes; rb: where its bytes lie. -/
def TapeAt (w : World) (p : Nat) (wf rb : List Nat) (bs : List Value) (at_ : Nat) (T : List (ByteArray × Int × Int)) : Prop :=
  ∃ bo bc tko tc, w.heap[p]? = some (.cells #[.slice bo bs.length bc, .int .i64 at_, .slice tko T.length tc] 96 (0, 0)) ∧ Sl w 1 bo bs.length bc bs ∧ at_ ≤ bs.length ∧
    Own w 161 3 tko T.length tc (tk T) ∧ wf = p :: blk tko ∧ rb = blk bo ∧ p ∉ blk tko ∧ ∀ g ∈ rb, g ∉ wf ∧ g < w.heap.size
theorem TapeAt.keep {fp : List Nat} {w w' : World} {p : Nat} {wf rb : List Nat} {bs : List Value} {at_ : Nat} {T : List (ByteArray × Int × Int)} (h : TapeAt w p wf rb bs at_ T) (k : Keep fp w w')
    (h1 : ∀ g ∈ wf, g ∉ fp) (h2 : ∀ g ∈ rb, g ∉ fp) : TapeAt w' p wf rb bs at_ T := by
  obtain ⟨bo, bc, tko, tc, ho, hs, ha, hw, rfl, rfl, hp, hd⟩ := h
  exact ⟨bo, bc, tko, tc, k.obj ho (h1 p (by simp)), hs.keep k h2, ha, hw.keep k fun g hg => h1 g (by simp [hg]), rfl, rfl, hp, fun g hg => ⟨(hd g hg).1, Nat.lt_of_lt_of_le (hd g hg).2 k.size⟩⟩

theorem TapeAt.old {w : World} {p : Nat} {wf rb : List Nat} {bs : List Value} {at_ : Nat} {T : List (ByteArray × Int × Int)} (h : TapeAt w p wf rb bs at_ T) : Old wf w ∧ Old rb w ∧ Dis rb wf := by
  obtain ⟨bo, bc, tko, tc, ho, hs, ha, hw, rfl, rfl, hp, hd⟩ := h
  refine ⟨fun g hg => ?_, fun g hg => (hd g hg).2, fun g hg => (hd g hg).1⟩
  rcases List.mem_cons.1 hg with h | h
  · subst h; exact lt_of_block ho
  · exact hw.lt g h
set_option maxRecDepth 100000 in
set_option maxHeartbeats 400000 in
theorem tapeNew (ao : Option Addr) (cap : Nat) (bs : List Value) (w : World) (h : Sl w 1 ao bs.length cap bs) (hn : bs.length ≤ 60000) (R : Ending → World → Prop)
    (hR : ∀ p wf rb w', TapeAt w' p wf rb bs 0 [] → Grow w w' → Fr (wf) w → Fr (rb) w → R (.returned (.pointer (some ⟨p, 0, none⟩))) w') :
    Calls Try.prog 15 #[.slice ao bs.length cap] w R := by
  go_enter Try.func15, Try.ntmps15
  go_wp2_with (go_at_call 55; refine cloneTp _ _ _ _ _ h hn _ ?_; intro ao' cap' w1 hown hg hf)
  have hlt := hown.lt
  refine hR w1.heap.size [w1.heap.size] (blk ao') _ ⟨ao', cap', none, 0, heap_alloc_new w1 _, (hown.grow (Grow.alloc w1 _)).sl, Nat.zero_le _, Own.none _ _ _, rfl, rfl, by simp [blk], ?_⟩ (hg.trans (Grow.alloc w1 _)) ?_ hf
  · intro g hg'; have := hlt g hg'; simp; omega
  · intro g hg'; simp at hg'; have := Below.size hg; omega

set_option maxRecDepth 100000 in
set_option maxHeartbeats 400000 in
theorem tapeLeft (p : Nat) (wf rb : List Nat) (bs : List Value) (at_ : Nat) (T : List (ByteArray × Int × Int)) (w : World) (h : TapeAt w p wf rb bs at_ T) (hn : bs.length ≤ 60000) (R : Ending → World → Prop)
    (hR : ∀ w', Grow w w' → R (.returned (.int .i64 ((bs.length - at_ : Nat) : Int))) w') :
    Calls Try.prog 20 #[.pointer (some ⟨p, 0, none⟩)] w R := by
  obtain ⟨bo, bc, tko, tc, ho, hs, ha, hw, rfl, rfl, hp, hd⟩ := h
  have g1 := KW.cell (fp := []) (p0 := tt) (cell_of_row w p 0 _ _ _ ho) (by simp)
  have g2 := KW.cell (fp := []) (p0 := tt) (cell_of_row w p 1 _ _ _ ho) (by simp)
  have e : ((bs.length - at_ : Nat) : Int) = (bs.length : Int) - at_ := by omega
  rw [e] at hR
  clear e hs hw
  go_enter Try.func20, Try.ntmps20
  go_wp2
  refine wp_region_R (segL w) (by kernel_rfl) segL_drew ?_
  unfold segL segK segR
  repeat (first | (refine wpV_skip rfl rfl ?_) | (refine wpV_look rfl rfl rfl rfl rfl (fun K hK => ?_); go_big_quiet_op; refine hK _ ?_; clear hK K))
  refine wpV_nil ?_
  rintro _ ⟨⟨w1, hw1⟩, rfl⟩ -
  go_wp2
  exact hw1.grow

set_option maxRecDepth 100000 in
set_option maxHeartbeats 400000 in
theorem tapeTake (p : Nat) (wf rb : List Nat) (bs : List Value) (at_ : Nat) (T : List (ByteArray × Int × Int)) (w : World) (h : TapeAt w p wf rb bs at_ T) (hn : bs.length ≤ 60000) (hT : T.length ≤ 60000)
    (what : ByteArray) (n : Nat) (hle : n + at_ ≤ bs.length) (R : Ending → World → Prop)
    (hR : ∀ ao' cap' wf' w', Own w' 5 1 ao' n cap' ((bs.drop at_).take n) → TapeAt w' p wf' rb bs (at_ + n) (T ++ [(what, (at_ : Int), (n : Int))]) → Keep wf w w' →
      Inn wf' wf w → Fr (blk ao') w → Dis (blk ao') wf' → R (.returned (.tuple #[.slice ao' n cap', .int .i64 0])) w') :
    Calls Try.prog 59 #[.pointer (some ⟨p, 0, none⟩), .string what, .int .i64 n] w R := by
  have hx : ¬ bs.length - at_ < n := by omega
  go_enter Try.func59, Try.ntmps59
  go_wp2_with fail
  refine tapeLeft p _ _ _ _ _ w h hn _ ?_
  intro w1 hg1
  have h1 := h.keep (Keep.of_grow [] hg1) (by simp) (by simp)
  clear h
  obtain ⟨bo, bc, tko, tc, ho, hs, ha, hw, rfl, rfl, hp, hd⟩ := h1
  have hlt := hw.lt
  let own : World → Prop := fun w => Own w 161 3 tko T.length tc (tk T)
  have g1 := KW.cell (fp := blk tko) (p0 := own) (cell_of_row w1 p 1 _ _ _ ho) hp
  have g2 := KW.cell (fp := blk tko) (p0 := own) (cell_of_row w1 p 2 _ _ _ ho) hp
  go_wp2
  let news : List Value := [.string what, .int .i64 at_, .int .i64 n]
  let V : Nat → Array Value → Value → World → Prop := fun i _ v w' =>
    (i = 12 → ∃ ao c, v = .slice ao 1 c ∧ Sl w' 3 ao 1 c news ∧ ∀ g ∈ blk ao, w1.heap.size ≤ g) ∧
    (i = 13 → ∃ ao c, v = .slice ao (T.length + 1) c ∧ Own w' 161 3 ao (T.length + 1) c (tk T ++ news) ∧ ∀ g ∈ blk ao, g ∈ blk tko ∨ w1.heap.size ≤ g)
  have : Nonempty (KW (blk tko) own w1) := ⟨⟨w1, Keep.refl _ _, hw⟩⟩
  refine wp_region_R (segR (blk tko) (fun i => if i = 13 then blk tko else []) own w1 [12, 13] V (fun i k hk => ?_) (fun i j vs v wa wb hij k ⟨v1, v2⟩ => ⟨fun hj => ?_, fun hj => ?_⟩)) (by kernel_rfl) (segR_drew (hw.grow (Grow.drew w1))) ?_
  · split at hk
    · exact hk
    · simp at hk
  · obtain ⟨ao, c, hv, hsl, hb⟩ := v1 hj
    refine ⟨ao, c, hv, hsl.keep k fun g hg hm => ?_, hb⟩
    split at hm
    · have := hlt g hm; have := hb g hg; omega
    · simp at hm
  · obtain ⟨ao, c, hv, hown, hb⟩ := v2 hj
    rw [if_neg (by omega)] at k
    exact ⟨ao, c, hv, hown.keep k (by simp), hb⟩
  unfold segR
  repeat (first | (refine wpV_skip rfl rfl ?_) | (refine wpV_look rfl rfl rfl rfl rfl (fun K hK => ?_); go_big_quiet_op; refine hK _ ?_; clear hK K))
  refine wpV_mk rfl rfl rfl [] rfl (fun vs w2 hC _ => ?_) (fun vs v w2 hC hV hF => ?_)
  · unfold yields
    go_simp
    obtain ⟨⟨w2, hk, hp2⟩, rfl⟩ := hC
    refine ⟨⟨Keep.alloc _ _ _, Own.grow hp2 (Grow.alloc _ _)⟩, fun _ => ⟨_, _, rfl, (Own.made (heap_alloc_new w2 _) rfl (by decide) (by simp [Value.oneCell'])).sl, ?_⟩, by simp⟩
    have := hk.size
    simpa [blk] using this
  obtain ⟨ao, c, rfl, -, -⟩ := hV.1 rfl
  clear hV hC hF w2
  simp only [List.set_cons_succ, List.set_cons_zero]
  refine wpV_mk rfl rfl rfl [12] (by kernel_rfl) (fun vs w2 hC hF => ?_) (fun vs v w2 hC hV hF => ?_)
  · obtain ⟨ao', c', e, hsl, hb⟩ := (hF 12 (by simp)).2 rfl |>.1 rfl
    cases e
    obtain ⟨⟨w2, hk, hp2⟩, rfl⟩ := hC
    obtain ⟨ao3, c3, w3, hr, h1, h2, h3, h4⟩ := run_app TT w2 28 hp2 hsl (by unfold maxLen; omega) (by omega)
    refine yields_run (run_exec_append hr) ⟨⟨h3, h2⟩, by simp, fun _ => ⟨ao3, c3, rfl, h1, fun g hg => (h4 g hg).imp id fun h => ?_⟩⟩
    have := hk.size
    exact Nat.le_trans this h
  obtain ⟨ao3, c3, rfl, -, -⟩ := hV.2 rfl
  clear hV hC hF w2
  simp only [List.set_cons_succ, List.set_cons_zero]
  repeat (first | (refine wpV_skip rfl rfl ?_) | (refine wpV_look rfl rfl rfl rfl rfl (fun K hK => ?_); go_big_quiet_op; refine hK _ ?_; clear hK K))
  refine wpV_end0 rfl rfl (by kernel_rfl) (fun w2 hC hF => ?_)
  obtain ⟨ao4, c4, e, hown4, hb4⟩ := (hF 13).2 rfl |>.2 rfl
  cases e
  obtain ⟨⟨w2, hk, -⟩, rfl⟩ := hC
  clear hF g1 g2
  have ho2 := hk.obj ho hp
  have c2 := obj_cell ho2 2 rfl
  have f2 := obj_free ho2 2
  unfold yields
  go_simp
  have hp3 : p ∉ blk ao3 := fun h => by
    rcases hb4 p h with h | h
    · exact hp h
    · have := lt_of_block ho; omega
  obtain ⟨w3, hw3⟩ : ∃ w3, w3 = w2.setCell ⟨p, 2, none⟩ (.slice ao3 (T.length + 1) c3) := ⟨_, rfl⟩
  have ho3 := obj_set ho2 2 (.slice ao3 (T.length + 1) c3)
  have hk3 := (hk.mono (fp' := p :: blk tko) (by simp +contextual)).trans (Keep.setCell (fp := p :: blk tko) w2 ⟨p, 2, none⟩ (by simp) (.slice ao3 (T.length + 1) c3))
  have hown3 := hown4.keep (Keep.setCell (fp := [p]) w2 ⟨p, 2, none⟩ (by simp) (.slice ao3 (T.length + 1) c3)) (fun g hg h => hp3 (by simp at h; rw [← h]; exact hg))
  rw [← hw3] at ho3 hk3 hown3 ⊢
  simp only [List.setIfInBounds_toArray, List.set_cons_succ, List.set_cons_zero] at ho3
  clear hw3 c2 f2 ho2 hk hown4 w2 ho hw
  have c1 := obj_cell ho3 1 rfl
  have f1 := obj_free ho3 1
  simp only [yUpon]
  go_wp2
  obtain ⟨w4, hw4⟩ : ∃ w4, w4 = w3.setCell ⟨p, 1, none⟩ (.int .i64 (at_ + n)) := ⟨_, rfl⟩
  have ho4 := obj_set ho3 1 (.int .i64 (at_ + n))
  have hk4 := hk3.trans (Keep.setCell (fp := p :: blk tko) w3 ⟨p, 1, none⟩ (by simp) (.int .i64 (at_ + n)))
  have hown4 := hown3.keep (Keep.setCell (fp := [p]) w3 ⟨p, 1, none⟩ (by simp) (.int .i64 (at_ + n))) (fun g hg h => hp3 (by simp at h; rw [← h]; exact hg))
  have hs4 := hs.keep hk4 fun g hg => (hd g hg).1
  rw [← hw4] at ho4 hk4 hown4 hs4 ⊢
  simp only [List.setIfInBounds_toArray, List.set_cons_succ, List.set_cons_zero] at ho4
  clear hw4 c1 f1 ho3 hk3 hown3 w3 hs
  have g0 := KW.cell (fp := []) (p0 := tt) (obj_cell ho4 0 rfl) (by simp)
  have g1 := KW.cell (fp := []) (p0 := tt) (obj_cell ho4 1 rfl) (by simp)
  obtain ⟨so, sc, hsl, hcut, hbl⟩ := run_cut TB hs4 (at_ : Int) ((at_ : Int) + n) at_ (at_ + n) rfl (by simp) (by omega) (by omega)
  simp only [Nat.add_sub_cancel_left, Nat.mul_one] at hsl hcut
  refine wp_region_R (segK [] w4 [15] (fun _ _ v w' => ∃ ao c, v = .slice ao n c ∧ Own w' 5 1 ao n c ((bs.drop at_).take n) ∧ ∀ g ∈ blk ao, w4.heap.size ≤ g) ?_) (by kernel_rfl) segK_drew ?_
  · rintro i vs v wa wb k ⟨ao, c, hv, ho, hb⟩
    exact ⟨ao, c, hv, ho.keep k (by simp), hb⟩
  unfold segK segR
  repeat (first | (refine wpV_skip rfl rfl ?_) | (refine wpV_look rfl rfl rfl rfl rfl (fun K hK => ?_); go_big_quiet_op; refine hK _ ?_; clear hK K))
  refine wpV_mk rfl rfl rfl [] rfl (fun vs w5 hC _ => yields_call (by kernel_rfl) ?_) (fun vs v w5 hC hV _ => ?_)
  · obtain ⟨⟨w5, hk, -⟩, rfl⟩ := hC
    refine cloneTp so n sc _ w5 (hcut.keep hk (by simp)) (by omega) _ ?_
    intro ao' c' w6 h1 h2 h3
    have := hk.size
    exact ⟨_, rfl, ⟨Keep.of_grow [] h2, trivial⟩, ao', c', rfl, h1, fun g hg => Nat.le_trans this (h3 g hg)⟩
  obtain ⟨ao5, c5, rfl, -, -⟩ := hV
  clear hC w5
  simp only [List.set_cons_succ, List.set_cons_zero]
  repeat (first | (refine wpV_skip rfl rfl ?_) | (refine wpV_look rfl rfl rfl rfl rfl (fun K hK => ?_); go_big_quiet_op; refine hK _ ?_; clear hK K))
  refine wpV_nil ?_
  intro w6 hC hF
  obtain ⟨⟨w6, hk6, -⟩, rfl⟩ := hC
  obtain ⟨ao6, c6, e, hown6, hb6⟩ := (hF 15).2 rfl
  cases e
  clear hF g0 g1
  go_wp2
  have hlt4 := hown4.lt
  have hown6' := hown4.keep hk6 (by simp)
  refine hR ao5 c5 (p :: blk ao3) w6 hown6 ⟨bo, bc, ao3, c3, hk6.obj ?_ (by simp), hs4.keep hk6 (by simp), by omega, ?_, rfl, rfl, hp3, ?_⟩ ((Keep.of_grow _ hg1).trans (hk4.trans (Keep.of_nil hk6))) ?_ ?_ ?_
  · simpa using ho4
  · have := hown6'
    rw [tk_snoc]
    simpa [news] using this
  · intro g hg
    have h1 := hd g hg
    have h2 := hk4.size
    have h3 := hk6.size
    refine ⟨fun hm => ?_, by omega⟩
    rcases List.mem_cons.1 hm with h | h
    · exact h1.1 (by simp [h])
    · rcases hb4 g h with h | h
      · exact h1.1 (by simp [h])
      · omega
  · intro g hg
    have h2 := hg1.size
    rcases List.mem_cons.1 hg with h | h
    · exact .inl (by simp [h])
    · rcases hb4 g h with h | h
      · exact .inl (by simp [h])
      · exact .inr (by omega)
  · intro g hg
    have h1 := hb6 g hg
    have h2 := hk4.size
    have h3 := hg1.size
    omega
  · intro g hg hm
    have h1 := hb6 g hg
    rcases List.mem_cons.1 hm with h | h
    · have := lt_of_block ho4; omega
    · have := hlt4 g h; omega

set_option maxRecDepth 100000 in
set_option maxHeartbeats 400000 in
theorem tapeTakeNeg (a : Option Addr) (w : World) (what : ByteArray) (n : Int) (hn : n < 0) (R : Ending → World → Prop) (hR : R (.returned (.tuple #[.slice none 0 0, .int .i64 1])) w) :
    Calls Try.prog 59 #[.pointer a, .string what, .int .i64 n] w R := by
  go_enter Try.func59, Try.ntmps59
  go_wp2
  exact hR

set_option maxRecDepth 100000 in
set_option maxHeartbeats 400000 in
theorem tapeTakeOver (p : Nat) (wf rb : List Nat) (bs : List Value) (at_ : Nat) (T : List (ByteArray × Int × Int)) (w : World) (h : TapeAt w p wf rb bs at_ T) (hn : bs.length ≤ 60000)
    (what : ByteArray) (n : Int) (h0 : 0 ≤ n) (hle : (bs.length : Int) < n + at_) (R : Ending → World → Prop)
    (hR : ∀ w', Grow w w' → R (.returned (.tuple #[.slice none 0 0, .int .i64 9])) w') :
    Calls Try.prog 59 #[.pointer (some ⟨p, 0, none⟩), .string what, .int .i64 n] w R := by
  have ha : at_ ≤ bs.length := by obtain ⟨_, _, _, _, _, _, ha, _⟩ := h; exact ha
  have hx : ((bs.length - at_ : Nat) : Int) < n := by omega
  go_enter Try.func59, Try.ntmps59
  go_wp2_with fail
  refine tapeLeft p _ _ _ _ _ w h hn _ ?_
  intro w1 hg1
  go_wp2
  exact hg1

end Go.Proofs.Ytfmnkcmicbnfdaa
