/- TapeActs: the walk. -/
import Derived.Test.YtoelddjmjhnbaaaTapeS
import Derived.Test.YtoelddjmjhnbaaaForks
namespace Go.Proofs.Ytoelddjmjhnbaaa
open Go Go.RowKit

/-- The cells of acts. -/
def ak (l : List (Int × ByteArray × Int)) : List Value := l.flatMap fun t => [.int .i64 t.1, .string t.2.1, .int .i64 t.2.2]
theorem RefAt.lt {w : World} {q : Nat} {rb : List Nat} {bs : List Value} {at_ : Nat} {T : Takes} (h : RefAt w q rb bs at_ T) : ∀ g ∈ rb, g < w.heap.size := by
  obtain ⟨_, _, _, _, _, _, _, _, h1, h2, rfl⟩ := h
  intro g hg
  rcases List.mem_append.1 hg with h | h
  · exact (h1 g h).2
  · exact (h2 g h).2
theorem ak_length (T : List (Int × ByteArray × Int)) : (ak T).length = T.length * 3 := by
  induction T with
  | nil => rfl
  | cons t T ih => simp only [ak, List.flatMap_cons, List.length_append, List.length_cons, List.length_nil] at ih ⊢; omega
theorem ak_at (T : List (Int × ByteArray × Int)) : ∀ i (h : i < T.length), (ak T)[i * 3]? = some (.int .i64 T[i].1) ∧ (ak T)[i * 3 + 1]? = some (.string T[i].2.1) ∧ (ak T)[i * 3 + 2]? = some (.int .i64 T[i].2.2) := by
  induction T with
  | nil => intro i h; simp at h
  | cons t T ih =>
    intro i h
    have e : ak (t :: T) = [.int .i64 t.1, .string t.2.1, .int .i64 t.2.2] ++ ak T := by simp [ak]
    rw [e]
    cases i with
    | zero => simp
    | succ i =>
      have := ih i (by simpa using h)
      simp only [List.getElem_cons_succ]
      rw [List.getElem?_append_right (by simp; omega), List.getElem?_append_right (by simp; omega), List.getElem?_append_right (by simp; omega)]
      simp only [List.length_cons, List.length_nil]
      rw [show (i + 1) * 3 - 3 = i * 3 by omega, show (i + 1) * 3 + 1 - 3 = i * 3 + 1 by omega, show (i + 1) * 3 + 2 - 3 = i * 3 + 2 by omega]
      exact this

set_option maxRecDepth 100000 in
set_option maxHeartbeats 2000000 in
theorem acts (ao : Option Addr) (cap : Nat) (b : List UInt8) (lo : Option Addr) (lc : Nat) (l : List (Int × ByteArray × Int)) (w : World) (h : Sl w 1 ao b.length cap (b.map B)) (hl : Sl w 3 lo l.length lc (ak l))
    (R : Ending → World → Prop) (hR : ∀ w', Grow w w' → R (.returned (.bool true)) w') :
    Calls Try.prog 3 #[.slice ao b.length cap, .slice lo l.length lc] w R := by
  by_cases hb : 500 < b.length
  · go_enter Try.func3, Try.ntmps3
    go_wp2_with fail
    refine awake9 w _ ?_
    intro w1 g1
    go_wp2
    exact g1
  by_cases hl50 : 50 < l.length
  · go_enter Try.func3, Try.ntmps3
    go_wp2_with fail
    refine awake9 w _ ?_
    intro w1 g1
    go_wp2
    exact g1
  have hlen : (b.map B).length = b.length := by simp
  have h0 := h
  rw [← hlen] at h0
  clear hlen
  go_enter Try.func3, Try.ntmps3
  go_wp2_with fail
  rw [show b.length = (b.map B).length by simp]
  refine tapeNew ao cap (b.map B) w h0 (by simp; omega) _ ?_
  rw [show (b.map B).length = b.length by simp]
  intro p wf rb w1 t1 g1 f1 r1
  go_wp2_with fail
  have hq : ∃ q w2, q = w1.heap.size ∧ w2 = w1.alloc (.cells #[.slice ao b.length cap, .int .i64 0, .slice none 0 0] 30 (0, 0)) := ⟨_, _, rfl, rfl⟩
  obtain ⟨q, w2, eq, ew⟩ := hq
  rw [← ew, ← eq]
  have hg2 : Grow w1 w2 := by rw [ew]; exact Grow.alloc _ _
  have z2 : q < w2.heap.size := by rw [ew, eq]; simp
  have hh : w2.heap[q]? = some (.cells #[.slice ao b.length cap, .int .i64 0, .slice none 0 0] 30 (0, 0)) := by rw [ew, eq]; exact heap_alloc_new w1 _
  have zw : w.heap.size ≤ q := by rw [eq]; exact g1.size
  have hs2 := h.grow (g1.trans hg2)
  have t2 := t1.keep (Keep.of_grow [] hg2) (by simp) (by simp)
  have told := t1.old
  have qwf : q ∉ wf := fun hm => by have := told.1 q hm; omega
  have qrb : q ∉ rb := fun hm => by have := told.2.1 q hm; omega
  have rblt := (show ∀ g ∈ rblk (b.map B) ao, g < w.heap.size from h.rblk_lt)
  have ref2 : RefAt w2 q (rblk (b.map B) ao ++ []) (b.map B) 0 [] := ⟨ao, cap, none, 0, by simpa using hh, by simpa using hs2, Nat.zero_le _, Sl.none _ _, fun g hg => ⟨fun e => by have := rblt g hg; omega, by have := rblt g hg; omega⟩, by simp [blk], by simp [blk]⟩
  have dis2 : Dis (rblk (b.map B) ao ++ []) wf := fun g hg hm => by
    have := rblt g (by simpa using hg); have := f1 g hm; omega
  have g02 := g1.trans hg2
  have rbf : Fr rb w := r1
  clear told hg2 ew hh hs2 t1 h0 h rblt g1 eq
  go_loopw [5, 7] (fun t i wr => ∃ (k p : Nat) (wf rb' : List Nat) (at_ : Nat) (T : Takes), k ≤ l.length ∧ t = .pointer (some ⟨p, 0, none⟩) ∧ i = .int .i64 k ∧ TapeAt wr p wf rb (b.map B) at_ T ∧ RefAt wr q rb' (b.map B) at_ T ∧ T.length ≤ k ∧ Grow w wr ∧ Fr wf w ∧ q ∉ wf ∧ Dis rb' wf ∧ q < wr.heap.size) (fun _ i _ => l.length - (intOf i).toNat)
  case atStart => exact ⟨0, p, wf, _, 0, [], Nat.zero_le _, rfl, rfl, t2, ref2, Nat.le_refl _, g02, f1, qwf, dis2, z2⟩
  case round =>
    clear t2 ref2 dis2 qwf z2 g02 f1
    obtain ⟨k, p, wf, rb', at_, T, hk, rfl, rfl, t3, r3, hT, g3, f3, q3, d3, z3⟩ := hrel
    have r3lt : ∀ g ∈ rb', g < wr.heap.size := r3.lt
    by_cases hlt : k < l.length
    · have hgl : ∀ g ∈ rblk (ak l) lo, g < w.heap.size := hl.rblk_lt
      have hne : ak l ≠ [] := fun e => by have := ak_length l; rw [e] at this; simp at this; omega
      simp only [rblk, hne, if_false] at hgl
      obtain ⟨g, off, rfl, hc⟩ := (hl.grow g3).hat (by omega)
      have hgl : g < w.heap.size := hgl g (by simp [blk])
      have gs3 := g3.size
      obtain ⟨e0, e1, e2⟩ := ak_at l k hlt
      obtain ⟨⟨kind, for_, n⟩, he⟩ : ∃ t, t = l[k] := ⟨_, rfl⟩
      rw [← he] at e0 e1 e2
      have c0 := hc.at e0
      have c1 := hc.at e1
      have c2 := hc.at e2
      simp only at c0 c1 c2
      clear e0 e1 e2 hc
      rw [← Nat.add_assoc] at c1 c2
      by_cases h100 : 100 < for_.size
      · go_wp2_with fail
        refine awake9 wr _ ?_
        intro w8 g8
        go_wp2_with fail
        exact g3.trans g8
      by_cases hk1 : kind = 1
      · subst hk1
        have m1 := KW.cell (fp := []) (p0 := tt) c1 (by simp)
        have m2 := KW.cell (fp := []) (p0 := tt) c2 (by simp)
        go_wp2_with fail
        refine wp_region_R (segL wr) (by kernel_rfl) segL_drew ?_
        unfold segL segK segR
        repeat (first | (refine wpV_skip rfl rfl ?_) | (refine wpV_look rfl rfl rfl rfl rfl (fun K hK => ?_); go_big_quiet_op; refine hK _ ?_; clear hK K))
        refine wpV_tn rfl rfl (by kernel_rfl) (fun w4 hC hF => ?_)
        obtain ⟨⟨w4, hk4, -⟩, rfl⟩ := hC
        refine yields_call (by kernel_rfl) ?_
        refine tapeTakeA p wf rb b at_ T w4 (t3.keep hk4 (by simp) (by simp)) (by omega) (by omega) _ _ _ ?_
        intro x xc wf5 w5 s5 t5 k5 i5 fx dx
        refine ⟨_, rfl, segL w5, segL_at, ?_⟩
        simp only [List.set_cons_succ, List.set_cons_zero]
        unfold segL segK segR
        repeat (first | (refine wpV_skip rfl rfl ?_) | (refine wpV_look rfl rfl rfl rfl rfl (fun K hK => ?_); go_big_quiet_op; refine hK _ ?_; clear hK K))
        refine wpV_nil ?_
        intro w5' hC _
        obtain ⟨⟨w5', hk5, -⟩, rfl⟩ := hC
        have t5' := t5.keep hk5 (by simp) (by simp)
        have s5' := s5.keep hk5 (by simp)
        have hk45 := (hk4.of_nil (fp := wf)).trans (k5.trans hk5.of_nil)
        have r5' := r3.keep hk45 q3 d3
        have hgw : g ∉ wf := fun hm => by have := f3 g hm; omega
        have c1' := KW.cell (fp := []) (p0 := tt) (hk45.cell c1 hgw) (by simp)
        have c2' := KW.cell (fp := []) (p0 := tt) (hk45.cell c2 hgw) (by simp)
        go_wp2_with fail
        refine wp_region_R (segL w5') (by kernel_rfl) segL_drew ?_
        unfold segL segK segR
        repeat (first | (refine wpV_skip rfl rfl ?_) | (refine wpV_look rfl rfl rfl rfl rfl (fun K hK => ?_); go_big_quiet_op; refine hK _ ?_; clear hK K))
        refine wpV_tn rfl rfl (by kernel_rfl) (fun w7 hC hF => ?_)
        obtain ⟨⟨w7, hk7, -⟩, rfl⟩ := hC
        refine yields_call (by kernel_rfl) ?_
        refine refTakeA q rb' b at_ T w7 (r5'.keep hk7 (by simp) (by simp)) (by omega) (by omega) _ _ _ ?_
        intro y yc rb8 w8 s8 r8 k8 i8 fy
        refine ⟨_, rfl, segL w8, segL_at, ?_⟩
        simp only [List.set_cons_succ, List.set_cons_zero]
        unfold segL segK segR
        repeat (first | (refine wpV_skip rfl rfl ?_) | (refine wpV_look rfl rfl rfl rfl rfl (fun K hK => ?_); go_big_quiet_op; refine hK _ ?_; clear hK K))
        refine wpV_nil ?_
        intro w6 hC _
        obtain ⟨⟨w6, hk6, -⟩, rfl⟩ := hC
        have r6 := r8.keep hk6 (by simp) (by simp)
        have hk56 := (hk7.of_nil (fp := [q])).trans (k8.trans hk6.of_nil)
        have z4 := hk4.size
        have z5 := k5.size
        have z5' := hk5.size
        have z7 := hk7.size
        have z8 := k8.size
        have o5 := t5'.old
        have qx : ∀ g ∈ blk x, g ∉ [q] := fun g hg hm => by have := fx g hg; simp at hm; omega
        have q6 : q ∉ wf5 := fun hm => by
          rcases i5 q hm with h | h
          · exact q3 h
          · omega
        have q6' : ∀ g ∈ wf5, g ∉ [q] := fun g hg hm => by simp at hm; subst hm; exact q6 hg
        have t6 := t5'.keep hk56 q6' (fun g hg hm => by simp at hm; subst hm; exact qrb hg)
        have s6 := s5'.keep hk56 qx
        have u6 := s8.keep hk6 (by simp)
        have d6 : Dis rb8 wf5 := fun g hg hm => by
          rcases i8 g hg with h | h
          · rcases i5 g hm with h' | h'
            · exact d3 g h h'
            · have := r3lt g h; omega
          · have := o5.1 g hm; omega
        have f6 : Fr wf5 w := Fr.of_inn i5 (f3.mono (by omega)) (by have := g3.size; omega)
        have g6 : Grow w w6 := (g3.then hk45 f3).then hk56 (fun g hg => by simp at hg; omega)
        have zq6 : q < w6.heap.size := by have := hk45.size; have := hk56.size; omega
        clear t3 r3 t5 t5' s5 s5' r5' r8 s8 m1 m2 c0 c1 c2 c1' c2' k5 k8 hk45 hk56 hk4 hk5 hk6 hk7 i5 i8 o5
        have hle6 := tstep_T b at_ T for_ n
        obtain ⟨ts, hts⟩ : ∃ ts, ts = tstep b at_ T for_ n := ⟨_, rfl⟩
        rw [← hts] at t6 r6 s6 u6 hle6 ⊢
        clear hts
        obtain ⟨out6, err6, at6, T6⟩ := ts
        simp only at t6 r6 s6 u6 hle6 ⊢
        have e1 : (convert 22 9 (.slice x out6.length xc)).run Try.prog w6 = .ok (.string (str out6)) w6 := run_str Try.underlying22 Try.underlying5 Try.underlying9 s6
        have e2 : (convert 22 9 (.slice y out6.length yc)).run Try.prog w6 = .ok (.string (str out6)) w6 := run_str Try.underlying22 Try.underlying5 Try.underlying9 u6
        go_wp2_with fail
        have hat6 := t6.le
        simp only [List.length_map] at hat6
        obtain ⟨ro, rc, lo6, lc6, rh6, -, -, rl6, -, rg6, rrb8⟩ := id r6
        have rc1 := KW.cell (fp := []) (p0 := tt) (obj_cell rh6 1 rfl) (by simp)
        have rc2 := KW.cell (fp := []) (p0 := tt) (obj_cell rh6 2 rfl) (by simp)
        let V : Nat → Array Value → Value → World → Prop := fun i _ v w =>
          match i with
          | 1 => isV (.int .i64 ((b.length : Int) - at6)) v w
          | 12 => isOwn 46 3 T6.length (tk T6) v w
          | _ => isV (.bool true) v w
        refine wp_region_R (segK [] w6 [1, 12, 17] V ?_) (by kernel_rfl) segK_drew ?_
        · intro i vs v wa wb kk
          show V i vs v wa → V i vs v wb
          simp only [V]
          split <;> first | exact isV.st kk | exact isOwn.st kk
        unfold segK segR
        repeat (first | (refine wpV_skip rfl rfl ?_) | (refine wpV_look rfl rfl rfl rfl rfl (fun K hK => ?_); go_big_quiet_op; refine hK _ ?_; clear hK K))
        refine wpV_mk rfl rfl rfl [] rfl (fun vs w7 hC _ => yields_call (by kernel_rfl) ?_) (fun vs v w7 hC hV _ => ?_)
        · obtain ⟨⟨w7, hk, -⟩, rfl⟩ := hC
          refine tapeLeft p _ _ _ _ _ w7 (t6.keep hk (by simp) (by simp)) (by simp; omega) _ ?_
          intro w8 g8
          rw [show (((b.map B).length - at6 : Nat) : Int) = (b.length : Int) - at6 by simp; omega]
          exact ⟨_, rfl, ⟨Keep.of_grow [] g8, trivial⟩, rfl⟩
        obtain rfl : v = _ := hV
        clear hC
        simp only [List.set_cons_succ, List.set_cons_zero]
        repeat (first | (refine wpV_skip rfl rfl ?_) | (refine wpV_look rfl rfl rfl rfl rfl (fun K hK => ?_); go_big_quiet_op; refine hK _ ?_; clear hK K))
        refine wpV_mk rfl rfl rfl [] rfl (fun vs w7 hC _ => yields_call (by kernel_rfl) ?_) (fun vs v w7 hC hV _ => ?_)
        · obtain ⟨⟨w7, hk, -⟩, rfl⟩ := hC
          refine tapeTakes p _ _ _ _ _ w7 (t6.keep hk (by simp) (by simp)) (by omega) _ ?_
          intro b8 d8 w8 o8 g8 f8
          exact ⟨_, rfl, ⟨Keep.of_grow [] g8, trivial⟩, b8, d8, rfl, o8⟩
        obtain ⟨b8, d8, rfl, -⟩ : isOwn _ 3 T6.length _ v w7 := hV
        clear hC
        simp only [List.set_cons_succ, List.set_cons_zero]
        repeat (first | (refine wpV_skip rfl rfl ?_) | (refine wpV_look rfl rfl rfl rfl rfl (fun K hK => ?_); go_big_quiet_op; refine hK _ ?_; clear hK K))
        refine wpV_mk rfl rfl rfl [12] (by kernel_rfl) (fun vs w7 hC hF => yields_call (by kernel_rfl) ?_) (fun vs v w7 hC hV _ => ?_)
        · obtain ⟨⟨w7, hk, -⟩, rfl⟩ := hC
          obtain ⟨b1, d1, e1, o1⟩ : isOwn 46 3 T6.length (tk T6) _ w7 := (hF 12 (by simp)).2 rfl
          cases e1
          refine takesEq _ _ _ _ T6 w7 o1.sl (rl6.keep hk (by simp)) (by omega) _ ?_
          intro w8 g8
          exact ⟨_, rfl, ⟨Keep.of_grow [] g8, trivial⟩, rfl⟩
        obtain rfl : v = _ := hV
        clear hC
        simp only [List.set_cons_succ, List.set_cons_zero]
        repeat (first | (refine wpV_skip rfl rfl ?_) | (refine wpV_look rfl rfl rfl rfl rfl (fun K hK => ?_); go_big_quiet_op; refine hK _ ?_; clear hK K))
        refine wpV_nil ?_
        intro w7 hC _
        obtain ⟨⟨w7, hk7, -⟩, rfl⟩ := hC
        clear rc1 rc2
        go_wp2_with fail
        go_roundw
        case rel =>
          have z7 := hk7.size
          exact ⟨k + 1, p, wf5, rb8, at6, T6, by omega, rfl, by go_num, t6.keep hk7 (by simp) (by simp), r6.keep hk7 (by simp) (by simp), by omega, g6.trans hk7.grow, f6, q6, d6, by omega⟩
        case measure => simp [intOf]; omega
      by_cases hk2 : kind = 2
      · subst hk2
        have hle := t3.le
        simp only [List.length_map] at hle
        go_wp2_with fail
        refine tapeFork p wf rb _ _ _ wr t3 (by omega) _ ?_
        intro p5 wf5 w5 u5 g5 f5
        have t5 := t3.keep (Keep.of_grow [] g5) (by simp) (by simp)
        have r5 := r3.keep (Keep.of_grow [] g5) (by simp) (by simp)
        have o5 := u5.old
        go_wp2_with fail
        refine tapeLeft p wf rb _ _ _ w5 t5 (by simp; omega) _ ?_
        intro w7 g7
        have t7 := t5.keep (Keep.of_grow [] g7) (by simp) (by simp)
        have u7 := u5.keep (Keep.of_grow [] g7) (by simp) (by simp)
        have r7 := r5.keep (Keep.of_grow [] g7) (by simp) (by simp)
        have z5 := g5.size
        have z7 := g7.size
        have o3 := t3.old
        go_wp2_with fail
        refine tapeTakeA p wf rb b at_ T w7 t7 (by omega) (by omega) _ _ _ ?_
        intro x xc wf8 w6 s8 t8 k8 i8 fx dx
        have dwf : ∀ g ∈ wf5, g ∉ wf := fun g hg hm => by have := f5 g hg; have := o3.1 g hm; omega
        have t6 := u7.keep k8 dwf o3.2.2
        have r6 := r7.keep k8 q3 d3
        have z8 := k8.size
        have q6 : q ∉ wf5 := fun hm => by have := f5 q hm; omega
        have d6 : Dis rb' wf5 := fun g hg hm => by have := f5 g hm; have := r3lt g hg; omega
        have f6 : Fr wf5 w := fun g hg => by have := f5 g hg; omega
        have g6 : Grow w w6 := ((g3.trans g5).trans g7).then k8 f3
        clear t3 r3 t5 r5 u5 t7 u7 r7 s8 t8 c0 c1 c2 k8 i8 dx o3 o5 fx
        go_wp2_with fail
        have hat6 := t6.le
        simp only [List.length_map] at hat6
        obtain ⟨ro, rc, lo6, lc6, rh6, -, -, rl6, -, rg6, rrb'⟩ := id r6
        have rc1 := KW.cell (fp := []) (p0 := tt) (obj_cell rh6 1 rfl) (by simp)
        have rc2 := KW.cell (fp := []) (p0 := tt) (obj_cell rh6 2 rfl) (by simp)
        let V : Nat → Array Value → Value → World → Prop := fun i _ v w =>
          match i with
          | 1 => isV (.int .i64 ((b.length : Int) - at_)) v w
          | 12 => isOwn 46 3 T.length (tk T) v w
          | _ => isV (.bool true) v w
        refine wp_region_R (segK [] w6 [1, 12, 17] V ?_) (by kernel_rfl) segK_drew ?_
        · intro i vs v wa wb kk
          show V i vs v wa → V i vs v wb
          simp only [V]
          split <;> first | exact isV.st kk | exact isOwn.st kk
        unfold segK segR
        repeat (first | (refine wpV_skip rfl rfl ?_) | (refine wpV_look rfl rfl rfl rfl rfl (fun K hK => ?_); go_big_quiet_op; refine hK _ ?_; clear hK K))
        refine wpV_mk rfl rfl rfl [] rfl (fun vs w7 hC _ => yields_call (by kernel_rfl) ?_) (fun vs v w7 hC hV _ => ?_)
        · obtain ⟨⟨w7, hk, -⟩, rfl⟩ := hC
          refine tapeLeft p5 _ _ _ _ _ w7 (t6.keep hk (by simp) (by simp)) (by simp; omega) _ ?_
          intro w8 g8
          rw [show (((b.map B).length - at_ : Nat) : Int) = (b.length : Int) - at_ by simp; omega]
          exact ⟨_, rfl, ⟨Keep.of_grow [] g8, trivial⟩, rfl⟩
        obtain rfl : v = _ := hV
        clear hC
        simp only [List.set_cons_succ, List.set_cons_zero]
        repeat (first | (refine wpV_skip rfl rfl ?_) | (refine wpV_look rfl rfl rfl rfl rfl (fun K hK => ?_); go_big_quiet_op; refine hK _ ?_; clear hK K))
        refine wpV_mk rfl rfl rfl [] rfl (fun vs w7 hC _ => yields_call (by kernel_rfl) ?_) (fun vs v w7 hC hV _ => ?_)
        · obtain ⟨⟨w7, hk, -⟩, rfl⟩ := hC
          refine tapeTakes p5 _ _ _ _ _ w7 (t6.keep hk (by simp) (by simp)) (by omega) _ ?_
          intro b8 d8 w8 o8 g8 f8
          exact ⟨_, rfl, ⟨Keep.of_grow [] g8, trivial⟩, b8, d8, rfl, o8⟩
        obtain ⟨b8, d8, rfl, -⟩ : isOwn _ 3 T.length _ v w7 := hV
        clear hC
        simp only [List.set_cons_succ, List.set_cons_zero]
        repeat (first | (refine wpV_skip rfl rfl ?_) | (refine wpV_look rfl rfl rfl rfl rfl (fun K hK => ?_); go_big_quiet_op; refine hK _ ?_; clear hK K))
        refine wpV_mk rfl rfl rfl [12] (by kernel_rfl) (fun vs w7 hC hF => yields_call (by kernel_rfl) ?_) (fun vs v w7 hC hV _ => ?_)
        · obtain ⟨⟨w7, hk, -⟩, rfl⟩ := hC
          obtain ⟨b1, d1, e1, o1⟩ : isOwn 46 3 T.length (tk T) _ w7 := (hF 12 (by simp)).2 rfl
          cases e1
          refine takesEq _ _ _ _ T w7 o1.sl (rl6.keep hk (by simp)) (by omega) _ ?_
          intro w8 g8
          exact ⟨_, rfl, ⟨Keep.of_grow [] g8, trivial⟩, rfl⟩
        obtain rfl : v = _ := hV
        clear hC
        simp only [List.set_cons_succ, List.set_cons_zero]
        repeat (first | (refine wpV_skip rfl rfl ?_) | (refine wpV_look rfl rfl rfl rfl rfl (fun K hK => ?_); go_big_quiet_op; refine hK _ ?_; clear hK K))
        refine wpV_nil ?_
        intro w7 hC _
        obtain ⟨⟨w7, hk7, -⟩, rfl⟩ := hC
        clear rc1 rc2
        go_wp2_with fail
        go_roundw
        case rel =>
          have z7 := hk7.size
          exact ⟨k + 1, p5, wf5, rb', at_, T, by omega, rfl, by go_num, t6.keep hk7 (by simp) (by simp), r6.keep hk7 (by simp) (by simp), by omega, g6.trans hk7.grow, f6, q6, d6, by omega⟩
        case measure => simp [intOf]; omega
      · go_wp2_with fail
        have hat6 := t3.le
        simp only [List.length_map] at hat6
        obtain ⟨ro, rc, lo6, lc6, rh6, -, -, rl6, -, rg3, rrb'⟩ := id r3
        have rc1 := KW.cell (fp := []) (p0 := tt) (obj_cell rh6 1 rfl) (by simp)
        have rc2 := KW.cell (fp := []) (p0 := tt) (obj_cell rh6 2 rfl) (by simp)
        let V : Nat → Array Value → Value → World → Prop := fun i _ v w =>
          match i with
          | 1 => isV (.int .i64 ((b.length : Int) - at_)) v w
          | 12 => isOwn 46 3 T.length (tk T) v w
          | _ => isV (.bool true) v w
        refine wp_region_R (segK [] wr [1, 12, 17] V ?_) (by kernel_rfl) segK_drew ?_
        · intro i vs v wa wb kk
          show V i vs v wa → V i vs v wb
          simp only [V]
          split <;> first | exact isV.st kk | exact isOwn.st kk
        unfold segK segR
        repeat (first | (refine wpV_skip rfl rfl ?_) | (refine wpV_look rfl rfl rfl rfl rfl (fun K hK => ?_); go_big_quiet_op; refine hK _ ?_; clear hK K))
        refine wpV_mk rfl rfl rfl [] rfl (fun vs w7 hC _ => yields_call (by kernel_rfl) ?_) (fun vs v w7 hC hV _ => ?_)
        · obtain ⟨⟨w7, hk, -⟩, rfl⟩ := hC
          refine tapeLeft p _ _ _ _ _ w7 (t3.keep hk (by simp) (by simp)) (by simp; omega) _ ?_
          intro w8 g8
          rw [show (((b.map B).length - at_ : Nat) : Int) = (b.length : Int) - at_ by simp; omega]
          exact ⟨_, rfl, ⟨Keep.of_grow [] g8, trivial⟩, rfl⟩
        obtain rfl : v = _ := hV
        clear hC
        simp only [List.set_cons_succ, List.set_cons_zero]
        repeat (first | (refine wpV_skip rfl rfl ?_) | (refine wpV_look rfl rfl rfl rfl rfl (fun K hK => ?_); go_big_quiet_op; refine hK _ ?_; clear hK K))
        refine wpV_mk rfl rfl rfl [] rfl (fun vs w7 hC _ => yields_call (by kernel_rfl) ?_) (fun vs v w7 hC hV _ => ?_)
        · obtain ⟨⟨w7, hk, -⟩, rfl⟩ := hC
          refine tapeTakes p _ _ _ _ _ w7 (t3.keep hk (by simp) (by simp)) (by omega) _ ?_
          intro b8 d8 w8 o8 g8 f8
          exact ⟨_, rfl, ⟨Keep.of_grow [] g8, trivial⟩, b8, d8, rfl, o8⟩
        obtain ⟨b8, d8, rfl, -⟩ : isOwn _ 3 T.length _ v w7 := hV
        clear hC
        simp only [List.set_cons_succ, List.set_cons_zero]
        repeat (first | (refine wpV_skip rfl rfl ?_) | (refine wpV_look rfl rfl rfl rfl rfl (fun K hK => ?_); go_big_quiet_op; refine hK _ ?_; clear hK K))
        refine wpV_mk rfl rfl rfl [12] (by kernel_rfl) (fun vs w7 hC hF => yields_call (by kernel_rfl) ?_) (fun vs v w7 hC hV _ => ?_)
        · obtain ⟨⟨w7, hk, -⟩, rfl⟩ := hC
          obtain ⟨b1, d1, e1, o1⟩ : isOwn 46 3 T.length (tk T) _ w7 := (hF 12 (by simp)).2 rfl
          cases e1
          refine takesEq _ _ _ _ T w7 o1.sl (rl6.keep hk (by simp)) (by omega) _ ?_
          intro w8 g8
          exact ⟨_, rfl, ⟨Keep.of_grow [] g8, trivial⟩, rfl⟩
        obtain rfl : v = _ := hV
        clear hC
        simp only [List.set_cons_succ, List.set_cons_zero]
        repeat (first | (refine wpV_skip rfl rfl ?_) | (refine wpV_look rfl rfl rfl rfl rfl (fun K hK => ?_); go_big_quiet_op; refine hK _ ?_; clear hK K))
        refine wpV_nil ?_
        intro w7 hC _
        obtain ⟨⟨w7, hk7, -⟩, rfl⟩ := hC
        clear rc1 rc2
        go_wp2_with fail
        go_roundw
        case rel =>
          have z7 := hk7.size
          exact ⟨k + 1, p, wf, rb', at_, T, by omega, rfl, by go_num, t3.keep hk7 (by simp) (by simp), r3.keep hk7 (by simp) (by simp), by omega, g3.trans hk7.grow, f3, q3, d3, by omega⟩
        case measure => simp [intOf]; omega
    · go_wp2_with fail
      refine awake9 wr _ ?_
      intro w8 g8
      go_wp2_with fail
      exact g3.trans g8
end Go.Proofs.Ytoelddjmjhnbaaa
