/- TapeForks. -/
import Derived.Test.YtoelddjmjhnbaaaTapeA
import Derived.Test.YtoelddjmjhnbaaaRound
namespace Go.Proofs.Ytoelddjmjhnbaaa
open Go Go.RowKit

/-- What an operation of a region leaves. -/
def isV (x : Value) : Value → World → Prop := fun v _ => v = x
def isOwn (e : TypeId) (sz n : Nat) (xs : List Value) : Value → World → Prop := fun v w => ∃ ao c, v = .slice ao n c ∧ Own w e sz ao n c xs
theorem isOwn.st {e : TypeId} {sz n : Nat} {xs : List Value} {v : Value} {w w' : World} (k : Keep [] w w') (h : isOwn e sz n xs v w) : isOwn e sz n xs v w' :=
  let ⟨ao, c, hv, ho⟩ := h; ⟨ao, c, hv, ho.keep k (by simp)⟩
theorem isV.st {x : Value} {v : Value} {w w' : World} (_ : Keep [] w w') (h : isV x v w) : isV x v w' := h

theorem cut_B (l : List UInt8) (a n : Nat) : ((l.map B).drop a).take n = ((l.drop a).take n).map B := by simp [List.map_take, List.map_drop]

set_option maxRecDepth 100000 in
set_option maxHeartbeats 1000000 in
theorem forks (ao : Option Addr) (cap : Nat) (l : List UInt8) (first one two : Int) (w : World) (h : Sl w 1 ao l.length cap (l.map B)) (R : Ending → World → Prop) (hR : ∀ w', Grow w w' → R (.returned (.bool true)) w') :
    Calls Try.prog 5 #[.slice ao l.length cap, .int .i64 first, .int .i64 one, .int .i64 two] w R := by
  by_cases hl : 300 < l.length
  · go_enter Try.func5, Try.ntmps5
    go_wp2_with fail
    refine awake9 w _ ?_
    intro w1 g1
    go_wp2
    exact g1
  · have hlen : (l.map B).length = l.length := by simp
    have h0 := h
    rw [← hlen] at h0
    have k1 := rnd_lt first (l.length + 1) (by omega)
    obtain ⟨k, hk⟩ : ∃ k, k = rnd first (l.length + 1) := ⟨_, rfl⟩
    rw [← hk] at k1
    have n1 := rnd_lt one (l.length - k + 1) (by omega)
    obtain ⟨n, hn⟩ : ∃ k', k' = rnd one (l.length - k + 1) := ⟨_, rfl⟩
    rw [← hn] at n1
    have m1 := rnd_lt two (l.length - k + 1) (by omega)
    obtain ⟨m, hm⟩ : ∃ k', k' = rnd two (l.length - k + 1) := ⟨_, rfl⟩
    rw [← hm] at m1
    have Hk := Lib.hid hk
    have Hn := Lib.hid hn
    have Hm := Lib.hid hm
    clear hk hn hm hlen
    go_enter Try.func5, Try.ntmps5
    go_wp2_with fail
    rw [show l.length = (l.map B).length by simp]
    refine tapeNew ao cap (l.map B) w h0 (by simp; omega) _ ?_
    rw [show (l.map B).length = l.length by simp]
    intro p wf rb w1 t1 g1 f1 r1
    go_wp2_with fail
    refine roundC first (l.length + 1) (by omega) (by omega) w1 _ ?_
    rw [← Hk.out]
    go_wp2_with fail
    refine tapeTake p wf rb _ _ _ w1 t1 (by simp; omega) (by decide) _ k (by simp; omega) _ ?_
    intro a1 c1 wf1 w2 o1 t2 k2 s2 f2 d1
    go_wp2_with fail
    refine tapeFork p wf1 rb _ _ _ w2 t2 (by simp) _ ?_
    intro q wf2 w3 u3 g3 f3
    have t3 := t2.keep (Keep.of_grow [] g3) (by simp) (by simp)
    have g13 : Grow w w3 := (g1.then k2 f1).trans g3
    have o3 := (o1.grow g3).sl
    rw [cut_B] at o3
    have h3 := h.grow g13
    have e1 : ∀ n : KW [] tt w3, (convert 22 9 (.slice a1 k c1)).run Try.prog n.w = .ok (.string (str (l.take k))) n.w := fun n => run_str Try.underlying22 Try.underlying5 Try.underlying9 (by simpa using o3.keep n.h (by simp))
    obtain ⟨so, sc, hs1, hs2, hs3⟩ := run_cut0 TB h3 (k : Int) k rfl (by omega)
    rw [Nat.mul_one, ← List.map_take] at hs2
    have e2 : ∀ n : KW [] tt w3, (convert 22 9 (.slice so k sc)).run Try.prog n.w = .ok (.string (str (l.take k))) n.w := fun n => run_str Try.underlying22 Try.underlying5 Try.underlying9 (hs2.keep n.h (by simp))
    go_wp2_with fail
    refine wp_region_R (segL w3) (by kernel_rfl) segL_drew ?_
    unfold segL segK segR
    repeat (first | (refine wpV_skip rfl rfl ?_) | (refine wpV_look rfl rfl rfl rfl rfl (fun K hK => ?_); go_big_quiet_op; refine hK _ ?_; clear hK K))
    refine wpV_nil ?_
    intro w4 hC _
    obtain ⟨⟨w4, hk4, -⟩, rfl⟩ := hC
    have g4 := hk4.grow
    have t4 := t3.keep hk4 (by simp) (by simp)
    have u4 := u3.keep hk4 (by simp) (by simp)
    have h4 := h3.grow g4
    have g14 := g13.trans g4
    have t2old := t2.old
    have u3old := u3.old
    clear e1 e2 hs1 hs2 hs3 t1 t2 t3 u3 h3 o1 o3
    go_wp2_with fail
    rw [show (l.length : Int) - k + 1 = ((l.length - k + 1 : Nat) : Int) by omega]
    refine roundC one (l.length - k + 1) (by omega) (by omega) w4 _ ?_
    rw [← Hn.out]
    go_wp2_with fail
    rw [show (l.length : Int) - k + 1 = ((l.length - k + 1 : Nat) : Int) by omega]
    refine roundC two (l.length - k + 1) (by omega) (by omega) w4 _ ?_
    rw [← Hm.out]
    go_wp2_with fail
    have z3 := g3.size
    have dwf : Dis wf2 wf1 := fun g hg hm => by have := f3 g hg; have := t2old.1 g hm; omega
    refine tapeTake p wf1 rb _ _ _ w4 t4 (by simp; omega) (by simp) _ n (by simp; omega) _ ?_
    intro a5 c5 wf5 w5 o5 t5 k5 s5 f5 d5
    have u5 := u4.keep k5 dwf t2old.2.2
    have g15 := g14.then k5 (Fr.of_inn s2 (f1.mono (Nat.le_refl _)) g1.size)
    clear t4 u4 h4
    go_wp2_with fail
    refine tapeTake q wf2 rb _ _ _ w5 u5 (by simp; omega) (by simp) _ m (by simp; omega) _ ?_
    intro a6 c6 wf6 w6 o6 u6 k6 s6 f6 d6
    have z4 := g4.size
    have z1 := g1.size
    have z2 := k2.size
    have t6 := t5.keep k6 (fun g hg hm => by
      have e1 := f3 g hm
      have e2 := u3old.1 g hm
      rcases s5 g hg with h | h
      · have := t2old.1 g h; omega
      · omega) u3old.2.2
    have g16 := g15.then k6 (f3.mono (by omega))
    have o56 := (o5.keep k6 (fun g hg hm => by have := f5 g hg; have := u3old.1 g hm; omega)).sl
    have o66 := o6.sl
    have h6 := h.grow g16
    clear t5 u5 o5 o6 h h0 k5 s5 f5 d5 k6 s6 f6 d6 t2old u3old dwf f1 r1 k2 s2 f2 d1 f3
    rw [cut_B] at o56 o66
    obtain ⟨so1, sc1, ha1, ha2, -⟩ := run_cut TB h6 (k : Int) ((k : Int) + n) k (k + n) rfl (by simp) (by omega) (by omega)
    obtain ⟨so2, sc2, hb1, hb2, -⟩ := run_cut TB h6 (k : Int) ((k : Int) + m) k (k + m) rfl (by simp) (by omega) (by omega)
    simp only [Nat.add_sub_cancel_left, Nat.mul_one, cut_B] at ha1 ha2 hb1 hb2
    have c1 : ∀ x : KW [] tt w6, (convert 22 9 (.slice a5 n c5)).run Try.prog x.w = .ok (.string (str ((l.drop k).take n))) x.w := fun x => run_str Try.underlying22 Try.underlying5 Try.underlying9 (by simpa using o56.keep x.h (by simp))
    have c2 : ∀ x : KW [] tt w6, (convert 22 9 (.slice a6 m c6)).run Try.prog x.w = .ok (.string (str ((l.drop k).take m))) x.w := fun x => run_str Try.underlying22 Try.underlying5 Try.underlying9 (by simpa using o66.keep x.h (by simp))
    have c3 : ∀ x : KW [] tt w6, (convert 22 9 (.slice so1 n sc1)).run Try.prog x.w = .ok (.string (str ((l.drop k).take n))) x.w := fun x => run_str Try.underlying22 Try.underlying5 Try.underlying9 (ha2.keep x.h (by simp))
    have c4 : ∀ x : KW [] tt w6, (convert 22 9 (.slice so2 m sc2)).run Try.prog x.w = .ok (.string (str ((l.drop k).take m))) x.w := fun x => run_str Try.underlying22 Try.underlying5 Try.underlying9 (hb2.keep x.h (by simp))
    clear ha2 hb2 o56 o66 h6
    simp only [Nat.zero_add, List.nil_append, List.cons_append] at t6 u6
    go_wp2_with fail
    let V : Nat → Array Value → Value → World → Prop := fun i _ v w =>
      match i with
      | 32 => isV (.int .i64 ((l.length : Int) - k - n)) v w
      | 43 => isV (.int .i64 ((l.length : Int) - k - m)) v w
      | 54 => isOwn 46 3 2 (tk [(⟨#[98, 111, 116, 104]⟩, 0, k), (⟨#[111, 110, 101]⟩, k, n)]) v w
      | 60 => isOwn 46 3 2 (tk [(⟨#[98, 111, 116, 104]⟩, 0, k), (⟨#[111, 110, 101]⟩, k, n)]) v w
      | 65 => isOwn 46 3 2 (tk [(⟨#[98, 111, 116, 104]⟩, 0, k), (⟨#[116, 119, 111]⟩, k, m)]) v w
      | 71 => isOwn 46 3 2 (tk [(⟨#[98, 111, 116, 104]⟩, 0, k), (⟨#[116, 119, 111]⟩, k, m)]) v w
      | _ => isV (.bool true) v w
    refine wp_region_R (segK [] w6 [32, 43, 54, 60, 61, 65, 71, 72, 75] V ?_) (by kernel_rfl) segK_drew ?_
    · intro i vs v wa wb kk
      show V i vs v wa → V i vs v wb
      simp only [V]
      split <;> first | exact isV.st kk | exact isOwn.st kk
    unfold segK segR
    repeat (first | (refine wpV_skip rfl rfl ?_) | (refine wpV_look rfl rfl rfl rfl rfl (fun K hK => ?_); go_big_quiet_op; refine hK _ ?_; clear hK K))
    refine wpV_mk rfl rfl rfl [] rfl (fun vs w7 hC _ => yields_call (by kernel_rfl) ?_) (fun vs v w7 hC hV _ => ?_)
    · obtain ⟨⟨w7, hk, -⟩, rfl⟩ := hC
      refine tapeLeft p _ _ _ _ _ w7 (t6.keep hk (by simp) (by simp)) (by simp; omega) _ ?_
      intro w8 g8
      rw [show (((l.map B).length - (k + n) : Nat) : Int) = (l.length : Int) - k - n by simp; omega]
      exact ⟨_, rfl, ⟨Keep.of_grow [] g8, trivial⟩, rfl⟩
    obtain rfl : v = _ := hV
    clear hC
    simp only [List.set_cons_succ, List.set_cons_zero]
    repeat (first | (refine wpV_skip rfl rfl ?_) | (refine wpV_look rfl rfl rfl rfl rfl (fun K hK => ?_); go_big_quiet_op; refine hK _ ?_; clear hK K))
    refine wpV_mk rfl rfl rfl [] rfl (fun vs w7 hC _ => yields_call (by kernel_rfl) ?_) (fun vs v w7 hC hV _ => ?_)
    · obtain ⟨⟨w7, hk, -⟩, rfl⟩ := hC
      refine tapeLeft q _ _ _ _ _ w7 (u6.keep hk (by simp) (by simp)) (by simp; omega) _ ?_
      intro w8 g8
      rw [show (((l.map B).length - (k + m) : Nat) : Int) = (l.length : Int) - k - m by simp; omega]
      exact ⟨_, rfl, ⟨Keep.of_grow [] g8, trivial⟩, rfl⟩
    obtain rfl : v = _ := hV
    clear hC
    simp only [List.set_cons_succ, List.set_cons_zero]
    repeat (first | (refine wpV_skip rfl rfl ?_) | (refine wpV_look rfl rfl rfl rfl rfl (fun K hK => ?_); go_big_quiet_op; refine hK _ ?_; clear hK K))
    refine wpV_mk rfl rfl rfl [] rfl (fun vs w7 hC _ => yields_call (by kernel_rfl) ?_) (fun vs v w7 hC hV _ => ?_)
    · obtain ⟨⟨w7, hk, -⟩, rfl⟩ := hC
      refine tapeTakes p _ _ _ _ _ w7 (t6.keep hk (by simp) (by simp)) (by simp) _ ?_
      intro b8 d8 w8 o8 g8 f8
      exact ⟨_, rfl, ⟨Keep.of_grow [] g8, trivial⟩, b8, d8, rfl, o8⟩
    obtain ⟨b8, d8, rfl, -⟩ : isOwn _ 3 2 _ v w7 := hV
    clear hC
    simp only [List.set_cons_succ, List.set_cons_zero]
    repeat (first | (refine wpV_skip rfl rfl ?_) | (refine wpV_look rfl rfl rfl rfl rfl (fun K hK => ?_); go_big_quiet_op; refine hK _ ?_; clear hK K))
    refine wpV_mk rfl rfl rfl [] rfl (fun vs w7 hC _ => ?_) (fun vs v w7 hC hV _ => ?_)
    · obtain ⟨⟨w7, hk, -⟩, rfl⟩ := hC
      unfold yields
      go_simp
      exact ⟨⟨Keep.alloc _ _ _, trivial⟩, _, _, rfl, Own.made (n := 2) (heap_alloc_new w7 _) rfl (by decide) (by simp [Value.oneCell'])⟩
    obtain ⟨b9, d9, rfl, -⟩ : isOwn _ 3 2 _ v w7 := hV
    clear hC
    simp only [List.set_cons_succ, List.set_cons_zero]
    refine wpV_mk rfl rfl rfl [54, 60] (by kernel_rfl) (fun vs w7 hC hF => yields_call (by kernel_rfl) ?_) (fun vs v w7 hC hV _ => ?_)
    · obtain ⟨b1, d1, e1, o1⟩ : isOwn 46 3 2 (tk [(⟨#[98, 111, 116, 104]⟩, 0, (k : Int)), (⟨#[111, 110, 101]⟩, (k : Int), (n : Int))]) _ w7 := (hF 54 (by simp)).1.2 rfl
      obtain ⟨b2, d2, e2, o2⟩ : isOwn 46 3 2 (tk [(⟨#[98, 111, 116, 104]⟩, 0, (k : Int)), (⟨#[111, 110, 101]⟩, (k : Int), (n : Int))]) _ w7 := (hF 60 (by simp)).2 rfl
      cases e1
      cases e2
      refine takesEq _ _ _ _ [(⟨#[98, 111, 116, 104]⟩, 0, (k : Int)), (⟨#[111, 110, 101]⟩, (k : Int), (n : Int))] w7 o1.sl o2.sl (by simp) _ ?_
      intro w8 g8
      exact ⟨_, rfl, ⟨Keep.of_grow [] g8, trivial⟩, rfl⟩
    obtain rfl : v = _ := hV
    clear hC
    simp only [List.set_cons_succ, List.set_cons_zero]
    repeat (first | (refine wpV_skip rfl rfl ?_) | (refine wpV_look rfl rfl rfl rfl rfl (fun K hK => ?_); go_big_quiet_op; refine hK _ ?_; clear hK K))
    refine wpV_mk rfl rfl rfl [] rfl (fun vs w7 hC _ => yields_call (by kernel_rfl) ?_) (fun vs v w7 hC hV _ => ?_)
    · obtain ⟨⟨w7, hk, -⟩, rfl⟩ := hC
      refine tapeTakes q _ _ _ _ _ w7 (u6.keep hk (by simp) (by simp)) (by simp) _ ?_
      intro b8 d8 w8 o8 g8 f8
      exact ⟨_, rfl, ⟨Keep.of_grow [] g8, trivial⟩, b8, d8, rfl, o8⟩
    obtain ⟨b8, d8, rfl, -⟩ : isOwn _ 3 2 _ v w7 := hV
    clear hC
    simp only [List.set_cons_succ, List.set_cons_zero]
    repeat (first | (refine wpV_skip rfl rfl ?_) | (refine wpV_look rfl rfl rfl rfl rfl (fun K hK => ?_); go_big_quiet_op; refine hK _ ?_; clear hK K))
    refine wpV_mk rfl rfl rfl [] rfl (fun vs w7 hC _ => ?_) (fun vs v w7 hC hV _ => ?_)
    · obtain ⟨⟨w7, hk, -⟩, rfl⟩ := hC
      unfold yields
      go_simp
      exact ⟨⟨Keep.alloc _ _ _, trivial⟩, _, _, rfl, Own.made (n := 2) (heap_alloc_new w7 _) rfl (by decide) (by simp [Value.oneCell'])⟩
    obtain ⟨b9, d9, rfl, -⟩ : isOwn _ 3 2 _ v w7 := hV
    clear hC
    simp only [List.set_cons_succ, List.set_cons_zero]
    refine wpV_mk rfl rfl rfl [65, 71] (by kernel_rfl) (fun vs w7 hC hF => yields_call (by kernel_rfl) ?_) (fun vs v w7 hC hV _ => ?_)
    · obtain ⟨b1, d1, e1, o1⟩ : isOwn 46 3 2 (tk [(⟨#[98, 111, 116, 104]⟩, 0, (k : Int)), (⟨#[116, 119, 111]⟩, (k : Int), (m : Int))]) _ w7 := (hF 65 (by simp)).1.2 rfl
      obtain ⟨b2, d2, e2, o2⟩ : isOwn 46 3 2 (tk [(⟨#[98, 111, 116, 104]⟩, 0, (k : Int)), (⟨#[116, 119, 111]⟩, (k : Int), (m : Int))]) _ w7 := (hF 71 (by simp)).2 rfl
      cases e1
      cases e2
      refine takesEq _ _ _ _ [(⟨#[98, 111, 116, 104]⟩, 0, (k : Int)), (⟨#[116, 119, 111]⟩, (k : Int), (m : Int))] w7 o1.sl o2.sl (by simp) _ ?_
      intro w8 g8
      exact ⟨_, rfl, ⟨Keep.of_grow [] g8, trivial⟩, rfl⟩
    obtain rfl : v = _ := hV
    clear hC
    simp only [List.set_cons_succ, List.set_cons_zero]
    repeat (first | (refine wpV_skip rfl rfl ?_) | (refine wpV_look rfl rfl rfl rfl rfl (fun K hK => ?_); go_big_quiet_op; refine hK _ ?_; clear hK K))
    refine wpV_mk rfl rfl rfl [] rfl (fun vs w7 hC _ => yields_call (by kernel_rfl) ?_) (fun vs v w7 hC hV _ => ?_)
    · refine awake9 w7 _ ?_
      intro w8 g8
      exact ⟨_, rfl, ⟨Keep.of_grow [] g8, trivial⟩, rfl⟩
    obtain rfl : v = _ := hV
    clear hC
    simp only [List.set_cons_succ, List.set_cons_zero]
    repeat (first | (refine wpV_skip rfl rfl ?_) | (refine wpV_look rfl rfl rfl rfl rfl (fun K hK => ?_); go_big_quiet_op; refine hK _ ?_; clear hK K))
    refine wpV_nil ?_
    intro w7 hC _
    obtain ⟨⟨w7, hk7, -⟩, rfl⟩ := hC
    go_wp2_with fail
    exact g16.trans hk7.grow
end Go.Proofs.Ytoelddjmjhnbaaa
