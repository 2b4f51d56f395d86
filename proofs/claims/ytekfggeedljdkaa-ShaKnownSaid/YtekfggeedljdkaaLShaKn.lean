/- The walk of ShaKnown. -/
import Derived.Test.YtekfggeedljdkaaShaAw
import Derived.Test.YtekfggeedljdkaaConvS
import Derived.Test.YtekfggeedljdkaaRound
namespace Go.Proofs.Ytekfggeedljdkaa
open Go Go.RowKit

/-- One of the texts, summed. -/
def knV (l : List UInt8) (s : List UInt8) (x : List UInt8) : Nat → Array Value → Value → World → Prop := fun i _ v w =>
  (i = 4 → ∃ ao c, v = .slice ao l.length c ∧ Sl w 1 ao l.length c (l.map B)) ∧
  (i = 5 → ∃ bo d ao c, v = .slice bo 1 d ∧ Sl w 1 bo 1 d [.slice ao l.length c] ∧ Sl w 1 ao l.length c (l.map B)) ∧
  (i = 6 → v = .agg (s.map B).toArray) ∧ (i = 7 → v = .string (str x)) ∧ (i = 14 → v = .bool true)
theorem knV_st (l s x : List UInt8) (i : Nat) (vs : Array Value) (v : Value) (w w' : World) (k : Keep [] w w') (h : knV l s x i vs v w) : knV l s x i vs v w' := by
  obtain ⟨h1, h2, h3, h4, h5⟩ := h
  refine ⟨fun e => ?_, fun e => ?_, h3, h4, h5⟩
  · obtain ⟨ao, c, hv, hs⟩ := h1 e
    exact ⟨ao, c, hv, hs.keep k (by simp)⟩
  · obtain ⟨bo, d, ao, c, hv, hb, hs⟩ := h2 e
    exact ⟨bo, d, ao, c, hv, hb.keep k (by simp), hs.keep k (by simp)⟩

theorem exec_conv {P : Program} {src dst ty : TypeId} {x : Operand} {d : Option Tmp} {pos : String} {after : Array Edge} {gd : Option (Nat × Bool)} {ρ : Operand → Value} {w w' : World} {v : Value} (h : (convert src dst (ρ x)).run P w = .ok v w') :
    (execOp ρ ⟨d, .convert src dst x, ty, pos, after, gd⟩).run P w = .ok (.value v) w' := by
  have : execOp ρ ⟨d, .convert src dst x, ty, pos, after, gd⟩ = (do pure (Next.value (← convert src dst (ρ x)))) := rfl
  rw [this, Sem.run_bind, h]; rfl

set_option maxRecDepth 100000 in
set_option maxHeartbeats 4000000 in
theorem shaKnW (a0 : Int) (w : World) (_ : (Lit.int IntKind.i64 a0).wf = true) (R : Ending → World → Prop) (hR : ∀ w', Grow w w' → R (.returned (.bool true)) w') :
    Calls Try.prog 8 #[.int .i64 a0] w R := by
  have hml : maxLen = 9223372036854775807 := rfl
  have haw := awakeC
  have hk := rnd_lt a0 4 (by decide)
  have he := rnd_eq a0 4 (by decide)
  have h3 := Int.tmod_lt_of_pos a0 (b := (4 : Int)) (by omega)
  have h4 := Int.lt_tmod_of_pos a0 (b := (4 : Int)) (by omega)
  obtain ⟨i, hi⟩ : ∃ i, i = rnd a0 4 := ⟨_, rfl⟩
  rw [← hi] at hk he
  have he' : (a0.tmod 4 + 4) % 4 = (i : Int) := he
  clear hi he
  obtain ⟨q, hq⟩ : ∃ q, q = w.heap.size := ⟨_, rfl⟩
  go_enter Try.func8, Try.ntmps8
  go_upto_region 3 with (fail)
  change Code.wp _ _ _ _ ((w.alloc (.cells #[.string ⟨kT0.toArray⟩, .string ⟨kT1.toArray⟩, .string ⟨kT2.toArray⟩, .string ⟨kT3.toArray⟩] 9)).alloc (.cells #[.string ⟨kX0.toArray⟩, .string ⟨kX1.toArray⟩, .string ⟨kX2.toArray⟩, .string ⟨kX3.toArray⟩] 9))
  have b1 := alloc_old _ (.cells #[.string ⟨kX0.toArray⟩, .string ⟨kX1.toArray⟩, .string ⟨kX2.toArray⟩, .string ⟨kX3.toArray⟩] 9) _ (alloc_new w (.cells #[.string ⟨kT0.toArray⟩, .string ⟨kT1.toArray⟩, .string ⟨kT2.toArray⟩, .string ⟨kT3.toArray⟩] 9))
  have b2 := alloc_new (w.alloc (.cells #[.string ⟨kT0.toArray⟩, .string ⟨kT1.toArray⟩, .string ⟨kT2.toArray⟩, .string ⟨kT3.toArray⟩] 9)) (.cells #[.string ⟨kX0.toArray⟩, .string ⟨kX1.toArray⟩, .string ⟨kX2.toArray⟩, .string ⟨kX3.toArray⟩] 9)
  rw [sz_al] at b2
  have g2 := (Grow.alloc w (.cells #[.string ⟨kT0.toArray⟩, .string ⟨kT1.toArray⟩, .string ⟨kT2.toArray⟩, .string ⟨kT3.toArray⟩] 9)).trans (Grow.alloc _ (.cells #[.string ⟨kX0.toArray⟩, .string ⟨kX1.toArray⟩, .string ⟨kX2.toArray⟩, .string ⟨kX3.toArray⟩] 9))
  generalize (w.alloc (.cells #[.string ⟨kT0.toArray⟩, .string ⟨kT1.toArray⟩, .string ⟨kT2.toArray⟩, .string ⟨kT3.toArray⟩] 9)).alloc (.cells #[.string ⟨kX0.toArray⟩, .string ⟨kX1.toArray⟩, .string ⟨kX2.toArray⟩, .string ⟨kX3.toArray⟩] 9) = w2 at *
  rw [← hq] at b1 b2 ⊢
  clear hq
  have hall : ∃ l s x : List UInt8, w2.cell? ⟨q, i, none⟩ = some (.string ⟨l.toArray⟩) ∧ w2.cell? ⟨q + 1, i, none⟩ = some (.string ⟨x.toArray⟩) ∧ sumS l = s ∧ textS s = x ∧ l.length ≤ 1000 ∧ s.length = 32 := by
    have hc : i = 0 ∨ i = 1 ∨ i = 2 ∨ i = 3 := by omega
    rcases hc with rfl | rfl | rfl | rfl
    · exact ⟨kT0, kS0, kX0, obj_cell b1 0 rfl, obj_cell b2 0 rfl, kn0, kx0, by decide, rfl⟩
    · exact ⟨kT1, kS1, kX1, obj_cell b1 1 rfl, obj_cell b2 1 rfl, kn1, kx1, by decide, rfl⟩
    · exact ⟨kT2, kS2, kX2, obj_cell b1 2 rfl, obj_cell b2 2 rfl, kn2, kx2, by decide, rfl⟩
    · exact ⟨kT3, kS3, kX3, obj_cell b1 3 rfl, obj_cell b2 3 rfl, kn3, kx3, by decide, rfl⟩
  obtain ⟨l, s, x, c1, c2, hs, hx, hll, hsl⟩ := hall
  have ht := textC s hsl
  rw [hx] at ht
  have e1 := KW.cell (fp := []) (p0 := tt) c1 (by simp)
  have e2 := KW.cell (fp := []) (p0 := tt) c2 (by simp)
  have hx1 : (str x).toList = x := str_toList x
  have hx2 : (⟨x.toArray⟩ : ByteArray).toList = x := str_toList x
  have hxx : (x == x) = true := by simp
  have Hs := Lib.hid hs
  clear b1 b2 hx hs c1 c2
  go_wp2_with fail
  refine wp_region_R (segK [] w2 [4, 5, 6, 7, 14] (knV l s x) (fun i vs v w w' k h => knV_st l s x i vs v w w' k h)) (by kernel_rfl) segK_drew ?_
  unfold segK segR
  repeat (first | (refine wpV_skp rfl rfl ?_; simp only [List.set_cons_succ, List.set_cons_zero]) | (refine wpV_look rfl rfl rfl rfl rfl (fun K hK => ?_); go_big_quiet_op; refine hK _ ?_; clear hK K))
  refine wpV_mk rfl rfl rfl [] rfl (fun vs w7 hC _ => ?_) (fun vs v w7 hC hV hF => ?_)
  · obtain ⟨⟨w7, hk, -⟩, rfl⟩ := hC
    obtain ⟨c, w8, hr, hsl, hg⟩ := conv_str (P := Try.prog) Try.underlying9 Try.underlying31 Try.underlying5 ⟨l.toArray⟩ l (by simp) (by omega) w7
    refine yields_run (v := .slice (some ⟨w7.heap.size, 0, none⟩) l.length c) (w' := w8) ?_ ⟨⟨Keep.of_grow [] hg, trivial⟩, fun _ => ⟨_, c, rfl, hsl⟩, by simp, by simp, by simp, by simp⟩
    exact exec_conv hr
  obtain ⟨ao, c, rfl, -⟩ := hV.1 rfl
  clear hV hC hF w7
  simp only [List.set_cons_succ, List.set_cons_zero]
  repeat (first | (refine wpV_skp rfl rfl ?_; simp only [List.set_cons_succ, List.set_cons_zero]) | (refine wpV_look rfl rfl rfl rfl rfl (fun K hK => ?_); go_big_quiet_op; refine hK _ ?_; clear hK K))
  refine wpV_mk rfl rfl rfl [4] (by kernel_rfl) (fun vs w7 hC hF => ?_) (fun vs v w7 hC hV hF => ?_)
  · obtain ⟨ao', c', e, hsl⟩ := (hF 4 (by simp)).2 rfl |>.1 rfl
    cases e
    obtain ⟨⟨w7, hk, -⟩, rfl⟩ := hC
    unfold yields
    go_simp
    have gA := Grow.alloc w7 (.cells #[.slice ao l.length c] 31)
    refine ⟨⟨Keep.of_grow [] gA, trivial⟩, by simp, fun _ => ⟨_, _, ao, c, rfl, ?_, hsl.grow gA⟩, by simp, by simp, by simp⟩
    exact sl_obj (C := [.slice ao l.length c]) (alloc_new w7 _) 1 rfl (by omega) (by simp [Value.oneCell'])
  obtain ⟨bo, d, ao2, c2, rfl, -, -⟩ := hV.2.1 rfl
  clear hV hC hF w7
  simp only [List.set_cons_succ, List.set_cons_zero]
  refine wpV_mk rfl rfl rfl [5] (by kernel_rfl) (fun vs w7 hC hF => yields_call (by kernel_rfl) ?_) (fun vs v w7 hC hV hF => ?_)
  · obtain ⟨bo', d', ao', c', e, hsb, hsl⟩ := (hF 5 (by simp)).2 rfl |>.2.1 rfl
    cases e
    obtain ⟨⟨w7, hk, -⟩, rfl⟩ := hC
    refine sumTop bo d [.slice ao' l.length c'] [l] w7 hsb (one_part hsl) (by simp) (by simp; omega) _ ?_
    intro w8 g8
    have e : sumS [l].flatten = s := by rw [← Hs.out]; simp
    rw [e]
    exact ⟨_, rfl, ⟨Keep.of_grow [] g8, trivial⟩, by simp, by simp, fun _ => rfl, by simp, by simp⟩
  obtain rfl := hV.2.2.1 rfl
  clear hV hC hF w7
  simp only [List.set_cons_succ, List.set_cons_zero]
  refine wpV_mk rfl rfl rfl [] rfl (fun vs w7 hC _ => yields_call (by kernel_rfl) ?_) (fun vs v w7 hC hV hF => ?_)
  · obtain ⟨⟨w7, hk, -⟩, rfl⟩ := hC
    exact ht w7 _ (fun w8 g8 => ⟨_, rfl, ⟨Keep.of_grow [] g8, trivial⟩, by simp, by simp, by simp, fun _ => rfl, by simp⟩)
  obtain rfl := hV.2.2.2.1 rfl
  clear hV hC hF w7
  simp only [List.set_cons_succ, List.set_cons_zero]
  repeat (first | (refine wpV_skp rfl rfl ?_; simp only [List.set_cons_succ, List.set_cons_zero]) | (refine wpV_look rfl rfl rfl rfl rfl (fun K hK => ?_); go_big_quiet_op; refine hK _ ?_; clear hK K))
  refine wpV_mk rfl rfl rfl [] rfl (fun vs w7 hC _ => yields_call (by kernel_rfl) ?_) (fun vs v w7 hC hV hF => ?_)
  · obtain ⟨⟨w7, hk, -⟩, rfl⟩ := hC
    exact haw w7 _ (fun w8 g8 => ⟨_, rfl, ⟨Keep.of_grow [] g8, trivial⟩, by simp, by simp, by simp, by simp, fun _ => rfl⟩)
  obtain rfl := hV.2.2.2.2 rfl
  clear hV hC hF w7
  simp only [List.set_cons_succ, List.set_cons_zero]
  repeat (first | (refine wpV_skp rfl rfl ?_; simp only [List.set_cons_succ, List.set_cons_zero]) | (refine wpV_look rfl rfl rfl rfl rfl (fun K hK => ?_); go_big_quiet_op; refine hK _ ?_; clear hK K))
  refine wpV_nil ?_
  intro w9 hC hF
  obtain ⟨⟨w9, hk9, -⟩, rfl⟩ := hC
  have hf := hR _ (g2.trans hk9.grow)
  clear hF hR e1 e2
  go_wp2_with fail
  exact hf
end Go.Proofs.Ytekfggeedljdkaa
