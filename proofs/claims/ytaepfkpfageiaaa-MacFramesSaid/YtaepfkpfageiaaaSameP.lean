/- prioryalike.Same: two lists of texts. -/
import Derived.Test.YtaepfkpfageiaaaMacF
import Derived.Test.YtaepfkpfageiaaaTabE
namespace Go.Proofs.Ytaepfkpfageiaaa
open Go Go.RowKit

theorem takeL_snoc {a b : List (List UInt8)} {i : Nat} (ha : i < a.length) (hb : i < b.length) : a.take (i + 1) = b.take (i + 1) ↔ a.take i = b.take i ∧ a[i] = b[i] := by
  rw [List.take_add_one, List.take_add_one, List.getElem?_eq_getElem ha, List.getElem?_eq_getElem hb]
  constructor
  · intro h
    obtain ⟨h1, h2⟩ := List.append_inj' h rfl
    exact ⟨h1, by simpa using h2⟩
  · rintro ⟨h1, h2⟩
    rw [h1, h2]
set_option maxRecDepth 100000 in
set_option maxHeartbeats 1000000 in
theorem samePC (lo : Option Addr) (c : Nat) (vs : List Value) (ls : List (List UInt8)) (mo : Option Addr) (d : Nat) (us : List Value) (ms : List (List UInt8)) (w : World) (s1 : Sl w 1 lo ls.length c vs) (p1 : Pt w vs ls) (s2 : Sl w 1 mo ms.length d us) (p2 : Pt w us ms)
    (R : Ending → World → Prop) (hR : ∀ w', Grow w w' → R (.returned (.bool (ls == ms))) w') :
    Calls Try.prog 32 #[.slice lo ls.length c, .slice mo ms.length d] w R := by
  have hml : maxLen = 9223372036854775807 := rfl
  have ha1 := s1.hle
  have ha2 := s1.hcap
  have hb1 := s2.hle
  have hb2 := s2.hcap
  by_cases hne : ls.length = ms.length
  · obtain ⟨n, hn⟩ : ∃ n, n = ls.length := ⟨_, rfl⟩
    have hnb : n = ms.length := hn.trans hne
    rw [← hn] at s1 ⊢
    rw [← hnb] at s2 ⊢
    have Hn := Lib.hid hn
    have Hb := Lib.hid hnb
    have hnm : n ≤ 9223372036854775807 := by omega
    have hr1 := fun (w' : World) (g : Grow w w') (h : ls = ms) => (by have := hR w' g; rw [h, beq_self_eq_true] at this; exact this : R (.returned (.bool true)) w')
    have hr2 := fun (w' : World) (g : Grow w w') (h : ls ≠ ms) => (by have := hR w' g; rw [beq_eq_false_iff_ne.2 h] at this; exact this : R (.returned (.bool false)) w')
    have Hr1 := Lib.hid hr1
    have Hr2 := Lib.hid hr2
    clear hne hn hnb ha1 ha2 hb1 hb2 hR hr1 hr2
    go_enter Try.func32, Try.ntmps32
    go_wp2_with fail
    go_loopw [5] (fun vi wr => ∃ (i : Nat), vi = .int .i64 (i : Int) ∧ i ≤ n ∧ Hid (ls.take i = ms.take i) ∧ Grow w wr) (fun vi _ => n - (intOf vi).toNat)
    case atStart => exact ⟨0, by simp, by omega, Lib.hid (by simp), Grow.refl _⟩
    case round =>
      obtain ⟨i, rfl, hi, hE, hg⟩ := hrel
      by_cases hlt : i < n
      · obtain ⟨g1, o1, e1, h1⟩ := (s1.grow hg).hat (by omega)
        obtain ⟨g2, o2, e2, h2⟩ := (s2.grow hg).hat (by omega)
        subst e1
        subst e2
        have hla : i < ls.length := by rw [← Hn.out]; exact hlt
        have hlb : i < ms.length := by rw [← Hb.out]; exact hlt
        obtain ⟨xo, xc, hxv, sx⟩ := p1.2 i hla
        obtain ⟨yo, yc, hyv, sy⟩ := p2.2 i hlb
        have c1 := KW.cell (fp := []) (p0 := tt) (h1.at hxv) (by simp)
        have c2 := KW.cell (fp := []) (p0 := tt) (h2.at hyv) (by simp)
        have hnx := Lib.hid (takeL_snoc hla hlb)
        have hnx2 : Hid (ls[i] ≠ ms[i] → ls ≠ ms) := Lib.hid (fun h e => h (by simp [e]))
        obtain ⟨X, hX⟩ : ∃ x, x = ls[i] := ⟨_, rfl⟩
        obtain ⟨Y, hY⟩ : ∃ x, x = ms[i] := ⟨_, rfl⟩
        rw [← hX, ← hY] at hnx hnx2
        rw [← hX] at c1 sx
        rw [← hY] at c2 sy
        have cva : ∀ w', Keep [] wr w' → (convert 22 9 (.slice xo X.length xc)).run Try.prog w' = .ok (.string (str X)) w' := fun w' k => run_str Try.underlying22 Try.underlying5 Try.underlying9 (sx.grow (hg.trans k.grow))
        have cvb : ∀ w', Keep [] wr w' → (convert 22 9 (.slice yo Y.length yc)).run Try.prog w' = .ok (.string (str Y)) w' := fun w' k => run_str Try.underlying22 Try.underlying5 Try.underlying9 (sy.grow (hg.trans k.grow))
        clear h1 h2 hxv hyv hla hlb hX hY
        by_cases hXY : X = Y
        · have hq : (X == Y) = true := by simpa using hXY
          have hz : Hid (ls.take (i + 1) = ms.take (i + 1)) := Lib.hid (hnx.out.2 ⟨hE.out, hXY⟩)
          clear hXY hnx hnx2 hE
          go_upto_region 6 with (fail)
          refine wp_region_R (segT wr []) (by kernel_rfl) segT_drew ?_
          unfold segT segK segR
          repeat (first | (refine wpV_skp rfl rfl ?_; simp only [List.set_cons_succ, List.set_cons_zero]) | (refine wpV_val rfl rfl rfl rfl rfl _ (fun w hC => by obtain ⟨n, rfl⟩ := hC; exact exec_conv (cva _ n.h)) ?_; simp only [List.set_cons_succ, List.set_cons_zero]) | (refine wpV_val rfl rfl rfl rfl rfl _ (fun w hC => by obtain ⟨n, rfl⟩ := hC; exact exec_conv (cvb _ n.h)) ?_; simp only [List.set_cons_succ, List.set_cons_zero]) | (refine wpV_look rfl rfl rfl rfl rfl (fun K hK => ?_); go_big_quiet_op; refine hK _ ?_; clear hK K))
          refine wpV_nil ?_
          intro w4 hC hF
          obtain ⟨⟨w4, hkw4, -⟩, rfl⟩ := hC
          clear hF
          have g4 := hg.trans hkw4.grow
          clear c1 c2 hkw4 cva cvb
          go_wp2_with fail
          go_roundw
          case rel => exact ⟨i + 1, by go_num, by omega, hz, g4⟩
          case measure => simp [intOf]; omega
        · have hq : (X == Y) = false := by simpa using hXY
          have hz := hnx2.out hXY
          clear hXY hnx hnx2 hE
          go_upto_region 6 with (fail)
          refine wp_region_R (segT wr []) (by kernel_rfl) segT_drew ?_
          unfold segT segK segR
          repeat (first | (refine wpV_skp rfl rfl ?_; simp only [List.set_cons_succ, List.set_cons_zero]) | (refine wpV_val rfl rfl rfl rfl rfl _ (fun w hC => by obtain ⟨n, rfl⟩ := hC; exact exec_conv (cva _ n.h)) ?_; simp only [List.set_cons_succ, List.set_cons_zero]) | (refine wpV_val rfl rfl rfl rfl rfl _ (fun w hC => by obtain ⟨n, rfl⟩ := hC; exact exec_conv (cvb _ n.h)) ?_; simp only [List.set_cons_succ, List.set_cons_zero]) | (refine wpV_look rfl rfl rfl rfl rfl (fun K hK => ?_); go_big_quiet_op; refine hK _ ?_; clear hK K))
          refine wpV_nil ?_
          intro w4 hC hF
          obtain ⟨⟨w4, hkw4, -⟩, rfl⟩ := hC
          clear hF
          have hf := Hr2.out _ (hg.trans hkw4.grow) hz
          clear c1 c2 hkw4 cva cvb
          go_wp2_with fail
          exact hf
      · obtain rfl : i = n := by omega
        have hz : ls = ms := by
          have h := hE.out
          rw [List.take_of_length_le (by rw [← Hn.out]; exact Nat.le_refl _), List.take_of_length_le (by rw [← Hb.out]; exact Nat.le_refl _)] at h
          exact h
        have hf := Hr1.out wr hg hz
        clear hE
        go_wp2_with fail
        exact hf
  · have hq : (ls == ms) = false := by
      have : ls ≠ ms := fun e => hne (by rw [e])
      simpa using this
    have hf := hR w (Grow.refl w)
    rw [hq] at hf
    have hd : decide (ls.length = ms.length) = false := by simpa using hne
    have hd2 : ((ls.length : Int) == (ms.length : Int)) = false := by simp; omega
    clear hR hq
    go_enter Try.func32, Try.ntmps32
    go_wp2_with fail
    exact hf
end Go.Proofs.Ytaepfkpfageiaaa
