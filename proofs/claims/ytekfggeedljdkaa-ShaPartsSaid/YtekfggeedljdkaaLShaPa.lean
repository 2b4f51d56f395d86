/- The walk of ShaParts. -/
import Derived.Test.YtekfggeedljdkaaShaAw
import Derived.Test.YtekfggeedljdkaaTab
import Derived.Test.YtekfggeedljdkaaEqA
import Derived.Test.YtekfggeedljdkaaRound
namespace Go.Proofs.Ytekfggeedljdkaa
open Go Go.RowKit

theorem TPa : ST Try.prog 22 31 1 24 := ST.mk' (z := .slice none 0 0) Try.underlying22 (by kernel_rfl) rfl (by decide)
theorem Pt.snoc {w : World} {vs : List Value} {ls : List (List UInt8)} {ao : Option Addr} {n c : Nat} {l : List UInt8} (h : Pt w vs ls) (s : Sl w 1 ao n c (l.map B)) : Pt w (vs ++ [.slice ao n c]) (ls ++ [l]) := by
  obtain rfl : n = l.length := by have := s.hlen; simpa using this.symm
  refine ⟨by simp [h.1], fun i hi => ?_⟩
  by_cases hl : i < ls.length
  · obtain ⟨ao', c', e, s'⟩ := h.2 i hl
    rw [List.getElem_append_left hl]
    exact ⟨ao', c', by rw [List.getElem?_append_left (by rw [h.1]; exact hl)]; exact e, s'⟩
  · have hi' : i = ls.length := by simp at hi; omega
    subst hi'
    refine ⟨ao, c, ?_, ?_⟩
    · rw [List.getElem?_append_right (by rw [h.1]; exact Nat.le_refl _), h.1]; simp
    · simpa using s
theorem Pt.nil (w : World) : Pt w [] [] := ⟨rfl, fun i hi => by simp at hi⟩

set_option maxRecDepth 100000 in
set_option maxHeartbeats 2000000 in
theorem shaPaW (a0 : Option Addr) (c0 : Nat) (l : List UInt8) (a1 : Option Addr) (c1 : Nat) (cs : List Int) (w : World) (s0 : Sl w 1 a0 l.length c0 (l.map B)) (s1 : Sl w 1 a1 cs.length c1 (cs.map (.int .i64))) (_ : ∀ a ∈ cs, (Lit.int IntKind.i64 a).wf = true)
    (R : Ending → World → Prop) (hR : ∀ w', Grow w w' → R (.returned (.bool true)) w') :
    Calls Try.prog 4 #[.slice a0 l.length c0, .slice a1 cs.length c1] w R := by
  have hml : maxLen = 9223372036854775807 := rfl
  have haw := awakeC
  have hm0 := s0.hcap
  have hn0 := s0.hle
  have hm1 := s1.hcap
  have hn1 := s1.hle
  by_cases hlo : 2000 < l.length
  · go_enter Try.func4, Try.ntmps4
    go_wp2_with fail
    refine haw _ _ ?_
    intro w2 g2
    have hf := hR w2 g2
    clear hR
    go_wp2_with fail
    exact hf
  have hd : decide (2000 < l.length) = false := by simpa using hlo
  by_cases hhi : 20 < cs.length
  · go_enter Try.func4, Try.ntmps4
    go_wp2_with fail
    refine haw _ _ ?_
    intro w2 g2
    have hf := hR w2 g2
    clear hR
    go_wp2_with fail
    exact hf
  have hd2 : decide (20 < cs.length) = false := by simpa using hhi
  have hl : l.length ≤ 2000 := by omega
  have hcl : cs.length ≤ 20 := by omega
  clear hlo hhi hm0 hn0 hm1 hn1
  obtain ⟨N, hN⟩ : ∃ N, N = l.length := ⟨_, rfl⟩
  obtain ⟨M, hM⟩ : ∃ M, M = cs.length := ⟨_, rfl⟩
  rw [← hN] at s0 hd hl ⊢
  rw [← hM] at s1 hd2 hcl ⊢
  have HN := Lib.hid hN
  have HM := Lib.hid hM
  clear hN hM
  go_enter Try.func4, Try.ntmps4
  go_wp2_with fail
  clear hd hd2
  go_loopw [5, 6, 7, 8] (fun vp vf vi _ wr => ∃ (i f : Nat) (ao : Option Addr) (c : Nat) (vs : List Value) (ls : List (List UInt8)), vi = .int .i64 (i : Int) ∧ vf = .int .i64 (f : Int) ∧ vp = .slice ao i c ∧ i ≤ M ∧ f ≤ N ∧ Own wr 31 1 ao i c vs ∧ Pt w vs ls ∧ Hid (ls.flatten = l.take f ∧ ls.length = i) ∧ Grow w wr ∧ Fr (blk ao) w) (fun _ _ vi _ _ => M - (intOf vi).toNat)
  case atStart => exact ⟨0, 0, none, 0, [], [], by simp, by simp, rfl, by omega, by omega, Own.none _ _ _, Pt.nil _, Lib.hid ⟨by simp, rfl⟩, Grow.refl _, by simp [blk, Fr]⟩
  case round =>
    obtain ⟨i, f, ao, c, vs, ls, rfl, rfl, rfl, hi, hf, ho, hp, hL, hg, hb⟩ := hrel
    by_cases hlt : i < M
    · obtain ⟨g, off, rfl, hc⟩ := (s1.grow hg).hat (by omega)
      have hMi : i < cs.length := by rw [← HM.out]; exact hlt
      have cc := hc.at (i := i) (v := .int .i64 cs[i]) (by simp [hMi])
      obtain ⟨x, hx⟩ : ∃ x, x = cs[i] := ⟨_, rfl⟩
      rw [← hx] at cc
      have hrl := rnd_lt x (N - f + 1) (by omega)
      have hrc := roundC x (N - f + 1) (by omega) (by omega)
      obtain ⟨n, hn⟩ : ∃ n, n = rnd x (N - f + 1) := ⟨_, rfl⟩
      simp only [← hn] at hrl hrc
      have e1 : ((N - f + 1 : Nat) : Int) = (N : Int) - (f : Int) + 1 := by omega
      rw [e1] at hrc
      obtain ⟨so, sc, hcut, sk, -⟩ := run_cut TBy s0 (f : Int) ((f : Int) + (n : Int)) f (f + n) rfl (by omega) (by omega) (by omega)
      rw [show f + n - f = n by omega, Nat.mul_one, Nat.mul_one, ← List.map_drop, ← List.map_take] at sk
      rw [show f + n - f = n by omega] at hcut
      have hnx : Hid ((ls ++ [(l.drop f).take n]).flatten = l.take (f + n) ∧ (ls ++ [(l.drop f).take n]).length = i + 1) := Lib.hid (by
        obtain ⟨h1, h2⟩ := hL.out
        exact ⟨by rw [List.flatten_append, h1]; simp [List.take_add], by simp [h2]⟩)
      have hp2 := hp.snoc sk
      clear hx hn e1 hc hMi hL hp sk
      go_wp2_with (first | (go_at_call 15; refine hrc _ _ ?_) | (at_builtin; refine wpList_app TPa rfl rfl (ho.grow (Grow.alloc _ _)) (Own.made (n := 1) (heap_alloc_new _ _) rfl (by decide) (by simp [Value.oneCell'])).sl (by omega) (by omega) ?_; intro ao' cap' w9 hown _ hkeep hblk))
      have hg2 := (hg.trans (Grow.alloc wr _)).then hkeep hb
      have hb2 : Fr (blk ao') w := fun y hy => by
        rcases hblk y hy with h | h
        · exact hb y h
        · have := hg.size; simp at h; omega
      clear hkeep hblk hg hb ho hrc
      go_wp2_with fail
      go_roundw
      case rel => exact ⟨i + 1, f + n, ao', cap', _, _, by go_num, by go_num, rfl, by omega, by omega, hown, hp2, hnx, hg2, hb2⟩
      case measure => simp [intOf]; omega
    · obtain rfl : i = M := by omega
      obtain ⟨so, sc, hcut, sk, -⟩ := run_cut1 TBy s0 (f : Int) f rfl (by omega)
      rw [Nat.mul_one, ← List.map_drop] at sk
      have s00 : Sl w 1 none 0 0 (([] : List UInt8).map B) := Sl.none w 1
      have hp2 := (hp.snoc sk).snoc s00
      have hfl : ((ls ++ [l.drop f]) ++ [[]]).flatten = l := by
        obtain ⟨h1, h2⟩ := hL.out
        rw [List.flatten_append, List.flatten_append, h1]; simp
      have hfn : ((ls ++ [l.drop f]) ++ [[]]).length = i + 2 := by
        obtain ⟨h1, h2⟩ := hL.out
        simp [h2]
      obtain ⟨LS, hLS⟩ : ∃ L, L = (ls ++ [l.drop f]) ++ [[]] := ⟨_, rfl⟩
      rw [← hLS] at hp2 hfl hfn
      have st := fun lo cap vs w' s pt => sumTop lo cap vs LS w' s pt (by omega) (by rw [hfl, ← HN.out]; omega)
      have st1 := fun lo cap vs w' s pt => sumTop lo cap vs [l] w' s pt (by simp) (by simp [← HN.out]; omega)
      rw [hfl, hfn] at st
      simp only [List.flatten_cons, List.flatten_nil, List.append_nil, List.length_cons, List.length_nil, Nat.zero_add] at st1
      have h32 := sumS_len l
      have heq := eq_hash (sumS l) (sumS l) h32 h32
      rw [beq_self_eq_true] at heq
      obtain ⟨A, hA⟩ : ∃ A, A = ((sumS l).map B).toArray := ⟨_, rfl⟩
      rw [← hA] at heq
      simp only [← hA] at st st1
      clear hA h32 hLS hfl hfn hL sk hp s00
      go_wp2_with (at_builtin; refine wpList_app TPa rfl rfl (ho.grow (Grow.alloc _ _)) (Own.made (n := 2) (heap_alloc_new _ _) rfl (by decide) (by simp [Value.oneCell'])).sl (by omega) (by omega) ?_; intro ao' cap' w9 hown _ hkeep hblk)
      have hg2 := (hg.trans (Grow.alloc wr _)).then hkeep hb
      have hs2 : Sl w9 1 ao' (i + 2) cap' (vs ++ [.slice so (N - f) sc] ++ [.slice none 0 0]) := by
        have := hown.sl
        simpa using this
      have hc2 := st ao' cap' _ w9 hs2 (hp2.grow hg2)
      clear hkeep hblk hg hb ho st hs2 hp2 hown
      go_wp2_with fail
      refine hc2 _ ?_
      intro w10 g10
      have G10 := hg2.trans g10
      have hc3 := fun s pt => st1 (some ⟨w10.heap.size, 0, none⟩) 1 [.slice a0 N c0] (w10.alloc (.cells #[.slice a0 N c0] 31)) s pt
      have sA := sl_obj (C := [.slice a0 N c0]) (alloc_new w10 (.cells #[.slice a0 N c0] 31)) 1 rfl (by omega) (by simp [Value.oneCell'])
      have sB : Pt (w10.alloc (.cells #[.slice a0 N c0] 31)) [.slice a0 N c0] [l] := (Pt.nil _).snoc (s0.grow (G10.trans (Grow.alloc _ _)))
      have hc4 := hc3 sA sB
      have G11 := G10.trans (Grow.alloc w10 (.cells #[.slice a0 N c0] 31))
      clear hc3 sA sB hc2 st1 hg2 g10 G10
      go_wp2_with fail
      refine hc4 _ ?_
      intro w11 g11
      have G12 := G11.trans g11
      clear hc4 g11 G11
      go_wp2_with fail
      refine haw _ _ ?_
      intro w12 g12
      have hf := hR _ (G12.trans g12)
      clear hR
      go_wp2_with fail
      exact hf
end Go.Proofs.Ytekfggeedljdkaa
