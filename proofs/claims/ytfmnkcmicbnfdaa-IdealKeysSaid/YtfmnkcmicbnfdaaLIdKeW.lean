/- The walk of IdealKeys, whole. -/
import Derived.Test.YtfmnkcmicbnfdaaLIdKe
namespace Go.Proofs.Ytfmnkcmicbnfdaa
open Go Go.RowKit

set_option maxRecDepth 100000 in
set_option maxHeartbeats 2000000 in
theorem idKeW (seed : Int) (lo : Option Addr) (lc : Nat) (sizes : List Int) (other : Int) (w : World) (_ : (Lit.int IntKind.i64 seed).wf = true) (sz : Sl w 1 lo sizes.length lc (sizes.map (.int .i64))) (_ : ∀ a ∈ sizes, (Lit.int IntKind.i64 a).wf = true) (_ : (Lit.int IntKind.i64 other).wf = true)
    (R : Ending → World → Prop) (hR : ∀ w', Grow w w' → R (.returned (.bool true)) w') :
    Calls Try.prog 4 #[.int .i64 seed, .slice lo sizes.length lc, .int .i64 other] w R := by
  have hml : maxLen = 9223372036854775807 := rfl
  have haw := awake10C
  have hks := sz.hle
  have hkm := sz.hcap
  by_cases hx1 : 20 < sizes.length
  · go_enter Try.func4, Try.ntmps4
    go_wp2_with fail
    refine haw _ _ ?_
    intro w2 g2
    have hf := hR w2 g2
    clear hR
    go_wp2_with fail
    exact hf
  have hg1 : decide (20 < (sizes.length : Int)) = false := decide_eq_false (by omega)
  have htc := alikeTapeC seed 2000 (by decide) w
  obtain ⟨N, hN⟩ : ∃ N, N = sizes.length := ⟨_, rfl⟩
  rw [← hN] at sz hks hg1 ⊢
  have HN := Lib.hid hN
  have kc := fun (w : World) (C : Array Value) (n c : Nat) => Lib.run_convert_bytes_const (P := Try.prog) w 27 5 C n c Try.underlying27 Try.underlying5
  have kc2 : ∀ (w : World) (o : Obj) (C : Array Value) (n c : Nat), (convert 27 27 (.slice (some ⟨w.heap.size + 1, 0, none⟩) n c)).run Try.prog ((w.alloc o).alloc (.cells C 5)) = .ok (.slice (some ⟨w.heap.size + 1, 0, none⟩) n c) ((w.alloc o).alloc (.cells C 5 (C.size, C.size + 1))) := fun w o C n c => by
    have := kc (w.alloc o) C n c
    rwa [show (w.alloc o).heap.size = w.heap.size + 1 by simp] at this
  clear hN hx1
  go_enter Try.func4, Try.ntmps4
  go_wp2_with fail
  refine htc _ ?_
  clear htc hg1
  intro ao c bs w1 hlen s1 g1
  have hb2 : (bs.map B).length = 2000 := by rw [List.length_map]; exact hlen
  have hc := tapeNew ao c (bs.map B) w1 (by rw [hb2]; exact s1) (by rw [hb2]; decide)
  rw [hb2] at hc
  clear s1
  go_wp2_with fail
  refine hc _ ?_
  clear hc
  intro t wf rb w3 ht g3 f3 _
  go_wp2_with fail
  refine newCi t wf rb bs w3 ht (tape_nodup ht) _ ?_
  clear ht
  intro p P K w4 hC g4 hp hP hK
  obtain ⟨fp, hC4, hf4⟩ := ci_new (g1.trans g3) (fun g hg => Nat.le_trans g1.size (f3 g hg)) hC hp hP hK
  have G4 := (g1.trans g3).trans g4
  clear hC hp hP hK g1 g3 g4 f3
  have hb5 : bs.length ≤ 50000 := by omega
  go_wp2_with fail
  go_loopw [9, 10] (fun va vi wr => ∃ (i : Nat) (s : IdS) (f2 : List Nat) (ks : List Kv) (had : List UInt8) (hl : Nat) (ao : Option Addr) (c : Nat), va = .slice ao hl c ∧ vi = .int .i64 (i : Int) ∧ i ≤ N ∧ Hid (hl = had.length) ∧ hl ≤ 99 ∧ Hid (hadS keX ks = had) ∧ s.a = hl ∧ Hid (∀ q ∈ kvA ks, q.1 = keX) ∧ CiS wr p t f2 bs s ks ∧ Grow w wr ∧ Hid (∀ g ∈ f2, w.heap.size ≤ g) ∧ Sl wr 1 ao hl c (had.map B) ∧ Hid (∀ g ∈ blk ao, g ∉ f2 ∧ g < wr.heap.size)) (fun _ vi _ => N - (intOf vi).toNat)
  case atStart => exact ⟨0, ⟨0, [], 0, 0⟩, fp, [], [], 0, none, 0, rfl, by simp, by omega, Lib.hid rfl, by omega, Lib.hid rfl, rfl, Lib.hid (by simp [kvA]), hC4, G4, Lib.hid hf4, Sl.none _ _, Lib.hid (by simp [blk])⟩
  case round =>
    clear hC4 G4 hf4
    obtain ⟨i, s, f2, ks, had, hl, ao, c, rfl, rfl, hi, hhl, hl99, hhad, hsa, hkv, hC, G, hf, sa, hab⟩ := hrel
    have hkl := sa.hle
    have hkm2 := sa.hcap
    by_cases hlt : i < N
    · obtain ⟨g1, off, eg, hcs⟩ := (sz.grow G).hat (by omega)
      subst eg
      obtain ⟨sv, hsv⟩ : ∃ v, sizes[i]? = some v := ⟨_, List.getElem?_eq_getElem (by rw [← HN.out]; exact hlt)⟩
      have c1 := hcs.at (i := i) (v := .int .i64 sv) (by rw [List.getElem?_map, hsv]; rfl)
      have hrc := roundC sv 100 (by decide) (by decide) wr
      have hrl := rnd_lt sv 100 (by decide)
      obtain ⟨n, hn⟩ : ∃ n, n = rnd sv 100 := ⟨_, rfl⟩
      rw [← hn] at hrc hrl
      have hl0 := leftCi hC hb5
      rw [hsa, hlen] at hl0
      have hL : ((2000 - hl : Nat) : Int) = 2000 - (hl : Int) := by omega
      rw [hL] at hl0
      clear hcs hsv hn
      go_wp2_with fail
      refine hrc _ ?_
      clear hrc c1
      go_wp2_with fail
      refine hl0 _ ?_
      clear hl0 hL
      intro w5 g5
      have hC5 := hC.grow g5
      have G5 := G.trans g5
      have sa5 := sa.grow g5
      have hz5 := g5.size
      have hab5 : Hid (∀ g ∈ blk ao, g ∉ f2 ∧ g < w5.heap.size) := Lib.hid (fun g hg => ⟨(hab.out g hg).1, Nat.lt_of_lt_of_le (hab.out g hg).2 hz5⟩)
      clear hC G g5 sa hab
      obtain ⟨la, lb, gl⟩ := litsTwo w5 [112] [115] 1 1 rfl rfl (by decide) (by decide) (1, 2) (1, 2)
      have hC6 := hC5.grow gl
      have G6 := G5.trans gl
      have sa6 := sa5.grow gl
      have hz6 := gl.size
      have hkey := fun R2 hR2 => idlKeyC (R := R2) hC6 hb5 ⟨#[119]⟩ _ _ [112] _ _ [115] 3 n la lb (by decide) (by decide) (by decide) (by decide) (by omega) (by rw [show (⟨str [112], str [115], ((3 : Nat) : Int)⟩ : Ask) = keX from rfl, hhad.out, ← hhl.out]; omega) hR2
      clear hC5 G5 sa5 la lb gl
      go_wp2_with fail
      refine hkey _ ⟨fun hle => ?_, fun h1 h2 => ?_, fun h1 h2 => ?_⟩
      · -- there is enough
        rw [show (⟨str [112], str [115], ((3 : Nat) : Int)⟩ : Ask) = keX from rfl, hhad.out, ← hhl.out] at hle
        intro bo d w7 ob g7 hbn
        rw [show (⟨str [112], str [115], ((3 : Nat) : Int)⟩ : Ask) = keX from rfl, hhad.out] at ob
        have hC7 := hC6.grow g7
        have G7 := G6.trans g7
        have sa7 := sa6.grow g7
        have hz7 := g7.size
        have hl1 := leftCi hC7 hb5
        rw [hsa, hlen] at hl1
        have hL : ((2000 - hl : Nat) : Int) = 2000 - (hl : Int) := by omega
        have hmx : (if (n : Int) - (hl : Int) < 0 then (0 : Int) else (n : Int) - (hl : Int)) = 0 := by split <;> omega
        have hmx2 : (if (0 : Int) < (n : Int) - (hl : Int) then (n : Int) - (hl : Int) else (0 : Int)) = 0 := by split <;> omega
        rw [hL] at hl1
        clear hL hkey hC6 G6 sa6
        go_wp2_with fail
        refine hl1 _ ?_
        clear hl1 hmx hmx2
        intro w8 g8
        have hC8 := hC7.grow g8
        have G8 := G7.trans g8
        have sa8 := sa7.grow g8
        have ob8 := ob.grow g8
        have hz8 := g8.size
        have hmn : (if (hl : Int) < (n : Int) then (hl : Int) else (n : Int)) = (n : Int) := by split <;> omega
        have hmn2 : (if (n : Int) < (hl : Int) then (n : Int) else (hl : Int)) = (n : Int) := by split <;> omega
        rw [← List.map_take] at ob8
        clear hC7 G7 sa7 ob g7 g8
        go_upto_region 17 with (fail)
        refine idKe17 ao hl c bo n d n hle (Nat.le_refl _) had (had.take n) (by rw [List.take_take, Nat.min_self]) w8 sa8 ob8.sl ?_
        intro w9 k9
        intros
        have hC9 := hC8.grow k9.grow
        have G9 := G8.trans k9.grow
        have sa9 := sa8.keep k9 (by simp)
        have hz9 := k9.size
        have hab9 : Hid (∀ g ∈ blk ao, g ∉ f2 ∧ g < w9.heap.size) := Lib.hid (fun g hg => ⟨(hab5.out g hg).1, by have := (hab5.out g hg).2; omega⟩)
        have hcp : decide ((hl : Int) < (n : Int)) = false := decide_eq_false (by omega)
        clear hC8 G8 sa8 ob8 k9 hmn hmn2 hab5
        go_wp2_with fail
        go_roundw
        case rel => exact ⟨i + 1, s, f2, ks, had, hl, ao, c, rfl, by go_num, by omega, hhl, hl99, hhad, hsa, hkv, hC9, G9, hf, sa9, hab9⟩
        case measure => simp [intOf]; omega
      · exfalso
        rw [show (⟨str [112], str [115], ((3 : Nat) : Int)⟩ : Ask) = keX from rfl, hhad.out, ← hhl.out] at h1 h2
        omega
      · rw [show (⟨str [112], str [115], ((3 : Nat) : Int)⟩ : Ask) = keX from rfl, hhad.out, ← hhl.out] at h1 h2
        intro bo d ks' fp' w7 ob hC7 hkv7 k7 in7 hbn hbd
        rw [show (⟨str [112], str [115], ((3 : Nat) : Int)⟩ : Ask) = keX from rfl, hhad.out, ← hhl.out] at ob hC7 hkv7
        obtain ⟨had', hh'⟩ : ∃ h, h = had ++ (bs.drop s.a).take (n - hl) := ⟨_, rfl⟩
        rw [← hh'] at ob hkv7
        have hlen' : had'.length = n := by rw [hh', List.length_append, List.length_take, List.length_drop, ← hhl.out]; omega
        have htk : had'.take hl = had := by rw [hh', List.take_left' hhl.out.symm]
        obtain ⟨G7, hf7⟩ := ci_step G6 hf.out k7 in7
        have sa7 := sa6.keep k7 (fun g hg => (hab5.out g hg).1)
        have hl1 := leftCi hC7 hb5
        rw [show (⟨s.a + (n - hl), s.S, s.cnt, s.ag⟩ : IdS).a = n by show s.a + (n - hl) = n; omega, hlen] at hl1
        have hL : ((2000 - n : Nat) : Int) = 2000 - (n : Int) := by omega
        rw [hL] at hl1
        have hsub : (2000 - (hl : Int)) - (2000 - (n : Int)) = (n : Int) - (hl : Int) := by omega
        have hmx : (if (n : Int) - (hl : Int) < 0 then (0 : Int) else (n : Int) - (hl : Int)) = (n : Int) - (hl : Int) := by split <;> omega
        have hmx2 : (if (0 : Int) < (n : Int) - (hl : Int) then (n : Int) - (hl : Int) else (0 : Int)) = (n : Int) - (hl : Int) := by split <;> omega
        have hhad' : Hid (hadS keX ks' = had') := Lib.hid (by unfold hadS; rw [hkv7, look_putM, if_pos rfl]; rfl)
        have hkv' : Hid (∀ q ∈ kvA ks', q.1 = keX) := Lib.hid (fun q hq => by
          rw [hkv7] at hq
          rcases mem_putM2 _ _ _ q hq with h | h
          · exact h
          · exact hkv.out q h)
        have hsa' : (⟨s.a + (n - hl), s.S, s.cnt, s.ag⟩ : IdS).a = n := by show s.a + (n - hl) = n; omega
        obtain ⟨s', hs'⟩ : ∃ s', s' = (⟨s.a + (n - hl), s.S, s.cnt, s.ag⟩ : IdS) := ⟨_, rfl⟩
        rw [← hs'] at hC7 hsa'
        have Hlen' := Lib.hid hlen'.symm
        have Htk := Lib.hid htk
        have hlo := ob.lt
        have Hhb : Hid (∀ g ∈ blk bo, g ∉ fp' ∧ g < w7.heap.size) := Lib.hid (fun g hg => ⟨hbd g hg, hlo g hg⟩)
        clear hL hkey hC6 G6 sa6 k7 in7 hbn hbd hkv7 hh' hlen' htk hs' h2 hlo
        go_wp2_with fail
        refine hl1 _ ?_
        clear hl1 hmx hmx2 hsub
        intro w8 g8
        have hC8 := hC7.grow g8
        have G8 := G7.trans g8
        have sa8 := sa7.grow g8
        have ob8 := ob.grow g8
        have hz8 := g8.size
        have hmn : (if (hl : Int) < (n : Int) then (hl : Int) else (n : Int)) = (hl : Int) := by split <;> omega
        have hmn2 : (if (n : Int) < (hl : Int) then (n : Int) else (hl : Int)) = (hl : Int) := by split <;> omega
        clear hC7 G7 sa7 ob g8
        go_upto_region 17 with (fail)
        refine idKe17 ao hl c bo n d hl (Nat.le_refl _) (by omega) had had' (by rw [Htk.out, List.take_of_length_le (by rw [← hhl.out]; exact Nat.le_refl _)]) w8 sa8 ob8.sl ?_
        intro w9 k9
        intros
        have hC9 := hC8.grow k9.grow
        have G9 := G8.trans k9.grow
        have ob9 := ob8.sl.keep k9 (by simp)
        have hz9 := k9.size
        have hab9 : Hid (∀ g ∈ blk bo, g ∉ fp' ∧ g < w9.heap.size) := Lib.hid (fun g hg => ⟨(Hhb.out g hg).1, by have := (Hhb.out g hg).2; omega⟩)
        have hcp : decide ((hl : Int) < (n : Int)) = true := decide_eq_true (by omega)
        clear hC8 G8 sa8 ob8 k9 hmn hmn2 hab5 Hhb
        go_wp2_with fail
        go_roundw
        case rel => exact ⟨i + 1, s', fp', ks', had', n, bo, d, rfl, by go_num, by omega, Hlen', by omega, hhad', hsa', hkv', hC9, G9, Lib.hid hf7, ob9, hab9⟩
        case measure => simp [intOf]; omega
    · obtain rfl : i = N := by omega
      have hrc := roundC other 3 (by decide) (by decide) wr
      have hrl := rnd_lt other 3 (by decide)
      obtain ⟨m, hm⟩ : ∃ m, m = rnd other 3 := ⟨_, rfl⟩
      rw [← hm] at hrc hrl
      have hl0 := leftCi hC hb5
      rw [hsa, hlen] at hl0
      have hL : ((2000 - hl : Nat) : Int) = 2000 - (hl : Int) := by omega
      rw [hL] at hl0
      have hho := had_other m ks hkv.out
      clear hm hL sa hab hhad hhl kc kc2
      go_wp2_with fail
      refine hrc _ ?_
      clear hrc
      go_upto_block 2 with (fail)
      refine idKeS m hrl wr ?_
      intros
      have hp3 : (keO m).1.length ≤ 1 ∧ (keO m).2.1.length ≤ 1 ∧ 1 ≤ (keO m).2.2 ∧ (keO m).2.2 ≤ 4 := by
        unfold keO
        split
        · decide
        · split <;> decide
      unfold keY at hho
      obtain ⟨ps, hps⟩ : ∃ x, x = (keO m).1 := ⟨_, rfl⟩
      obtain ⟨ss, hss⟩ : ∃ x, x = (keO m).2.1 := ⟨_, rfl⟩
      obtain ⟨rr, hrr⟩ : ∃ x, x = (keO m).2.2 := ⟨_, rfl⟩
      rw [← hps, ← hss, ← hrr] at hho hp3 ⊢
      clear hps hss hrr
      go_wp2_with fail
      refine hl0 _ ?_
      clear hl0
      intro w5 g5
      have hC5 := hC.grow g5
      have G5 := G.trans g5
      obtain ⟨pc, w6, hr6, sp6, g6⟩ := conv_str (P := Try.prog) (src := 9) (dst := 27) (e := 5) Try.underlying9 Try.underlying27 Try.underlying5 (str ps) ps rfl (by omega) w5
      obtain ⟨sc, w7, hr7, ss7, g7⟩ := conv_str (P := Try.prog) (src := 9) (dst := 27) (e := 5) Try.underlying9 Try.underlying27 Try.underlying5 (str ss) ss rfl (by omega) w6
      have sp7 := sp6.grow g7
      have hC7 := hC5.grow (g6.trans g7)
      have G7 := G5.trans (g6.trans g7)
      have hkey := fun R2 hR2 => idlKeyC (R := R2) hC7 hb5 ⟨#[119]⟩ _ _ ps _ _ ss rr 40 sp7 ss7 (by omega) (by omega) (by omega) (by omega) (by omega) (by rw [hho]; decide) hR2
      clear hC hC5 G G5 g5 sp6 g6 g7
      go_wp2_with fail
      refine hkey _ ⟨fun h => ?_, fun h1 h2 => ?_, fun _ _ => ?_⟩
      · exfalso
        rw [hho] at h
        simp at h
      · exfalso
        rw [hho] at h2
        simp at h2
        omega
      · intro bo d ks' fp' w8 ob hC8 _ k8 in8 _ _
        rw [hho] at hC8
        obtain ⟨G8, -⟩ := ci_step G7 hf.out k8 in8
        have hl1 := leftCi hC8 hb5
        rw [show bs.length - (⟨s.a + (40 - ([] : List UInt8).length), s.S, s.cnt, s.ag⟩ : IdS).a = 2000 - hl - 40 by show bs.length - (s.a + (40 - 0)) = _; omega] at hl1
        have hL : ((2000 - hl - 40 : Nat) : Int) = 2000 - (hl : Int) - 40 := by omega
        rw [hL] at hl1
        have hsub : (2000 - (hl : Int)) - (2000 - (hl : Int) - 40) = 40 := by omega
        clear hL hkey hC7 G7 k8 in8 hho ob hr6 hr7
        go_wp2_with fail
        refine hl1 _ ?_
        clear hl1
        intro w9 g9
        have G9 := G8.trans g9
        go_wp2_with fail
        refine haw _ _ ?_
        intro w10 g10
        have hfin := hR _ (G9.trans g10)
        clear hR
        go_wp2_with fail
        exact hfin
end Go.Proofs.Ytfmnkcmicbnfdaa
