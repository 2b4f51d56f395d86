/- The walk of ClaimsHonest. -/
import Derived.Test.YtaepfkpfageiaaaLClHo3
namespace Go.Proofs.Ytaepfkpfageiaaa
open Go Go.RowKit

theorem hoS_key (key : List UInt8) (ls : List (List UInt8)) (c : Clm) (h : c ∈ hoS key ls) : c.key = key := by
  obtain ⟨t, ht, hc⟩ := List.mem_flatMap.1 h
  simp only [List.mem_cons, List.not_mem_nil, or_false] at hc
  rcases hc with rfl | rfl <;> rfl

set_option maxRecDepth 100000 in
set_option maxHeartbeats 2000000 in
theorem clHoW (a0 : Option Addr) (c0 : Nat) (key : List UInt8) (lo : Option Addr) (cap : Nat) (ls : List (List UInt8)) (drop : Int) (w : World) (s0 : Sl w 1 a0 key.length c0 (key.map B)) (vs : List Value) (h : Sl w 1 lo ls.length cap vs ∧ Pt w vs ls) (_ : (Lit.int IntKind.i64 drop).wf = true)
    (R : Ending → World → Prop) (hR : ∀ w', Grow w w' → R (.returned (.bool true)) w') :
    Calls Try.prog 16 #[.slice a0 key.length c0, .slice lo ls.length cap, .int .i64 drop] w R := by
  have hml : maxLen = 9223372036854775807 := rfl
  have haw := awake12C
  obtain ⟨s1, pt⟩ := h
  have hm0 := s0.hcap
  have hn0 := s0.hle
  have hm1 := s1.hcap
  have hn1 := s1.hle
  by_cases hx1 : 100 < key.length
  · go_enter Try.func16, Try.ntmps16
    go_wp2_with fail
    refine haw _ _ ?_
    intro w2 g2
    have hf := hR w2 g2
    clear hR
    go_wp2_with fail
    exact hf
  have hg1 : decide (100 < (key.length : Int)) = false := decide_eq_false (by omega)
  by_cases hz : ls.length = 0
  · rw [hz] at s1 ⊢
    go_enter Try.func16, Try.ntmps16
    go_wp2_with fail
    refine haw _ _ ?_
    intro w2 g2
    have hf := hR w2 g2
    clear hR
    go_wp2_with fail
    exact hf
  have hz2 : (((ls.length : Nat) : Int) == 0) = false := by simpa using hz
  by_cases hhi : 12 < ls.length
  · go_enter Try.func16, Try.ntmps16
    go_wp2_with fail
    refine haw _ _ ?_
    intro w2 g2
    have hf := hR w2 g2
    clear hR
    go_wp2_with fail
    exact hf
  have hg3 : decide (12 < (ls.length : Int)) = false := decide_eq_false (by omega)
  have hsc := shortC lo cap vs ls 800 (by omega) w s1 pt
  have hnew := newBkC
  have hrl := rnd_lt drop ls.length (by omega)
  have hrc := roundC drop ls.length (by omega) (by omega)
  obtain ⟨k, hk⟩ : ∃ k, k = rnd drop ls.length := ⟨_, rfl⟩
  rw [← hk] at hrl hrc
  have hyk : ls[k]? = some (ls[k]'hrl) := List.getElem?_eq_getElem hrl
  obtain ⟨y, hy⟩ : ∃ y, y = ls[k]'hrl := ⟨_, rfl⟩
  rw [← hy] at hyk
  obtain ⟨N, hN⟩ : ∃ N, N = key.length := ⟨_, rfl⟩
  obtain ⟨n, hn⟩ : ∃ N, N = ls.length := ⟨_, rfl⟩
  have hNl : N ≤ 100 := by omega
  have hnl : n ≤ 12 := by omega
  have hkn : k < n := by omega
  simp only [← hN, ← hn] at s0 s1 hg1 hz2 hg3 hrc hsc ⊢
  have HN := Lib.hid hN
  have Hn := Lib.hid hn
  have Hy := Lib.hid hy
  have Hrc := Lib.hid hrc
  clear hN hn hx1 hz hhi hk hy hrc
  go_enter Try.func16, Try.ntmps16
  go_wp2_with fail
  refine hsc _ ?_
  clear hsc
  intro b w1 hb g1
  cases b with
  | false =>
    go_wp2_with fail
    refine haw _ _ ?_
    intro w2 g2
    have hf := hR w2 (g1.trans g2)
    clear hR
    go_wp2_with fail
    exact hf
  | true =>
    have hls : ∀ t ∈ ls, t.length ≤ 800 := fun t ht => by
      have h1 := hb rfl
      have h2 : t.length ≤ ls.flatten.length := (List.sublist_flatten_of_mem ht).length_le
      omega
    clear hb hm0 hn0 hm1 hn1 hg1 hg3
    go_wp2_with fail
    refine hnew _ _ ?_
    clear hnew
    intro p w2 bk2 g2 hp
    have G2 := g1.trans g2
    have hp2 : w.heap.size ≤ p := Nat.le_trans g1.size hp
    clear g1 g2 hp
    go_upto_block 0 with (fail)
    refine clHo0 p a0 N c0 key lo n cap vs ls HN hNl Hn hnl hls w w2 s0 s1 pt G2 bk2 hp2 ?_
    intro ao c w4 bk4 G4
    intros
    have hc := allC p ao (2 * n) c (hoS key ls) w4 bk4 (by omega)
    have hcl : 2 * n = (hoS key ls).length := by rw [hoS_len, Hn.out]
    have hfit : ∀ c ∈ hoS key ls, c.fit := fun c hc => by
      obtain ⟨t, ht, hx⟩ := hoS_mem key ls c hc
      have h2 := hls t ht
      refine ⟨?_, ?_⟩
      · rw [hoS_key key ls c hc, ← HN.out]
        omega
      · rw [hx, framS_len]
        simp
        omega
    have hfc := fun ao c w s R (hR : ∀ w', Grow w w' → R (.returned (.bool false)) w') => forgedC ao (2 * n) c (hoS key ls) hcl hfit w s R (by rw [hoS_ok]; exact hR)
    have hlost : firN ls y k n = true → forgedS ((hoS key ls).take (2 * k) ++ (hoS key ls).drop (2 * k + 1)) = true := fun e => by
      refine hoS_lost key ls k hrl (fun t ht => by have := hls t ht; omega) (fun i hi => ?_)
      have := firN_all ls y k n e i (by rw [Hn.out]; exact hi)
      rw [Hy.out] at this
      simpa [hi] using this
    obtain ⟨cs, hcs⟩ : ∃ cs, cs = hoS key ls := ⟨_, rfl⟩
    obtain ⟨m, hm⟩ : ∃ m, m = 2 * n := ⟨_, rfl⟩
    have hmi : ((m : Nat) : Int) = 2 * (n : Int) := by omega
    rw [← hm] at hcl
    simp only [← hcs, ← hm] at hc hfc hlost hcl hfit
    have Hlost := Lib.hid hlost
    have Hfit := Lib.hid hfit
    have Hcl := Lib.hid hcl
    have Hls := Lib.hid hls
    clear hcs bk4 hls hfit hcl hlost bk2 G2 hp2 hm
    go_wp2_with fail
    refine hc _ ?_
    clear hc
    intro a5 c5 w5 o5 g5 _
    have hc := hfc a5 c5 w5 o5.sl
    have G5 := G4.trans g5
    clear hfc G4 g5
    go_wp2_with fail
    refine hc _ ?_
    clear hc
    intro w6 g6
    have o6 := o5.grow g6
    have G6 := G5.trans g6
    clear o5 G5 g6
    go_wp2_with fail
    refine Hrc.out _ _ ?_
    go_upto_block 2 with (fail)
    refine clHo2 lo n cap k vs ls y Hn hnl hkn hyk w6 (s1.grow G6) (pt.grow G6) ?_
    intro w7 g7
    intros
    have o7 := o6.keep g7 (by simp)
    have G7 := G6.trans g7.grow
    obtain ⟨b, hb⟩ : ∃ b, b = firN ls y k n := ⟨_, rfl⟩
    rw [← hb]
    have hl := Hlost.out
    rw [← hb] at hl
    clear hb o6 G6 g7 Hlost
    cases b with
    | false =>
      clear hl
      go_wp2_with fail
      refine haw _ _ ?_
      intro w8 g8
      have hf := hR w8 (G7.trans g8)
      clear hR
      go_wp2_with fail
      exact hf
    | true =>
      have hl := hl rfl
      go_upto_region 23 with (fail)
      refine clHo23 a5 m c5 k cs Hcl.out (by omega) (by omega) Hfit.out hl w7 o7.sl ?_
      intro w8 g8
      intros
      have hf := hR _ (G7.trans g8)
      clear hR
      go_wp2_with fail
      exact hf
end Go.Proofs.Ytaepfkpfageiaaa
