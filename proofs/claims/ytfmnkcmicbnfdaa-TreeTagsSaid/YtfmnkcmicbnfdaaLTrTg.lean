/- The walk of TreeTags. -/
import Derived.Test.YtfmnkcmicbnfdaaHtAw
import Derived.Test.YtfmnkcmicbnfdaaBlksT
import Derived.Test.YtfmnkcmicbnfdaaGHt4
namespace Go.Proofs.Ytfmnkcmicbnfdaa
open Go Go.RowKit

theorem wl_short {n : Nat} (h1 : 1 ≤ n) (h2 : n ≤ 30) : (wl n).length ≤ 4 := by
  obtain ⟨k, hk, -, h⟩ := wl_reach n h1
  apply Classical.byContradiction
  intro hc
  have := h 3 (by omega)
  omega
theorem wid_nine {n : Nat} (h1 : 1 ≤ n) (h2 : n ≤ 30) : wid n 9 = 0 := by
  have e : wid n ((9 : Nat) : Int) = lw n 9 := wid_lw n 9 h1 (by omega)
  have : lw n 9 = 0 := by
    unfold lw
    rw [List.getD_eq_getElem?_getD, List.getElem?_eq_none (by have := wl_short h1 h2; omega)]
    rfl
  rw [this] at e
  exact e
theorem beside_end (n : Nat) (h1 : 1 ≤ n) (h2 : n ≤ 30) : beside n n = [] := by
  unfold beside
  have e : wid n ((0 : Nat) : Int) = lw n 0 := wid_lw n 0 h1 (by omega)
  have e' : wid n 0 = n := by rw [lw_zero] at e; exact e
  rw [if_pos (by rw [e']; omega)]
theorem wide_nat {n : Nat} (h1 : 1 ≤ n) (h2 : n ≤ 30) : wide n = wl n := by
  unfold wide
  rw [if_neg (by omega)]
  rfl

set_option maxRecDepth 100000 in
set_option maxHeartbeats 4000000 in
theorem trTgN (n : Nat) (hn1 : 1 ≤ n) (hn2 : n ≤ 30) (lo : Option Addr) (c : Nat) (l : List Ax) (x : Int) (w : World) (s : Sl w 3 lo l.length c (l.flatMap axV)) (hg : ∀ a ∈ l, axG w a)
    (R : Ending → World → Prop) (hR : ∀ w', Grow w w' → R (.returned (.bool true)) w') :
    Calls Try.prog 8 #[.int .i64 (n : Int), .slice lo l.length c, .int .i64 x] w R := by
  have hml : maxLen = 9223372036854775807 := rfl
  have haw := awake20C
  have hd1 : decide ((n : Int) < 1) = false := decide_eq_false (by omega)
  have hd2 : decide (30 < (n : Int)) = false := decide_eq_false (by omega)
  have hltl := s.ltZ (by omega)
  have hltx : ∀ a ∈ l, ∀ y ∈ bz a.text.length a.ta, y < w.heap.size := fun a ha => (hg a ha).st.ltZ (by omega)
  obtain ⟨m, hm⟩ : ∃ m, m = l.length := ⟨_, rfl⟩
  rw [← hm] at s hltl ⊢
  have hfew := few20C lo m c l hm w s hg
  have Hm := Lib.hid hm
  have Hg := Lib.hid hg
  have Hltx := Lib.hid hltx
  have HR := Lib.hid hR
  clear hm hg hltx hR
  go_enter Try.func8, Try.ntmps8
  go_wp2_with fail
  refine hfew _ ?_
  clear hfew
  intro b w1 hb g1
  cases b with
  | false =>
    go_wp2_with fail
    refine haw _ _ ?_
    intro w2 g2
    have hf := HR.out w2 (g1.trans g2)
    clear HR
    go_wp2_with fail
    exact hf
  | true =>
    obtain ⟨hm2, hx⟩ := hb rfl
    have Hx := Lib.hid hx
    clear hb hx hd1 hd2
    go_wp2_with fail
    refine newBkC _ _ ?_
    intro p w2 bk2 g2 hp
    have b2 : BkO w2 (.pointer (some ⟨p, 0, none⟩)) (p :: blk none) [] := .inr ⟨p, none, 0, 0, rfl, rfl, bk2⟩
    have hs1 := g1.size
    have G2 := g1.trans g2
    have hpl := playedC n hn1 hn2 lo m c l Hm.out hm2 Hx.out (.pointer (some ⟨p, 0, none⟩)) (cs0 := []) (by simp) w2 (s.grow G2) (fun a ha => (Hg.out a ha).grow G2) b2 (fun y hy hm => by have := hltl y hy; simp [blk] at hm; omega) (fun a ha y hy hm => by have := Hltx.out a ha y hy; simp [blk] at hm; omega)
    clear b2 bk2 s hltl g1 g2
    go_wp2_with fail
    refine hpl _ ?_
    clear hpl
    intro t g h T FP ds w3 P
    have G3 : Grow w w3 := G2.then P.kp (fun y hy => by simp [blk] at hy; omega)
    have htn := P.tn
    have hgn := P.gn
    have htl : t.L = (wl t.n).length := by rw [P.tl, htn]
    have agr := P.agr
    have htg := P.tg
    have htx : ∀ i, ((playX n l).1 i).length ≤ 1000 := fun i => by have := P.txl i; omega
    have hht := P.hb.ht
    obtain ⟨lv, hlv⟩ : ∃ lv, lv = lvD lawK (playX n l).1 (playX n l).2 := ⟨_, rfl⟩
    have hnA := fun w' (gr : Grow w3 w') => nodeTC (hht.grow gr) htl (by omega) (by omega)
    have hnB := fun w' (gr : Grow w3 w') => rNodeC g lawK lawK_len _ htx _ (by omega) (by omega) (htg.grow gr)
    have hrA := fun w' (gr : Grow w3 w') => rootTC (hht.grow gr) htl (by omega) (by omega)
    have hrB := fun w' (gr : Grow w3 w') => rRootC g lawK lawK_len _ htx _ (by omega) (by omega) (htg.grow gr)
    have hlA := fun w' (gr : Grow w3 w') => leafTC (hht.grow gr) htl (by omega) (by omega)
    have hpA := fun w' (gr : Grow w3 w') => proofTC (hht.grow gr) htl (by omega) (by omega)
    have hpB := fun w' (gr : Grow w3 w') => rProofC g lawK lawK_len _ htx _ (by omega) (by omega) (htg.grow gr)
    have hszA := fun w' (gr : Grow w3 w') => sizeTC (hht.grow gr) (by rw [htl]; exact wl_pos _)
    have hag := fun (a b : Int) => nodeA_agr agr hn1 (by omega) P.tl a b
    have hag2 := rootA_agr agr hn1 (by omega) P.tl
    have hag3 := fun ls => proofA_agr agr hn1 (by omega) P.tl ls
    simp only [← hlv, htn, hgn, hag, hag2, hag3] at hnA hnB hrA hrB hlA hpA hpB hszA
    obtain ⟨D, hD⟩ : ∃ D, D = nd lawK n lv := ⟨_, rfl⟩
    simp only [← hD] at hnA hnB hrA hrB hlA hpA hpB
    clear P hht htg htx agr hag hag2 hag3 hlv hD htn hgn htl G2
    have hwd := fun (lvl : Int) => widthC (n : Int) lvl (by simp [Lit.wf, IntKind.min, IntKind.max, IntKind.signed, IntKind.bits]; omega)
    have hlv := levelsC (n : Int) (by simp [Lit.wf, IntKind.min, IntKind.max, IntKind.signed, IntKind.bits]; omega)
    rw [wide_nat hn1 hn2] at hlv
    have hLs := wl_short hn1 hn2
    obtain ⟨L, hL⟩ : ∃ L, L = (wl n).length := ⟨_, rfl⟩
    rw [← hL] at hlv hLs
    have HL := Lib.hid hL
    clear hL
    go_wp2_with fail
    go_loopw [10] (fun vl wr => ∃ i : Nat, vl = .int .i64 (i : Int) ∧ i ≤ L ∧ Grow w3 wr) (fun vl _ => L - (intOf vl).toNat)
    case atStart => exact ⟨0, by simp, by omega, Grow.refl _⟩
    case round =>
      obtain ⟨i, rfl, hi, gr⟩ := hrel
      go_wp2_with fail
      refine hlv _ _ ?_
      intro w4 g4
      have G4 := gr.trans g4
      clear gr g4
      by_cases hlt : i < L
      · have hdl : decide ((i : Int) < (L : Int)) = true := decide_eq_true (by omega)
        go_wp2_with fail
        go_loopw [11] (fun vl wr => ∃ j : Nat, vl = .int .i64 (j : Int) ∧ j ≤ wid n i ∧ Grow w3 wr) (fun vl _ => wid n i - (intOf vl).toNat)
        case atStart => exact ⟨0, by simp, by omega, G4⟩
        case round =>
          clear G4
          obtain ⟨j, rfl, hj, gr⟩ := hrel
          have hww := hwd i wr
          have hwl := wid_le n i
          obtain ⟨wd, hwd0⟩ : ∃ wd, wd = wid n i := ⟨_, rfl⟩
          rw [← hwd0] at hww hj hwl
          have Hwd := Lib.hid hwd0
          clear hwd0
          go_wp2_with fail
          refine hww _ ?_
          clear hww
          intro w5 g5
          have G5 := gr.trans g5
          clear gr g5
          by_cases hlj : j < wd
          · have hdj : decide ((j : Int) < (wd : Int)) = true := decide_eq_true (by omega)
            have ha := hnA w5 G5 i j
            obtain ⟨V, hV⟩ : ∃ V, V = nodeA n D i j := ⟨_, rfl⟩
            have hb := fun w' (gr : Grow w5 w') => hnB w' (G5.trans gr) i j
            rw [← hV] at ha
            simp only [← hV] at hb
            have heq := eq_blk V.b V.b V.h V.h
            rw [beq_self_eq_true] at heq
            obtain ⟨X, hX⟩ : ∃ X, X = (V.b.map B).toArray := ⟨_, rfl⟩
            simp only [← hX] at ha hb heq
            clear hV hX
            go_wp2_with fail
            refine ha _ ?_
            clear ha
            intro w6 g6
            have hb6 := hb w6 g6
            clear hb
            go_wp2_with fail
            refine hb6 _ ?_
            clear hb6
            intro w7 g7
            have G7 := (G5.trans g6).trans g7
            go_wp2_with fail
            go_roundw
            case rel => exact ⟨j + 1, by go_num, by rw [← Hwd.out]; omega, G7⟩
            case measure => have := Hwd.out; simp [intOf]; omega
          · have hdj : decide ((j : Int) < (wd : Int)) = false := decide_eq_false (by omega)
            go_wp2_with fail
            go_roundw
            case rel => exact ⟨i + 1, by go_num, by omega, G5⟩
            case measure => simp [intOf]; omega
      · have hdl : decide ((i : Int) < (L : Int)) = false := decide_eq_false (by omega)
        have hrd := roundC x n (by omega) (by omega)
        have hrl := rnd_lt x n (by omega)
        obtain ⟨k, hk⟩ : ∃ k, k = rnd x n := ⟨_, rfl⟩
        rw [← hk] at hrd hrl
        clear hk
        go_wp2_with fail
        refine hrd _ _ ?_
        clear hrd
        clear hwd hlv
        have hz := hszA w4 G4
        clear hszA
        go_wp2_with fail
        refine hz _ ?_
        clear hz
        obtain ⟨V, hV⟩ : ∃ V, V = rootA n D := ⟨_, rfl⟩
        simp only [← hV] at hrA hrB
        have heq := eq_blk V.b V.b V.h V.h
        rw [beq_self_eq_true] at heq
        obtain ⟨X, hX⟩ : ∃ X, X = (V.b.map B).toArray := ⟨_, rfl⟩
        simp only [← hX] at hrA hrB heq
        have ha := hrA w4 G4
        clear hV hX hrA
        go_wp2_with fail
        refine ha _ ?_
        clear ha
        intro w5 g5
        have G5 := G4.trans g5
        have ha := hrB w5 G5
        clear hrB G4 g5
        go_wp2_with fail
        refine ha _ ?_
        clear ha
        intro w6 g6
        have G6 := G5.trans g6
        have ha := hlA w6 G6 k
        clear hlA G5 g6
        have hb := fun w' (gr : Grow w6 w') => hnB w' (G6.trans gr) 0 k
        obtain ⟨V2, hV2⟩ : ∃ V, V = nodeA n D 0 k := ⟨_, rfl⟩
        simp only [← hV2] at ha hb
        have heq2 := eq_blk V2.b V2.b V2.h V2.h
        rw [beq_self_eq_true] at heq2
        obtain ⟨X2, hX2⟩ : ∃ X, X = (V2.b.map B).toArray := ⟨_, rfl⟩
        simp only [← hX2] at ha hb heq2
        clear hV2 hX2 hnB
        go_wp2_with fail
        refine ha _ ?_
        clear ha
        intro w7 g7
        have G7 := G6.trans g7
        have hb7 := hb w7 g7
        clear hb G6 g7
        go_wp2_with fail
        refine hb7 _ ?_
        clear hb7
        intro w8 g8
        have G8 := G7.trans g8
        have ha := hpA w8 G8 k
        have hb := fun w' (gr : Grow w8 w') => hpB w' (G8.trans gr) k
        obtain ⟨Q, hQ⟩ : ∃ Q, Q = proofA n D (beside n k) := ⟨_, rfl⟩
        simp only [← hQ] at ha hb
        clear hQ hpB G7 g8
        go_wp2_with fail
        refine ha _ ?_
        clear ha
        intro ao n9 c9 w9 hn9 o9 g9 _
        have hb9 := hb w9 g9
        have G9 := G8.trans g9
        have Hn9 := Lib.hid hn9
        clear hb G8 g9 hn9
        go_wp2_with fail
        refine hb9 _ ?_
        clear hb9
        intro bo n10 c10 w10 hn10 o10 g10 _
        obtain rfl : n10 = n9 := hn10.trans Hn9.out.symm
        have o9' := o9.grow g10
        have G10 := G9.trans g10
        have hbl := blocksC ao n10 c9 bo c10 Q Hn9.out w10 o9'.sl o10.sl
        clear o9 o10 o9' hn10 G9 g10 Hn9
        go_wp2_with fail
        refine hbl _ ?_
        clear hbl
        intro w11 g11
        have G11 := G10.trans g11
        have ha := hpA w11 G11 n
        rw [beside_end n hn1 hn2] at ha
        have ha2 : ∀ (R : Ending → World → Prop), (∀ ao c w', Grow w11 w' → R (.returned (.slice ao 0 c)) w') → Calls Try.prog 34 #[.pointer (some ⟨t.p, 0, none⟩), .int .i64 (n : Int)] w11 R := fun R hR => ha R fun ao n1 c w' hn _ g _ => by
          obtain rfl : n1 = 0 := hn
          exact hR ao c w' g
        clear ha hpA G10 g11
        go_wp2_with fail
        refine ha2 _ ?_
        clear ha2
        intro ao2 c2 w12 g12
        have G12 := G11.trans g12
        have ha := hnA w12 G12 9 0
        rw [nodeA_out n D 9 0 (by rw [wid_nine hn1 hn2]; omega)] at ha
        have eq0 := eqB0 B0
        rw [beq_self_eq_true] at eq0
        obtain ⟨V0, hV0⟩ : ∃ V, V = (B0.b.map B).toArray := ⟨_, rfl⟩
        rw [← hV0] at ha eq0
        clear hV0 hnA G11 g12
        go_wp2_with fail
        refine ha _ ?_
        clear ha
        intro w13 g13
        have G13 := G12.trans g13
        clear G12 g13
        go_wp2_with fail
        refine haw _ _ ?_
        intro w14 g14
        have hf := HR.out w14 (G3.trans (G13.trans g14))
        clear HR haw
        go_wp2_with fail
        exact hf

set_option maxRecDepth 100000 in
set_option maxHeartbeats 2000000 in
theorem trTgW (n0 : Int) (lo : Option Addr) (c : Nat) (l : List Ax) (x : Int) (w : World) (_ : (Lit.int .i64 n0).wf = true) (s : Sl w 3 lo l.length c (l.flatMap axV)) (hg : ∀ a ∈ l, axG w a) (_ : (Lit.int .i64 x).wf = true)
    (R : Ending → World → Prop) (hR : ∀ w', Grow w w' → R (.returned (.bool true)) w') :
    Calls Try.prog 8 #[.int .i64 n0, .slice lo l.length c, .int .i64 x] w R := by
  have haw := awake20C
  by_cases hx1 : n0 < 1
  · go_enter Try.func8, Try.ntmps8
    go_wp2_with fail
    refine haw _ _ ?_
    intro w2 g2
    have hf := hR w2 g2
    clear hR
    go_wp2_with fail
    exact hf
  have hg1 : decide (n0 < 1) = false := decide_eq_false (by omega)
  by_cases hx2 : 30 < n0
  · go_enter Try.func8, Try.ntmps8
    go_wp2_with fail
    refine haw _ _ ?_
    intro w2 g2
    have hf := hR w2 g2
    clear hR
    go_wp2_with fail
    exact hf
  have hg2 : decide (30 < n0) = false := decide_eq_false (by omega)
  obtain ⟨n, rfl⟩ : ∃ n : Nat, n0 = n := ⟨n0.toNat, by omega⟩
  exact trTgN n (by omega) (by omega) lo c l x w s hg R hR
end Go.Proofs.Ytfmnkcmicbnfdaa
