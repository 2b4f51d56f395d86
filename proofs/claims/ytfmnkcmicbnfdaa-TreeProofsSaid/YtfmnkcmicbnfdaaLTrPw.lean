/- The walk of TreeProofs. -/
import Derived.Test.YtfmnkcmicbnfdaaLTrPs
namespace Go.Proofs.Ytfmnkcmicbnfdaa
open Go Go.RowKit

set_option maxRecDepth 100000 in
set_option maxHeartbeats 16000000 in
theorem trPwN (n : Nat) (hn1 : 1 ≤ n) (hn2 : n ≤ 30) (lo : Option Addr) (c : Nat) (l : List Ax) (x : Int) (ta : Option Addr) (tc : Nat) (text : List UInt8) (xat xby : Int) (w : World) (s : Sl w 3 lo l.length c (l.flatMap axV)) (hg : ∀ a ∈ l, axG w a) (st : Sl w 1 ta text.length tc (text.map B))
    (R : Ending → World → Prop) (hR : ∀ w', Grow w w' → R (.returned (.bool true)) w') :
    Calls Try.prog 9 #[.int .i64 (n : Int), .slice lo l.length c, .int .i64 x, .slice ta text.length tc, .int .i64 xat, .int .i64 xby] w R := by
  have hml : maxLen = 9223372036854775807 := rfl
  have haw := awake20C
  have hd1 : decide ((n : Int) < 1) = false := decide_eq_false (by omega)
  have hd2 : decide (30 < (n : Int)) = false := decide_eq_false (by omega)
  have hltl := s.ltZ (by omega)
  have hltt := st.ltZ (by omega)
  have hltx : ∀ a ∈ l, ∀ y ∈ bz a.text.length a.ta, y < w.heap.size := fun a ha => (hg a ha).st.ltZ (by omega)
  obtain ⟨m, hm⟩ : ∃ m, m = l.length := ⟨_, rfl⟩
  rw [← hm] at s hltl ⊢
  have hfew := few20C lo m c l hm w s hg
  obtain ⟨tn, htn⟩ : ∃ tn, tn = text.length := ⟨_, rfl⟩
  rw [← htn] at st hltt ⊢
  have Htn := Lib.hid htn
  have Hm := Lib.hid hm
  have Hg := Lib.hid hg
  have Hltx := Lib.hid hltx
  have HR := Lib.hid hR
  clear hm hg hltx hR htn
  go_enter Try.func9, Try.ntmps9
  go_wp2_with fail
  refine hfew _ ?_
  clear hfew
  intro b w1 hb g1
  cases b with
  | false =>
    go_wp2_with fail
    refine haw _ _ ?_
    intro w2 g2
    have hf := HR.out w2 (g1.trans g2)
    clear HR
    go_wp2_with fail
    exact hf
  | true =>
    obtain ⟨hm2, hx⟩ := hb rfl
    have Hx := Lib.hid hx
    clear hb hx hd1 hd2
    by_cases ht2 : tn ≤ 200
    case neg =>
      have hdt : decide (200 < (tn : Int)) = true := decide_eq_true (by omega)
      go_wp2_with fail
      refine haw _ _ ?_
      intro w2 g2
      have hf := HR.out w2 (g1.trans g2)
      clear HR
      go_wp2_with fail
      exact hf
    case pos =>
    have hdt : decide (200 < (tn : Int)) = false := decide_eq_false (by omega)
    go_wp2_with fail
    refine newBkC _ _ ?_
    intro p w2 bk2 g2 hp
    have b2 : BkO w2 (.pointer (some ⟨p, 0, none⟩)) (p :: blk none) [] := .inr ⟨p, none, 0, 0, rfl, rfl, bk2⟩
    have hs1 := g1.size
    have G2 := g1.trans g2
    have hpl := playedC n hn1 hn2 lo m c l Hm.out hm2 Hx.out (.pointer (some ⟨p, 0, none⟩)) (cs0 := []) (by simp) w2 (s.grow G2) (fun a ha => (Hg.out a ha).grow G2) b2 (fun y hy hm => by have := hltl y hy; simp [blk] at hm; omega) (fun a ha y hy hm => by have := Hltx.out a ha y hy; simp [blk] at hm; omega)
    clear b2 bk2 g1 g2 hdt s
    go_wp2_with fail
    refine hpl _ ?_
    clear hpl
    intro t g h T FP ds w3 P
    have G3 : Grow w w3 := G2.then P.kp (fun y hy => by simp [blk] at hy; omega)
    have hG2 := G2.size
    have hFP : ∀ y ∈ FP, w.heap.size ≤ y := fun y hy => by
      rcases P.fin y hy with h | h
      · simp [blk] at h; omega
      · omega
    have hga : ∀ y ∈ g.all, y ∉ FP := fun y hy hm => (P.ga y hy).2.1 (List.mem_append_right _ hm)
    have hgn := P.gn
    have htb := P.tb
    have htk := P.tk
    have htl : t.L = (wl t.n).length := by rw [P.tl, P.tn]
    have htn := P.tn
    have hdl : ([] ++ ds).length ≤ 3000 := by have := P.len; have := Hm.out; rw [List.nil_append]; omega
    have hagr := P.agr
    have htl0 := P.tl
    have hhb := P.hb
    have htg := P.tg
    have htx : ∀ i, ((playX n l).1 i).length ≤ 1000 := fun i => by have := P.txl i; omega
    have hhh := P.hh
    obtain ⟨tx, etx⟩ : ∃ tx, tx = (playX n l).1 := ⟨_, rfl⟩
    obtain ⟨hs, ehs⟩ : ∃ hs, hs = (playX n l).2 := ⟨_, rfl⟩
    rw [← etx, ← ehs] at hagr htg
    rw [← etx] at htx
    rw [← ehs] at hhh
    obtain ⟨cs, hcs⟩ : ∃ cs, cs = [] ++ ds := ⟨_, rfl⟩
    rw [← hcs] at hhb hdl
    have hrd := roundC x n (by omega) (by omega)
    have hrl := rnd_lt x n (by omega)
    obtain ⟨k, hk⟩ : ∃ k, k = rnd x n := ⟨_, rfl⟩
    rw [← hk] at hrd hrl
    have Agr := Lib.hid hagr
    have Hhh := Lib.hid hhh
    have Htk := Lib.hid htk
    have Htl0 := Lib.hid htl0
    clear P etx ehs G2 hcs hk hp hs1 hG2 hagr hhh htk htl0
    go_wp2_with fail
    refine hrd _ _ ?_
    clear hrd
    have htn1 : 1 ≤ t.n := by omega
    have htn2 : t.n ≤ 1000 := by omega
    have hpf := proofTC hhb.ht htl htn1 htn2 k
    rw [htn, proofA_agr Agr.out (by omega) (by omega) Htl0.out] at hpf
    obtain ⟨Pf, hPf⟩ : ∃ P, P = proofA n (nd lawK n (lvD lawK tx hs)) (beside n k) := ⟨_, rfl⟩
    have hps : Pf.length ≤ 20000 := by rw [hPf]; exact proofA_small n _ _ (by omega)
    rw [← hPf] at hpf
    have HPf := Lib.hid hPf
    clear hPf
    go_wp2_with fail
    refine hpf _ ?_
    clear hpf
    intro po pn pc w5 hpn po5 g5 fp5
    have hFb := hhb.bk.lt
    have Hpn := Lib.hid hpn
    have hpn2 : pn ≤ 20000 := by omega
    have hnew := rNewC
    clear hpn
    go_wp2_with fail
    refine hnew _ _ ?_
    clear hnew
    intro ph w6 sm6 g6 hph6
    have G6 := g5.trans g6
    have q : Pq w w6 t g h T tx hs FP cs po pn pc Pf := { hb := hhb.grow G6, tg := htg.grow G6, gr := G3.trans G6, fr := hFP, ga := hga, pr := po5.grow g6, pf := fun y hy hm => by have := fp5 y hy; have := hFb y hm; omega }
    have hph : ph ∉ FP := fun hm => by have := hFb ph hm; have := g5.size; omega
    have hphl := sm6.lt
    obtain ⟨RT, hRT⟩ : ∃ RT, RT = rootA n (nd lawK n (lvD lawK tx hs)) := ⟨_, rfl⟩
    have hRT1 : RT = rootA t.n T := by rw [hRT, htn, rootA_agr Agr.out (by omega) (by omega) Htl0.out]
    have hRT2 : RT = rootA g.n (nd lawK g.n (lvD lawK tx hs)) := by rw [hgn, hRT]
    have hP2 : Pf = proofA g.n (nd lawK g.n (lvD lawK tx hs)) (beside g.n (k : Int)) := by rw [hgn, HPf.out]
    obtain ⟨v, hv⟩ : ∃ v, v = verS lawK n k text RT Pf := ⟨_, rfl⟩
    have htxt : text.length ≤ 1000 := by rw [← Htn.out]; omega
    have hT0 : hs k = true → T 0 k = leafT lawK k (tx k) := fun hh => by
      have := Agr.out 0 (by rw [Htl0.out]; exact wl_pos n) k (by rw [lw_zero]; exact hrl)
      rw [nd_zero] at this
      unfold lvD at this
      rw [if_pos hh] at this
      exact this
    have hown : hs k = true → true = verS lawK n k (tx k) RT Pf := fun hh => by
      have := verS_own lawK n k (lvD lawK tx hs) (tx k) hn1 (by omega) hrl
      rw [show lvD lawK tx hs k = leafT lawK k (tx k) by unfold lvD; rw [if_pos hh], beq_self_eq_true] at this
      rw [hRT, HPf.out, this]
    have HRT1 := Lib.hid hRT1
    have HRT2 := Lib.hid hRT2
    have HP2 := Lib.hid hP2
    have Hv := Lib.hid hv
    have HT0 := Lib.hid hT0
    have Hown := Lib.hid hown
    have Htx := Lib.hid htx
    clear hRT hRT1 hRT2 hP2 hv hT0 hown htx hhb htg po5 g5 fp5 g6 hph6 G6 hFP hga hFb
    have hrest : ∀ (FP7 : List Nat) (cs7 : List Clm) (w7 : World), Pq w w7 t g h T tx hs FP7 cs7 po pn pc Pf → cs7.length ≤ 5000 → Keep FP w6 w7 → (∀ y ∈ FP7, y ∈ FP ∨ w6.heap.size ≤ y) → Sm w7 ph Hs Ks ∧ ph ∉ FP7 := fun FP7 cs7 w7 _ _ K inn => ⟨⟨sm6.1.keep K hph, sm6.2⟩, fun hm => by
      rcases inn ph hm with h | h
      · exact hph h
      · omega⟩
    have Hrest := Lib.hid hrest
    clear hrest
    go_upto_region 10 with (fail)
    refine trPr10 w t g po pn pc Pf htb n k (by omega) hrl htl htn hgn Htk.out Htx.out (by omega) RT ta tn tc text htxt st Hpn.out (by omega) HRT1.out HRT2.out HP2.out v Hv.out hltt (Hhh.out k hrl) HT0.out ph w6 q sm6 hph ?_
    intro FP7 cs7 w7 q7 hl7 K7 in7
    intros
    obtain ⟨sm7, hph7⟩ := Hrest.out FP7 cs7 w7 q7 (by omega) K7 in7
    clear q sm6 hph K7 in7 Hrest HT0 HRT2 HP2 Hv v htxt haw hltt
    go_upto_region 12 with (fail)
    refine trPr12 w t g po pn pc Pf htb n k (by omega) hrl htl htn hgn Htx.out (by omega) RT Hpn.out (by omega) HRT1.out Hown.out w7 q7 ?_
    intro FP8 cs8 w8 q8 hl8 K8 in8
    intros
    have sm8 : Sm w8 ph Hs Ks := ⟨sm7.1.keep K8 hph7, sm7.2⟩
    have hph8 : ph ∉ FP8 := fun hm => by
      rcases in8 ph hm with h | h
      · exact hph7 h
      · have := sm7.lt; omega
    have hFb8 := q8.hb.bk.lt
    have o0 : Own (w8.alloc (.cells #[] 33)) 33 16 (some ⟨w8.heap.size, 0, none⟩) 0 0 [] := Own.made (n := 0) (heap_alloc_new w8 _) rfl (by decide) (by simp)
    have g0 := Grow.alloc w8 (.cells #[] 33)
    have sp0 := (q8.pr.grow g0).sl
    clear q7 sm7 K8 in8 hph7 Hown
    go_upto_region 15 with (at_builtin; refine wpList_app TBl rfl rfl o0 sp0 (by omega) (by omega) ?_; intro ao1 cap1 w9 o7 _ kp blk1; simp only [Nat.zero_add, List.nil_append] at o7)
    have f7 : Fr (blk ao1) w8 := fun y hy => by
      rcases blk1 y hy with h | h
      · simp [blk] at h; omega
      · simp at h; omega
    have G9 : Grow w8 w9 := g0.then kp (fun y hy => by simp [blk] at hy; omega)
    have q9 := q8.grow G9
    have sm9 := sm8.grow G9
    have hrt := q9.root htl htn1 htn2 RT HRT1.out
    have hVl := bV_len RT
    have hV1 := B_one RT.b
    obtain ⟨V, hV⟩ : ∃ V, V = RT.b.map B := ⟨_, rfl⟩
    rw [← hV] at hrt hVl hV1
    have HV := Lib.hid hV
    have Hq8 := Lib.hid q8
    have Hsm8 := Lib.hid sm8
    clear o0 g0 sp0 kp blk1 q8 sm8 hV
    go_wp2_with fail
    refine hrt _ ?_
    clear hrt
    intro w10 g10 q10
    have o10 := o7.grow g10
    have sm10 := sm9.grow g10
    have G10 := G9.trans g10
    have h10lt := o10.lt
    have hz10 := G10.size
    clear q9 sm9 o7 g10 G9
    obtain ⟨o11, ga1, th1, al1⟩ := newvar (t := 33) w10 (.int .u8 0) rfl (by omega) hVl hV1
    have hszF : (Try.prog.info? 33).map (·.size) = some V.toArray.size := by rw [List.size_toArray, hVl]; exact i16
    go_upto_region 16 with (refine wpList_store_mid rfl 33 _ _ rfl w10.heap.size 0 V.toArray rfl rfl th1 hszF al1 ?_)
    change Code.wp _ _ _ ⟨_, _⟩ ((w10.alloc (.cells (List.replicate 16 (.int .u8 0)).toArray 33)).setCells w10.heap.size 0 V)
    have G11 := G10.trans ga1
    have oq := o10.grow ga1
    have q11 := q10.grow ga1
    have sm11 := sm10.grow ga1
    obtain ⟨q21, hq⟩ : ∃ q, q = w10.heap.size := ⟨_, rfl⟩
    generalize (w10.alloc (.cells (List.replicate 16 (.int .u8 0)).toArray 33)).setCells w10.heap.size 0 V = w11 at *
    rw [← hq] at o11 ⊢
    have hge_q21 : w10.heap.size ≤ q21 := by omega
    clear hq th1 al1 ga1 hszF G10 o10 q10 sm10
    have hr1 : ∀ (w : World) (R : Ending → World → Prop), R (.returned (.int .i64 (rnd xat (16 * pn + 16) : Int))) w → Calls Try.prog 23 #[.int .i64 xat, .int .i64 (16 * (pn : Int) + 16)] w R := fun w R hR => by
      have := roundC xat (16 * pn + 16) (by omega) (by omega) w R hR
      rwa [show ((16 * pn + 16 : Nat) : Int) = 16 * (pn : Int) + 16 by omega] at this
    have hr2 : ∀ (w : World) (R : Ending → World → Prop), R (.returned (.int .i64 (rnd xby 255 : Int))) w → Calls Try.prog 23 #[.int .i64 xby, .int .i64 255] w R := fun w R hR => roundC xby 255 (by omega) (by omega) w R hR
    have hil := rnd_lt xat (16 * pn + 16) (by omega)
    have hyl := rnd_lt xby 255 (by omega)
    obtain ⟨i, hi⟩ : ∃ i, i = rnd xat (16 * pn + 16) := ⟨_, rfl⟩
    obtain ⟨y, hy⟩ : ∃ y, y = rnd xby 255 := ⟨_, rfl⟩
    rw [← hi] at hil
    rw [← hy] at hyl
    simp only [← hi] at hr1
    simp only [← hy] at hr2
    clear hi hy
    go_wp2_with fail
    refine hr1 _ _ ?_
    clear hr1
    go_wp2_with fail
    refine hr2 _ _ ?_
    clear hr2
    by_cases hlt : i < 16 * pn
    · have hdl : decide ((i : Int) < 16 * (pn : Int)) = true := decide_eq_true (by omega)
      go_upto_region 19 with (fail)
      refine trPr19 ao1 pn cap1 i _ Pf Hpn.out (by omega) hlt w11 oq ?_
      intro P' w12 hl' oq12 k12
      intros
      have G12 : Grow w8 w12 := G11.then k12 f7
      have q12 := Hq8.out.grow G12
      have sm12 := Hsm8.out.grow G12
      have or12 := o11.keep k12 (fun y hy hm => by simp [blk] at hy; have := h10lt y hm; omega)
      rw [HV.out] at or12
      have hpm' : pn = P'.length := by rw [hl']; exact Hpn.out
      clear oq q11 sm11 o11 k12 hl'
      go_upto_region 21 with (fail)
      refine trPr21 w t g po pn pc Pf htb n k (by omega) hrl hgn Htx.out (by omega) ph ao1 pn cap1 P' hpm' (by omega) q21 RT hph8 (fun y hy hm => by have := f7 y hy; have := hFb8 y hm; omega) (fun hm => by have := hFb8 _ hm; omega) w12 q12 sm12 oq12 or12 ?_
      intro w13 g13
      intros
      have hf := HR.out w13 g13
      clear HR
      go_wp2_with fail
      exact hf
    · have hdl : decide ((i : Int) < 16 * (pn : Int)) = false := decide_eq_false (by omega)
      obtain ⟨r, hr⟩ : ∃ r, r = i % 16 := ⟨_, rfl⟩
      have hr16 : r < 16 := by omega
      have hE : (i : Int) % 16 = (r : Int) := by omega
      have htm : (i : Int).tmod 16 = (r : Int) := by rw [Int.tmod_eq_emod_of_nonneg (by omega)]; omega
      obtain ⟨gq, u, eq, hu, hfz, hput⟩ := own_put o11 (i := r) (by omega)
      cases eq
      have hbl : r < RT.b.length := by rw [RT.h]; exact hr16
      have hVr : V[r]? = some (.int .u8 ((RT.b[r]).toNat : Int)) := by rw [HV.out, List.getElem?_map, List.getElem?_eq_getElem hbl]; rfl
      obtain ⟨b, hb⟩ : ∃ b : UInt8, b = RT.b[r] := ⟨_, rfl⟩
      rw [← hb] at hVr
      obtain ⟨gl, off, el, hcs⟩ := o11.sl.hat (by omega)
      cases el
      have hc : w11.cell? ⟨q21, r, none⟩ = some (.int .u8 (b.toNat : Int)) := by
        have := hcs.at hVr
        rwa [Nat.zero_add] at this
      obtain rfl : u = .int .u8 (b.toNat : Int) := by
        have := hu.symm.trans hc
        simpa using this
      have hrV : r < V.length := by omega
      have hor : ∀ x : UInt8, Own (w11.setCell ⟨q21, r, none⟩ (B x)) 33 1 (some ⟨q21, 0, none⟩) 16 16 ((RT.b.set r x).map B) := fun x => by
        have := hput (B x) rfl
        rw [HV.out, ← List.map_set] at this
        exact this
      have Hor := Lib.hid hor
      clear hput hcs hVr hb hu hor hr o11 hbl hrV
      obtain ⟨x, hx⟩ := u8_B ((b.toNat : Int) + (1 + (y : Int)))
      obtain ⟨RX, hRX⟩ : ∃ RX : B16, RX.b = RT.b.set r x := ⟨⟨RT.b.set r x, by rw [List.length_set]; exact RT.h⟩, rfl⟩
      have or12 := Hor.out x
      rw [← hRX] at or12
      have k12 : Keep [q21] w11 (w11.setCell ⟨q21, r, none⟩ (B x)) := Keep.setCell _ _ (by simp) _
      have G12 := G11.then k12 (fun y hy => by simp at hy; omega)
      have q12 := Hq8.out.grow G12
      have sm12 := Hsm8.out.grow G12
      have oq12 := oq.keep k12 (fun y hy hm => by simp at hm; have := h10lt y hy; omega)
      have Hx := Lib.hid hx
      clear oq q11 sm11 k12 hx Hor hRX
      go_upto_region 21 with (fail)
      rw [Hx.out]
      refine trPr21 w t g po pn pc Pf htb n k (by omega) hrl hgn Htx.out (by omega) ph ao1 pn cap1 Pf Hpn.out (by omega) q21 RX hph8 (fun y hy hm => by have := f7 y hy; have := hFb8 y hm; omega) (fun hm => by have := hFb8 _ hm; omega) _ q12 sm12 oq12 or12 ?_
      intro w13 g13
      intros
      have hf := HR.out w13 g13
      clear HR
      go_wp2_with fail
      exact hf

set_option maxRecDepth 100000 in
set_option maxHeartbeats 2000000 in
theorem trPwW (n0 : Int) (lo : Option Addr) (c : Nat) (l : List Ax) (x : Int) (ta : Option Addr) (tc : Nat) (text : List UInt8) (xat xby : Int) (w : World) (_ : (Lit.int .i64 n0).wf = true) (s : Sl w 3 lo l.length c (l.flatMap axV)) (hg : ∀ a ∈ l, axG w a) (_ : (Lit.int .i64 x).wf = true) (st : Sl w 1 ta text.length tc (text.map B)) (_ : (Lit.int .i64 xat).wf = true) (_ : (Lit.int .i64 xby).wf = true)
    (R : Ending → World → Prop) (hR : ∀ w', Grow w w' → R (.returned (.bool true)) w') :
    Calls Try.prog 9 #[.int .i64 n0, .slice lo l.length c, .int .i64 x, .slice ta text.length tc, .int .i64 xat, .int .i64 xby] w R := by
  have haw := awake20C
  by_cases hx1 : n0 < 1
  · go_enter Try.func9, Try.ntmps9
    go_wp2_with fail
    refine haw _ _ ?_
    intro w2 g2
    have hf := hR w2 g2
    clear hR
    go_wp2_with fail
    exact hf
  have hg1 : decide (n0 < 1) = false := decide_eq_false (by omega)
  by_cases hx2 : 30 < n0
  · go_enter Try.func9, Try.ntmps9
    go_wp2_with fail
    refine haw _ _ ?_
    intro w2 g2
    have hf := hR w2 g2
    clear hR
    go_wp2_with fail
    exact hf
  have hg2 : decide (30 < n0) = false := decide_eq_false (by omega)
  obtain ⟨n, rfl⟩ : ∃ n : Nat, n0 = n := ⟨n0.toNat, by omega⟩
  exact trPwN n (by omega) (by omega) lo c l x ta tc text xat xby w s hg st R hR
end Go.Proofs.Ytfmnkcmicbnfdaa
