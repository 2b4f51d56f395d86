/- The walk of ClaimsBook. -/
import Derived.Test.YtaepfkpfageiaaaLClBk3
import Derived.Test.YtaepfkpfageiaaaClmAw
namespace Go.Proofs.Ytaepfkpfageiaaa
open Go Go.RowKit

set_option maxRecDepth 100000 in
set_option maxHeartbeats 2000000 in
theorem clBkW (lo : Option Addr) (c0 : Nat) (l : List Ac) (w : World) (s : Sl w 4 lo l.length c0 (l.flatMap acV)) (hg : ∀ a ∈ l, acG w a)
    (R : Ending → World → Prop) (hR : ∀ w', Grow w w' → R (.returned (.bool true)) w') :
    Calls Try.prog 14 #[.slice lo l.length c0] w R := by
  have hml : maxLen = 9223372036854775807 := rfl
  have haw := awake12C
  have hnew := rNewC
  have hmac := fun p w sm ko kc key sk (hkl : key.length ≤ 900000) bo c text sb (htl : text.length ≤ 900000) => rMacC p w sm ko kc key sk hkl bo c text sb htl
  have i32 : (Try.prog.info? 27).map (·.size) = some 32 := by kernel_rfl
  generalize Hs = H at *
  generalize Ks = K at *
  have hks := s.hle
  have hkm := s.hcap
  obtain ⟨n, hn⟩ : ∃ n, n = l.length := ⟨_, rfl⟩
  rw [← hn] at s hks ⊢
  have hfew := fewC lo n c0 l hn w s hg
  have Hn := Lib.hid hn
  have Hg := Lib.hid hg
  have Hmac := Lib.hid hmac
  clear hn hg hmac
  go_enter Try.func14, Try.ntmps14
  go_wp2_with fail
  refine hfew _ ?_
  clear hfew
  intro b w1 hb g1
  cases b with
  | false =>
    go_wp2_with fail
    refine haw _ _ ?_
    intro w2 g2
    have hf := hR _ (g1.trans g2)
    clear hR
    go_wp2_with fail
    exact hf
  | true =>
    obtain ⟨hnl, hsm⟩ := hb rfl
    have Hsm := Lib.hid hsm
    clear hsm hb
    go_wp2_with fail
    refine hnew _ _ ?_
    clear hnew
    intro h w2 sm2 g2 _
    have G2 := g1.trans g2
    clear g1 g2
    go_wp2_with fail
    refine newBkC _ _ ?_
    intro p w3 bk3 g3 hp
    have T3 : Two w2 w3 p none 0 0 none 0 [] := ⟨g3, bk3, Own.none _ _ _, fun x hx => by simp [blk] at hx; subst hx; exact hp, fun x hx => by simp [blk] at hx, fun x hx => by simp [blk] at hx⟩
    have s2 := s.grow G2
    clear g3 hp bk3 s
    go_wp2_with fail
    go_loopw [5, 6] (fun vw vi wr => ∃ (i : Nat) (ao : Option Addr) (m c : Nat) (wo : Option Addr) (wc : Nat) (cs : List Clm), vw = .slice wo m wc ∧ vi = .int .i64 (i : Int) ∧ i ≤ n ∧ m ≤ i ∧ Two w2 wr p ao m c wo wc cs) (fun _ vi _ => n - (intOf vi).toNat)
    case atStart => exact ⟨0, none, 0, 0, none, 0, [], rfl, by simp, by omega, by omega, T3⟩
    case round =>
      clear T3
      obtain ⟨i, ao, m, c, wo, wc, cs, rfl, rfl, hi, hm, T⟩ := hrel
      by_cases hlt : i < n
      · have hil : i < l.length := by rw [← Hn.out]; exact hlt
        obtain ⟨a, ha⟩ : ∃ a, a = l[i] := ⟨_, rfl⟩
        have hla : l[i]? = some a := by rw [List.getElem?_eq_getElem hil, ha]
        have hga := (Hg.out a (by rw [ha]; exact List.getElem_mem hil)).grow G2
        have hsa := Hsm.out a (by rw [ha]; exact List.getElem_mem hil)
        have hk2 := hsa.k
        have hp2 := hsa.p
        clear ha hil
        go_upto_region 11 with (fail)
        refine clBk11 lo n c0 i l a Hn.out hlt hla wr (s2.grow T.g) ?_
        intro q7 x1 o7 g1 hq7
        intros
        have T1 := T.grow g1
        have D7 := T.lt hq7
        have hlt7 := o7.lt q7 (by simp [blk])
        have c7 := own_cells o7 (by omega)
        clear T g1 hq7 o7 hla
        have d2 := c7.at (i := 2) rfl
        simp only [Nat.zero_add] at d2
        have hfr := rFramC a.pa a.pc a.pvs a.parts x1 (hga.sp.grow T1.g) (hga.pt.grow T1.g) (by omega) (by omega)
        have hFl : (framS a.parts).length ≤ 900000 := by rw [framS_len]; omega
        have hmc := fun W sm ko kc key sk hk fo fc sf => Hmac.out h W sm ko kc key sk hk fo fc (framS a.parts) sf hFl
        obtain ⟨FN, hFN⟩ : ∃ N, N = (framS a.parts).length := ⟨_, rfl⟩
        simp only [← hFN] at hfr hmc
        have Hmc := Lib.hid hmc
        clear hFN hmc hFl
        go_wp2_with fail
        refine hfr _ ?_
        clear hfr d2
        intro fo fc x2 of2 g2 _
        have T2 := T1.grow g2
        have c72 := c7.grow g2
        have hsz2 := g2.size
        have hc := Hmc.out x2 (sm2.grow T2.g) a.ka a.kc a.key (hga.sk.grow T2.g) (by omega) fo fc of2.sl
        clear Hmc
        clear T1 c7 g2
        have d1 := c72.at (i := 1) rfl
        simp only [Nat.zero_add] at d1
        have hVl : ((macS a.key (framS a.parts)).map B).length = 32 := by rw [List.length_map]; exact macS_len _ _
        have hV1 := B_one (macS a.key (framS a.parts))
        obtain ⟨V, hV⟩ : ∃ V, V = (macS a.key (framS a.parts)).map B := ⟨_, rfl⟩
        rw [← hV] at hVl hV1 hc
        have HV := Lib.hid hV
        clear hV
        go_wp2_with fail
        refine hc _ ?_
        clear hc d1
        intro x3 g3
        have T3 := T2.grow g3
        have c73 := c72.grow g3
        have of3 := of2.grow g3
        have hsz3 := g3.size
        have G3 := T3.g
        have T3' := T3
        have c73' := c73
        clear T2 c72 of2 g3
        obtain ⟨o9, ga1, th1, al1⟩ := newvar (t := 27) x3 (.int .u8 0) rfl (by omega) hVl hV1
        have hszF : (Try.prog.info? 27).map (·.size) = some V.toArray.size := by rw [List.size_toArray, hVl]; exact i32
        go_upto_region 14 with (refine wpList_store_mid rfl 27 _ _ rfl x3.heap.size 0 V.toArray rfl rfl th1 hszF al1 ?_)
        change Code.wp _ _ _ ⟨_, _⟩ ((x3.alloc (.cells (List.replicate 32 (.int .u8 0)).toArray 27)).setCells x3.heap.size 0 V)
        have G4 := G3.trans ga1
        have T4 := T3.grow ga1
        have c74 := c73.grow ga1
        have of4 := of3.grow ga1
        obtain ⟨q9, hq⟩ : ∃ q, q = x3.heap.size := ⟨_, rfl⟩
        generalize (x3.alloc (.cells (List.replicate 32 (.int .u8 0)).toArray 27)).setCells x3.heap.size 0 V = x4 at *
        rw [← hq] at o9 ⊢
        have hge_q9 : x3.heap.size ≤ q9 := by omega
        clear hq th1 al1 ga1 hszF G3 T3 c73 of3
        have D9 := T3'.lt hge_q9
        have hlt9 := o9.lt q9 (by simp [blk])
        have h79 : q7 < q9 := by omega
        rw [HV.out] at o9
        clear T3' c73' hge_q9 G4
        go_upto_region 14 with (fail)
        refine clBk14 q7 q9 a.ka a.key.length a.kc _ _ _ fo FN fc a.key (framS a.parts) x4 c74 (hga.sk.grow T4.g) of4.sl (own_cells o9 (by omega)) ?_
        intro q10 x5 o10 g5 hq10
        intros
        have D10 := T4.lt hq10
        have T5 := T4.grow g5
        have c75 := c74.grow g5
        have c95 := (own_cells o9 (by omega)).grow g5
        have hx4 := T4.g.size
        clear T4 c74 o9 of4 g5
        have d0 := c75.at (i := 0) rfl
        simp only [Nat.zero_add] at d0
        go_upto_block 2 with (fail)
        refine clBkS p ao m c wo wc cs (by omega) a hsa q7 q9 q10 w2 x5 hga T5 D7 D9 D10 (by omega) (by omega) (by omega) c75 c95 o10 ?_
        intro ao' n' c' wo' wc' cs' x6 hn' T6
        intros
        go_wp2_with fail
        go_roundw
        case rel => exact ⟨i + 1, ao', n', c', wo', wc', cs', rfl, by go_num, by omega, by omega, T6⟩
        case measure => simp [intOf]; omega
      · obtain rfl : i = n := by omega
        have hl : cs.length = m := T.bk.len
        have hc := allC p ao m c cs wr T.bk (by omega)
        have hs := fun a1 c1 W (g : Grow wr W) sa => sameClC a1 m c1 wo wc cs hl.symm W sa (T.ow.sl.grow g)
        have G9 := G2.trans T.g
        clear T s2
        go_wp2_with fail
        refine hc _ ?_
        clear hc
        intro a1 c1 x1 o1 g1 _
        have hs := hs a1 c1 x1 g1 o1.sl
        have G10 := G9.trans g1
        clear G9 g1 o1
        go_wp2_with fail
        refine hs _ ?_
        clear hs
        intro x2 g2
        have G11 := G10.trans g2
        clear G10 g2
        go_wp2_with fail
        refine haw _ _ ?_
        intro x3 g3
        have hf := hR _ (G11.trans g3)
        clear hR
        go_wp2_with fail
        exact hf
end Go.Proofs.Ytaepfkpfageiaaa
