/- Steps: are they looked at? -/
import Derived.Test.YtgchbcopbkoomaaMa25
namespace Go.Proofs.Ytgchbcopbkoomaa
open Go Go.RowKit

structure fewE (e : Ex) : Prop where
  d : e.s.cmd.data.length ≤ 5000
  b : e.s.data.length ≤ 200
  k : e.s.keep.length ≤ 200


set_option maxRecDepth 100000 in
set_option maxHeartbeats 4000000 in
theorem few6 (q gb off n c i : Nat) (hi : i < n) (_ : i ≤ 100000) (e : Ex) (hsd : e.s.cmd.data.length ≤ maxLen) (hsk : e.s.keep.length ≤ maxLen) (hsb : e.s.data.length ≤ maxLen) {c1 c2 c3 c6 c7 c8 c9 c10 c11 c12 c13 c14 c15 c16 c17 c18 c19 c20 c21 c22 c23 c24 c25 c26 c27 c28 c29 c30 c31 c32 c33 c34 c35 c36 c37 c38 c39 c40 c41 c42 c43 c44 c45 c46 c47 c48 c49 c50 c51 c52 c53 c54 c55 c56 c57 c58 c59 c60 c61 c62 c63 c64 c65 c66 : Value} (w : World) (hc : Cells w gb (off + i * 10) (exV e)) (hq : Cells w q 0 (exC e)) {Q : Exit → Act → World → Prop}
    (hQ : ∀ b : Bool, (b = false → fewE e) → ∀ {u21 u22 u23 u24 u25 u26 u27 u28 u29 u30 u31 u32 u33 u34 u35 u36 u37 u38 u39 u40 u41 u42 u43 u44 u45 u46 u47 u48 u49 u50 u51 u52 u53 : Value}, Q .normal ⟨List.toArray (.slice (some ⟨gb, off, none⟩) n c :: c1 :: c2 :: c3 :: .int .i64 (i : Int) :: .pointer (some ⟨q, 0, none⟩) :: c6 :: c7 :: c8 :: c9 :: c10 :: c11 :: c12 :: c13 :: c14 :: c15 :: c16 :: c17 :: c18 :: c19 :: c20 :: u21 :: u22 :: u23 :: u24 :: u25 :: u26 :: u27 :: u28 :: u29 :: u30 :: u31 :: u32 :: u33 :: u34 :: u35 :: u36 :: u37 :: u38 :: u39 :: u40 :: u41 :: u42 :: u43 :: u44 :: u45 :: u46 :: u47 :: u48 :: u49 :: u50 :: u51 :: u52 :: u53 :: .bool b :: c55 :: c56 :: c57 :: c58 :: c59 :: c60 :: c61 :: c62 :: c63 :: c64 :: c65 :: c66 :: []), []⟩ w) :
    Code.wp Try.prog (regionAt Try.f5 6) Q ⟨List.toArray (.slice (some ⟨gb, off, none⟩) n c :: c1 :: c2 :: c3 :: .int .i64 (i : Int) :: .pointer (some ⟨q, 0, none⟩) :: c6 :: c7 :: c8 :: c9 :: c10 :: c11 :: c12 :: c13 :: c14 :: c15 :: c16 :: c17 :: c18 :: c19 :: c20 :: c21 :: c22 :: c23 :: c24 :: c25 :: c26 :: c27 :: c28 :: c29 :: c30 :: c31 :: c32 :: c33 :: c34 :: c35 :: c36 :: c37 :: c38 :: c39 :: c40 :: c41 :: c42 :: c43 :: c44 :: c45 :: c46 :: c47 :: c48 :: c49 :: c50 :: c51 :: c52 :: c53 :: c54 :: c55 :: c56 :: c57 :: c58 :: c59 :: c60 :: c61 :: c62 :: c63 :: c64 :: c65 :: c66 :: []), []⟩ w := by
  have hml : maxLen = 9223372036854775807 := rfl
  have q8 := hc.at (i := 8) (v := .slice e.ka e.s.keep.length e.kc) rfl
  have q9 := hc.at (i := 9) (v := .slice e.ba e.s.data.length e.bc) rfl
  have p1 := hq.at (i := 1) (v := .string (str e.s.cmd.pass)) rfl
  have p2 := hq.at (i := 2) (v := .string (str e.s.cmd.other)) rfl
  have p5 := hq.at (i := 5) (v := .slice e.da e.s.cmd.data.length e.dc) rfl
  simp only [Nat.zero_add] at p1 p2 p5
  have HQ := Lib.hid hQ
  have hfw : e.s.cmd.data.length ≤ 5000 → e.s.data.length ≤ 200 → e.s.keep.length ≤ 200 → fewE e := fun a b c => ⟨a, b, c⟩
  have Hfw := Lib.hid hfw
  obtain ⟨s1, hs1⟩ : ∃ s, s = str e.s.cmd.pass := ⟨_, rfl⟩
  obtain ⟨s2, hs2⟩ : ∃ s, s = str e.s.cmd.other := ⟨_, rfl⟩
  obtain ⟨z1, hz1⟩ : ∃ z, z = s1.size := ⟨_, rfl⟩
  obtain ⟨z2, hz2⟩ : ∃ z, z = s2.size := ⟨_, rfl⟩
  simp only [← hs1, ← hs2] at p1 p2
  clear hs1 hs2 hz1 hz2 hc hq hQ hfw
  generalize e.s.cmd.data.length = n5 at *
  generalize e.s.keep.length = n8 at *
  generalize e.s.data.length = n9 at *
  conv => arg 2; whnf
  cases hd1 : decide (200 < (s1.size : Int)) with
  | true =>
    clear Hfw
    go_wp2_with fail
    exact HQ.out true (fun h => by cases h)
  | false =>
  cases hd2 : decide (200 < (s2.size : Int)) with
  | true =>
    clear Hfw
    go_wp2_with fail
    exact HQ.out true (fun h => by cases h)
  | false =>
  cases hd5 : decide (5000 < (n5 : Int)) with
  | true =>
    clear Hfw
    go_wp2_with fail
    exact HQ.out true (fun h => by cases h)
  | false =>
  cases hd9 : decide (200 < (n9 : Int)) with
  | true =>
    clear Hfw
    go_wp2_with fail
    exact HQ.out true (fun h => by cases h)
  | false =>
  cases hd8 : decide (200 < (n8 : Int)) with
  | true =>
    clear Hfw
    go_wp2_with fail
    exact HQ.out true (fun h => by cases h)
  | false =>
    have h5 := of_decide_eq_false hd5
    have h8 := of_decide_eq_false hd8
    have h9 := of_decide_eq_false hd9
    have hfe := Hfw.out (by omega) (by omega) (by omega)
    have HFE := Lib.hid hfe
    clear Hfw h5 h8 h9 hfe
    go_wp2_with fail
    exact HQ.out false (fun _ => HFE.out)

set_option maxRecDepth 100000 in
set_option maxHeartbeats 4000000 in
theorem few25C (l : List Ex) (ao : Option Addr) (n c : Nat) (hn : n = l.length) (hn2 : n ≤ maxLen) (w : World) (s : Sl w 10 ao n c (l.flatMap exV)) (hg : ∀ e ∈ l, exG w e) (R : Ending → World → Prop)
    (hR : ∀ b w', (b = true → n ≤ 25 ∧ ∀ e ∈ l, fewE e) → Grow w w' → R (.returned (.bool b)) w') :
    Calls Try.prog 5 #[.slice ao n c] w R := by
  have hml : maxLen = 9223372036854775807 := rfl
  have hks := s.hle
  have hkm := s.hcap
  have Hn := Lib.hid hn
  have HR := Lib.hid hR
  have Hg := Lib.hid hg
  clear hn hR hg
  go_enter Try.func5, Try.ntmps5
  go_wp2_with fail
  go_loopw [3, 4] (fun vt vi wr => ∃ (i t : Nat), vt = .int .i64 (t : Int) ∧ vi = .int .i64 (i : Int) ∧ i ≤ n ∧ i ≤ 40 ∧ t ≤ i * 5000 ∧ Hid (∀ j (hj : j < l.length), j < i → fewE l[j]) ∧ Grow w wr) (fun _ vi _ => n - (intOf vi).toNat)
  case atStart => exact ⟨0, 0, by simp, by simp, by omega, by omega, by omega, Lib.hid (fun j _ h => by omega), Grow.refl _⟩
  case round =>
    obtain ⟨i, t, rfl, rfl, hi, hi4, ht, hsm, g⟩ := hrel
    by_cases hlt : i < n
    · by_cases h40 : i < 40
      · have hlt2 : i < l.length := by rw [← Hn.out]; exact hlt
        obtain ⟨gb, off, eg, hcs⟩ := (s.grow g).hat (by omega)
        subst eg
        obtain ⟨e, he⟩ : ∃ e, e = l[i]'hlt2 := ⟨_, rfl⟩
        have hci : Cells wr gb (off + i * 10) (exV e) := by rw [he]; exact cells_ex hcs i hlt2
        have hge := (Hg.out e (by rw [he]; exact List.getElem_mem hlt2))
        have z5 := hge.d.hcap
        have z5' := hge.d.hle
        have z8 := hge.k.hcap
        have z8' := hge.k.hle
        have z9 := hge.b.hcap
        have z9' := hge.b.hle
        have hstep : fewE e → ∀ j (hj : j < l.length), j < i + 1 → fewE l[j] := fun h j hj hji => by
          rcases Nat.lt_or_ge j i with h1 | h1
          · exact hsm.out j hj h1
          · obtain rfl : j = i := by omega
            rw [← he]; exact h
        have Hstep := Lib.hid hstep
        have hrg : wr.rangeAt gb (off + i * 10 + 1) (exC e) := fun j v hj => by
          have h6 : j < 6 := (List.getElem?_eq_some_iff.1 hj).1
          rw [Nat.add_assoc]
          exact hci.at (i := 1 + j) (by rw [← hj, Nat.add_comm]; simp only [exV, exC, List.getElem?_cons_succ]; match j, h6 with | 0, _ => rfl | 1, _ => rfl | 2, _ => rfl | 3, _ => rfl | 4, _ => rfl | 5, _ => rfl)
        have hsz : (Try.prog.info? 35).map (·.size) = some (exC e).length := by kernel_rfl
        obtain ⟨o4, ga1, th1, al1⟩ := newvarZ (n := 6) (t := 35) wr cmZ rfl cmZ_one (by omega) (F := exC e) rfl (exC_one e)
        have hszF : (Try.prog.info? 35).map (·.size) = some (exC e).toArray.size := by kernel_rfl
        have hEl := exC_len e
        have h6 := few6
        have hci3 := hci.keep (Keep.of_grow [] ga1) (by simp)
        obtain ⟨X, hX⟩ : ∃ X, X = exC e := ⟨_, rfl⟩
        have HX := Lib.hid hX
        rw [← hX] at hrg hsz o4 ga1 th1 al1 hszF hEl hci3
        have hs5 : e.s.cmd.data.length ≤ maxLen := by omega
        have hs8 : e.s.keep.length ≤ maxLen := by omega
        have hs9 : e.s.data.length ≤ maxLen := by omega
        clear he hX hci hstep hge hsm z5' z8' z9'
        go_upto_region 6 with (first | (refine wpList_load_mid rfl 35 _ rfl gb (off + i * 10 + 1) rfl X _ hrg Try.underlying35 rfl hsz ?_) | (refine wpList_store_mid rfl 35 _ _ rfl wr.heap.size 0 X.toArray rfl rfl th1 hszF al1 ?_))
        change Code.wp _ _ _ ⟨_, _⟩ ((wr.alloc (.cells cmZ.toArray 35)).setCells wr.heap.size 0 X)
        have G3 := g.trans ga1
        generalize (wr.alloc (.cells cmZ.toArray 35)).setCells wr.heap.size 0 X = w3 at *
        obtain ⟨q, hq⟩ : ∃ q, q = wr.heap.size := ⟨_, rfl⟩
        rw [← hq] at o4 ⊢
        clear hq th1 al1 ga1 hszF hrg g hcs
        obtain ⟨gl, off6, eg, hcq⟩ := o4.sl.hat (by omega)
        cases eg
        have p5 : w3.cell? ⟨q, 5, none⟩ = some (.slice e.da e.s.cmd.data.length e.dc) := by
          rw [HX.out] at hcq
          have h := hcq.at (i := 5) (v := .slice e.da e.s.cmd.data.length e.dc) rfl
          simpa only [Nat.zero_add] using h
        refine h6 q gb off n c i hlt (by omega) e hs5 hs8 hs9 w3 hci3 (by rw [← HX.out]; exact hcq) ?_
        clear h6 hci3 hcq o4
        intro b hb
        intros
        cases b with
        | true =>
          have hf := HR.out false _ (fun e => by cases e) G3
          clear HR Hstep hb p5
          go_wp2_with fail
          exact hf
        | false =>
          have hfe := hb rfl
          have hd5 := hfe.d
          have Hnx := Lib.hid (Hstep.out hfe)
          clear hb hfe Hstep HX hsz hEl hs8 hs9
          generalize e.s.cmd.data.length = n5 at *
          go_wp2_with fail
          exact ⟨⟨i + 1, t + n5, by go_num, by go_num, by omega, by omega, by omega, Hnx, G3⟩, by simp [intOf]; omega⟩
      · have hd : decide ((n : Int) ≤ 25) = false := decide_eq_false (by omega)
        have hf := HR.out false _ (fun e => by cases e) g
        clear HR hsm
        go_wp2_with fail
        exact hf
    · obtain rfl : i = n := by omega
      have hall : ∀ e ∈ l, fewE e := fun e he => by
        obtain ⟨j, hj, rfl⟩ := List.mem_iff_getElem.1 he
        exact hsm.out j hj (by rw [Hn.out]; exact hj)
      have Hall := Lib.hid hall
      clear hall hsm
      cases hd : decide ((i : Int) ≤ 25) with
      | false =>
        have hf := HR.out false _ (fun e => by cases e) g
        clear HR
        go_wp2_with fail
        exact hf
      | true =>
        have hi5 := of_decide_eq_true hd
        have hf := fun b => HR.out b _ (fun _ => ⟨by omega, Hall.out⟩) g
        clear HR
        go_wp2_with fail
        exact hf _
end Go.Proofs.Ytgchbcopbkoomaa
