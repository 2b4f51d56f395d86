/- Two lists of steps that are the same are alike. -/
import Derived.Test.YtgchbcopbkoomaaAl25
namespace Go.Proofs.Ytgchbcopbkoomaa
open Go Go.RowKit

set_option maxRecDepth 100000 in
set_option maxHeartbeats 4000000 in
theorem alike25C (l1 l2 : List Ex) (hss : l1.map (·.s) = l2.map (·.s)) (ao bo : Option Addr) (n c1 c2 : Nat) (hn : n = l1.length) (hn2 : n ≤ 100000) (w : World) (s1 : Sl w 10 ao n c1 (l1.flatMap exV)) (s2 : Sl w 10 bo n c2 (l2.flatMap exV)) (hg1 : ∀ e ∈ l1, exG w e) (hg2 : ∀ e ∈ l2, exG w e) (R : Ending → World → Prop)
    (hR : ∀ w', Grow w w' → R (.returned (.bool true)) w') :
    Calls Try.prog 10 #[.slice ao n c1, .slice bo n c2] w R := by
  have hml : maxLen = 9223372036854775807 := rfl
  have hks1 := s1.hle
  have hkm1 := s1.hcap
  have hks2 := s2.hle
  have hkm2 := s2.hcap
  have hl2 : l2.length = l1.length := by have := congrArg List.length hss; simpa using this.symm
  have Hn := Lib.hid hn
  have Hl2 := Lib.hid hl2
  have Hss := Lib.hid hss
  have HR := Lib.hid hR
  have Hg1 := Lib.hid hg1
  have Hg2 := Lib.hid hg2
  clear hn hR hg1 hg2 hss hl2
  go_enter Try.func10, Try.ntmps10
  go_wp2_with fail
  go_loopw [5] (fun vi wr => ∃ (i : Nat), vi = .int .i64 (i : Int) ∧ i ≤ n ∧ Grow w wr) (fun vi _ => n - (intOf vi).toNat)
  case atStart => exact ⟨0, by simp, by omega, Grow.refl _⟩
  case round =>
    obtain ⟨i, rfl, hi, g⟩ := hrel
    by_cases hlt : i < n
    · have hlt1 : i < l1.length := by rw [← Hn.out]; exact hlt
      have hlt2 : i < l2.length := by rw [Hl2.out, ← Hn.out]; exact hlt
      obtain ⟨ga, oa, eg, hcs1⟩ := (s1.grow g).hat (by omega)
      subst eg
      obtain ⟨gb, ob, eg, hcs2⟩ := (s2.grow g).hat (by omega)
      subst eg
      obtain ⟨e1, he1⟩ : ∃ e, e = l1[i]'hlt1 := ⟨_, rfl⟩
      obtain ⟨e2, he2⟩ : ∃ e, e = l2[i]'hlt2 := ⟨_, rfl⟩
      have hci1 : Cells wr ga (oa + i * 10) (exV e1) := by rw [he1]; exact cells_ex hcs1 i hlt1
      have hci2 : Cells wr gb (ob + i * 10) (exV e2) := by rw [he2]; exact cells_ex hcs2 i hlt2
      have hge1 := (Hg1.out e1 (by rw [he1]; exact List.getElem_mem hlt1)).grow g
      have hge2 := (Hg2.out e2 (by rw [he2]; exact List.getElem_mem hlt2)).grow g
      have hes : e1.s = e2.s := by
        have h := congrArg (fun l => l[i]?) Hss.out
        simp only [List.getElem?_map] at h
        rw [List.getElem?_eq_getElem hlt1, List.getElem?_eq_getElem hlt2] at h
        rw [he1, he2]; simpa using h
      obtain ⟨s, hs⟩ : ∃ s, s = e1.s := ⟨_, rfl⟩
      have h1 : e1.s = s := hs.symm
      have h2 : e2.s = s := by rw [← hes]; exact h1
      have H1 := Lib.hid h1
      have H2 := Lib.hid h2
      clear he1 he2 hcs1 hcs2 hes hs h1 h2
      go_upto_region 6 with (fail)
      refine alike6 ga oa c1 gb ob c2 n i hlt (by omega) s e1 e2 H1.out H2.out wr hge1 hge2 hci1 hci2 ?_
      intro q6 q7 d6 d7 k6 k7 w' G' c6 c7 s6 s7
      intros
      go_upto_region 7 with (fail)
      have m1 := Lib.hid (hci1.keep (Keep.of_grow [] G') (by simp))
      have m2 := Lib.hid (hci2.keep (Keep.of_grow [] G') (by simp))
      have t1 := hge1.grow G'
      have t2 := hge2.grow G'
      have G2 := g.trans G'
      have r1 : e1.s.keep.length = s.keep.length := by rw [H1.out]
      have r2 : e2.s.keep.length = s.keep.length := by rw [H2.out]
      have u1 : Sl w' 1 e1.ba s.data.length e1.bc (s.data.map B) := by have := t1.b; rwa [H1.out] at this
      have u2 : Sl w' 1 e2.ba s.data.length e2.bc (s.data.map B) := by have := t2.b; rwa [H2.out] at this
      have u3 : s.keep.length ≤ maxLen := by have h8 := t1.k.hle; have h9 := t1.k.hcap; rw [H1.out] at h8; omega
      refine alike7 ga oa c1 gb ob c2 n i q6 q7 hlt s e1.ka e2.ka e1.ba e2.ba d6 d7 e1.kc e2.kc e1.bc e2.bc k6 k7 w' ?_ ?_ ?_ ?_ ?_ ?_ ?_ ?_ c6 c7 u1 u2 s6 s7 u3 ?_
      · have := m1.out.at (i := 0) (v := .int .i64 e1.s.kind) rfl; rw [H1.out] at this; simpa using this
      · have := m1.out.at (i := 7) (v := .int .i64 e1.s.n) rfl; rw [H1.out] at this; exact this
      · have := m1.out.at (i := 8) (v := e1.kv) rfl; rw [Ex.kv, H1.out] at this; exact this
      · have := m1.out.at (i := 9) (v := e1.bv) rfl; rw [Ex.bv, H1.out] at this; exact this
      · have := m2.out.at (i := 0) (v := .int .i64 e2.s.kind) rfl; rw [H2.out] at this; simpa using this
      · have := m2.out.at (i := 7) (v := .int .i64 e2.s.n) rfl; rw [H2.out] at this; exact this
      · have := m2.out.at (i := 8) (v := e2.kv) rfl; rw [Ex.kv, H2.out] at this; exact this
      · have := m2.out.at (i := 9) (v := e2.bv) rfl; rw [Ex.bv, H2.out] at this; exact this
      intro w9 G9
      intros
      have G3 := G2.trans G9
      clear c6 c7 s6 s7 t1 t2 u1 u2 u3 m1 m2 r1 r2 H1 H2 hge1 hge2 hci1 hci2 G' G9 G2 g HR Hg1 Hg2 Hss s1 s2
      go_wp2_with fail
      exact ⟨⟨i + 1, by go_num, by omega, G3⟩, by simp [intOf]; omega⟩
    · obtain rfl : i = n := by omega
      have hf := HR.out _ g
      clear HR
      go_wp2_with fail
      exact hf
end Go.Proofs.Ytgchbcopbkoomaa
