/- Steps as the program's, and back. -/
import Derived.Test.YtgchbcopbkoomaaPj25
namespace Go.Proofs.Ytgchbcopbkoomaa
open Go Go.RowKit

/-- A step's command. -/
def exC (e : Ex) : List Value := [.int .i64 e.s.cmd.kind, .string (str e.s.cmd.pass), .string (str e.s.cmd.other), .int .i64 e.s.cmd.first, .int .i64 e.s.cmd.count, e.dv]
theorem exC_len (e : Ex) : (exC e).length = 6 := rfl
theorem exC_one (e : Ex) : ∀ v ∈ exC e, v.oneCell' = true := by simp [exC, Ex.dv, Value.oneCell']
def cmZ : List Value := [.int .i64 0, .string .empty, .string .empty, .int .i64 0, .int .i64 0, .slice none 0 0]
theorem cmZ_one : ∀ v ∈ cmZ, v.oneCell' = true := by simp [cmZ, Value.oneCell']
theorem built_cmO (p o : ByteArray) (k f c : Int) (da : Option Addr) (dn dc : Nat) : Try.prog.built 39 [(0, .int .i64 k), (1, .string p), (2, .string o), (3, .int .i64 f), (4, .int .i64 c), (5, .slice da dn dc)] = some #[.int .i64 k, .string p, .string o, .int .i64 f, .int .i64 c, .slice da dn dc] := by kernel_rfl
theorem built_stO (p o : ByteArray) (ki k f c n : Int) (da : Option Addr) (dn dc : Nat) (ka : Option Addr) (kn kc : Nat) (ba : Option Addr) (bn bc : Nat) : Try.prog.built 41 [(0, .int .i64 ki), (1, .agg #[.int .i64 k, .string p, .string o, .int .i64 f, .int .i64 c, .slice da dn dc]), (2, .int .i64 n), (3, .slice ka kn kc), (4, .slice ba bn bc)] = some #[.int .i64 ki, .int .i64 k, .string p, .string o, .int .i64 f, .int .i64 c, .slice da dn dc, .int .i64 n, .slice ka kn kc, .slice ba bn bc] := by kernel_rfl

set_option maxRecDepth 100000 in
set_option maxHeartbeats 4000000 in
theorem made6 (q gb off n c i : Nat) (hi : i < n) (hic : i ≤ 100000) (oo : Option Addr) (oc : Nat) (l : List Ex) (e : Ex) {c1 c2 c6 c7 c8 c9 c10 c11 c12 c13 c14 c15 c16 c17 c18 c19 c20 c21 c22 c23 c24 c25 c26 c27 c28 c29 c30 c31 c32 c33 c34 c35 c36 c37 c38 c39 c40 c41 c42 c43 c44 c45 c46 c47 c48 c49 c50 c51 c52 c53 c54 : Value} (w : World) (hc : Cells w gb (off + i * 10) (exV e)) (hq : Cells w q 0 (exC e)) (o : Own w 41 10 oo i oc (l.flatMap exV)) {Q : Exit → Act → World → Prop}
    (hQ : ∀ (oo' : Option Addr) (oc' : Nat) (w' : World), Own w' 41 10 oo' (i + 1) oc' ((l ++ [e]).flatMap exV) → Keep (blk oo) w w' → (∀ y ∈ blk oo', y ∈ blk oo ∨ w.heap.size ≤ y) → ∀ {u17 u18 u19 u20 u21 u22 u23 u24 u25 u26 u27 u28 u29 u30 u31 u32 u33 u34 u35 u36 u37 u38 u39 u40 u41 u42 u43 u44 u45 u46 u47 u48 u49 u50 u51 u52 u53 : Value}, Q .normal ⟨List.toArray (.slice (some ⟨gb, off, none⟩) n c :: c1 :: c2 :: .slice oo' (i + 1) oc' :: .int .i64 (i : Int) :: .pointer (some ⟨q, 0, none⟩) :: c6 :: c7 :: c8 :: c9 :: c10 :: c11 :: c12 :: c13 :: c14 :: c15 :: c16 :: u17 :: u18 :: u19 :: u20 :: u21 :: u22 :: u23 :: u24 :: u25 :: u26 :: u27 :: u28 :: u29 :: u30 :: u31 :: u32 :: u33 :: u34 :: u35 :: u36 :: u37 :: u38 :: u39 :: u40 :: u41 :: u42 :: u43 :: u44 :: u45 :: u46 :: u47 :: u48 :: u49 :: u50 :: u51 :: u52 :: u53 :: c54 :: []), []⟩ w') :
    Code.wp Try.prog (regionAt Try.f8 6) Q ⟨List.toArray (.slice (some ⟨gb, off, none⟩) n c :: c1 :: c2 :: .slice oo i oc :: .int .i64 (i : Int) :: .pointer (some ⟨q, 0, none⟩) :: c6 :: c7 :: c8 :: c9 :: c10 :: c11 :: c12 :: c13 :: c14 :: c15 :: c16 :: c17 :: c18 :: c19 :: c20 :: c21 :: c22 :: c23 :: c24 :: c25 :: c26 :: c27 :: c28 :: c29 :: c30 :: c31 :: c32 :: c33 :: c34 :: c35 :: c36 :: c37 :: c38 :: c39 :: c40 :: c41 :: c42 :: c43 :: c44 :: c45 :: c46 :: c47 :: c48 :: c49 :: c50 :: c51 :: c52 :: c53 :: c54 :: []), []⟩ w := by
  have hml : maxLen = 9223372036854775807 := rfl
  have hb1 := built_cmO (str e.s.cmd.pass) (str e.s.cmd.other) e.s.cmd.kind e.s.cmd.first e.s.cmd.count e.da e.s.cmd.data.length e.dc
  have hb2 := built_stO (str e.s.cmd.pass) (str e.s.cmd.other) e.s.kind e.s.cmd.kind e.s.cmd.first e.s.cmd.count e.s.n e.da e.s.cmd.data.length e.dc e.ka e.s.keep.length e.kc e.ba e.s.data.length e.bc
  have q0 := KW.cell (fp := []) (p0 := tt) (hc.at (i := 0) (v := .int .i64 e.s.kind) rfl) (by simp)
  have q7 := KW.cell (fp := []) (p0 := tt) (hc.at (i := 7) (v := .int .i64 e.s.n) rfl) (by simp)
  have q8 := KW.cell (fp := []) (p0 := tt) (hc.at (i := 8) (v := .slice e.ka e.s.keep.length e.kc) rfl) (by simp)
  have q9 := KW.cell (fp := []) (p0 := tt) (hc.at (i := 9) (v := .slice e.ba e.s.data.length e.bc) rfl) (by simp)
  have p0 := KW.cell (fp := []) (p0 := tt) (hq.at (i := 0) (v := .int .i64 e.s.cmd.kind) rfl) (by simp)
  have p1 := KW.cell (fp := []) (p0 := tt) (hq.at (i := 1) (v := .string (str e.s.cmd.pass)) rfl) (by simp)
  have p2 := KW.cell (fp := []) (p0 := tt) (hq.at (i := 2) (v := .string (str e.s.cmd.other)) rfl) (by simp)
  have p3 := KW.cell (fp := []) (p0 := tt) (hq.at (i := 3) (v := .int .i64 e.s.cmd.first) rfl) (by simp)
  have p4 := KW.cell (fp := []) (p0 := tt) (hq.at (i := 4) (v := .int .i64 e.s.cmd.count) rfl) (by simp)
  have p5 := KW.cell (fp := []) (p0 := tt) (hq.at (i := 5) (v := .slice e.da e.s.cmd.data.length e.dc) rfl) (by simp)
  simp only [Nat.add_zero, Nat.zero_add] at q0 p0 p1 p2 p3 p4 p5
  have Ho := Lib.hid o
  have HQ := Lib.hid hQ
  clear hc hq o hQ
  conv => arg 2; whnf
  refine wp_region_R (segT w [(35, pOw 41 10 1 (exV e))]) (by kernel_rfl) segT_drew ?_
  unfold segT segK segR
  iterate 18 (refine wpV_look rfl rfl rfl rfl rfl (fun K hK => ?_); go_big_quiet_op; refine hK _ ?_; clear hK K)
  (refine wpV_val rfl rfl rfl rfl rfl _ (fun w _ => exec_built [(0, .tmp 24), (1, .tmp 26), (2, .tmp 28), (3, .tmp 30), (4, .tmp 32), (5, .tmp 34)] rfl hb1) ?_; simp only [List.set_cons_succ, List.set_cons_zero])
  iterate 15 (refine wpV_look rfl rfl rfl rfl rfl (fun K hK => ?_); go_big_quiet_op; refine hK _ ?_; clear hK K)
  (refine wpV_val rfl rfl rfl rfl rfl _ (fun w _ => exec_built [(0, .tmp 22), (1, .tmp 35), (2, .tmp 40), (3, .tmp 45), (4, .tmp 50)] rfl hb2) ?_; simp only [List.set_cons_succ, List.set_cons_zero])
  clear hb1 hb2 q0 q7 q8 q9 p0 p1 p2 p3 p4 p5
  refine wpV_mk rfl rfl rfl [] (by kernel_rfl) (fun vs w7 hC hF => ?_) (fun vs v w7 hC hV hF => ?_)
  · obtain ⟨⟨w7, hk7, -⟩, rfl⟩ := hC
    unfold yields
    go_simp
    exact ⟨⟨Keep.of_grow [] (Grow.alloc w7 _), trivial⟩, ⟨_, _, rfl, Own.made (n := 1) (sz := 10) (heap_alloc_new w7 (.cells (exV e).toArray 41)) rfl (by decide) (exV_one e)⟩⟩
  obtain ⟨ga, ca, rfl, -⟩ := hV
  clear hC hF w7
  simp only [List.set_cons_succ, List.set_cons_zero]
  refine wpV_tn rfl rfl (by kernel_rfl) (fun w7 hC hF => ?_)
  obtain ⟨ga2, ca2, ee, oE⟩ := (hF 35).2 rfl
  obtain ⟨⟨w7, hk7, -⟩, rfl⟩ := hC
  cases ee
  obtain ⟨oo2, oc2, w8, hr, o8, -, k8, b8⟩ := run_app TSt w7 25 (Ho.out.keep hk7 (by simp)) oE.sl (by omega) (by omega)
  refine yields_run (run_exec_append2 hr) ⟨segU _, ⟨(), rfl⟩, ?_⟩
  simp only [List.set_cons_succ, List.set_cons_zero]
  have h1 := Lib.hid (show Own w8 41 10 oo2 (i + 1) oc2 ((l ++ [e]).flatMap exV) by rw [List.flatMap_append]; simpa using o8)
  have h2 := Lib.hid ((hk7.mono (fun _ h => by simp at h : ∀ y ∈ [], y ∈ blk oo)).trans k8)
  have h3 := Lib.hid (show ∀ y ∈ blk oo2, y ∈ blk oo ∨ w.heap.size ≤ y from fun y hy => (b8 y hy).imp id (fun h => Nat.le_trans hk7.size h))
  clear Ho hr o8 k8 b8 oE hF hk7
  unfold segU
  iterate 1 (refine wpV_look rfl rfl rfl rfl rfl (fun K hK => ?_); go_big_quiet_op; refine hK _ ?_; clear hK K)
  refine wpV_nil ?_
  intro w9 hC hF
  obtain ⟨-, rfl⟩ := hC
  exact HQ.out oo2 oc2 _ h1.out h2.out h3.out

set_option maxRecDepth 100000 in
set_option maxHeartbeats 4000000 in
theorem madeC (l : List Ex) (ao : Option Addr) (n c : Nat) (hn : n = l.length) (hn2 : n ≤ 10000) (w : World) (s : Sl w 10 ao n c (l.flatMap exV)) (R : Ending → World → Prop)
    (hR : ∀ oo oc w', Own w' 41 10 oo n oc (l.flatMap exV) → Grow w w' → Fr (blk oo) w → R (.returned (.slice oo n oc)) w') :
    Calls Try.prog 8 #[.slice ao n c] w R := by
  have hml : maxLen = 9223372036854775807 := rfl
  have hks := s.hle
  have hkm := s.hcap
  have Hn := Lib.hid hn
  have HR := Lib.hid hR
  clear hn hR
  go_enter Try.func8, Try.ntmps8
  go_wp2_with fail
  go_loopw [3, 4] (fun vo vi wr => ∃ (i : Nat) (oo : Option Addr) (oc : Nat), vo = .slice oo i oc ∧ vi = .int .i64 (i : Int) ∧ i ≤ n ∧ Own wr 41 10 oo i oc ((l.take i).flatMap exV) ∧ Grow w wr ∧ (∀ y ∈ blk oo, w.heap.size ≤ y)) (fun _ vi _ => n - (intOf vi).toNat)
  case atStart => exact ⟨0, none, 0, rfl, by simp, by omega, Own.none _ _ _, Grow.refl _, by simp [blk]⟩
  case round =>
    obtain ⟨i, oo, oc, rfl, rfl, hi, o, g, fo⟩ := hrel
    by_cases hlt : i < n
    · have hlt2 : i < l.length := by rw [← Hn.out]; exact hlt
      obtain ⟨gb, off, eg, hcs⟩ := (s.grow g).hat (by omega)
      subst eg
      obtain ⟨e, he⟩ : ∃ e, e = l[i]'hlt2 := ⟨_, rfl⟩
      have hci : Cells wr gb (off + i * 10) (exV e) := by rw [he]; exact cells_ex hcs i hlt2
      have hrg : wr.rangeAt gb (off + i * 10 + 1) (exC e) := fun j v hj => by
        have h6 : j < 6 := (List.getElem?_eq_some_iff.1 hj).1
        rw [Nat.add_assoc]
        exact hci.at (i := 1 + j) (by rw [← hj, Nat.add_comm]; simp only [exV, exC, List.getElem?_cons_succ]; match j, h6 with | 0, _ => rfl | 1, _ => rfl | 2, _ => rfl | 3, _ => rfl | 4, _ => rfl | 5, _ => rfl)
      have htk : l.take (i + 1) = l.take i ++ [e] := by rw [List.take_add_one, List.getElem?_eq_getElem hlt2, he]; rfl
      have Htk := Lib.hid htk
      have hsz : (Try.prog.info? 35).map (·.size) = some (exC e).length := by kernel_rfl
      obtain ⟨o4, ga1, th1, al1⟩ := newvarZ (n := 6) (t := 35) wr cmZ rfl cmZ_one (by omega) (F := exC e) rfl (exC_one e)
      have hszF : (Try.prog.info? 35).map (·.size) = some (exC e).toArray.size := by kernel_rfl
      have hEl := exC_len e
      have h6 := made6
      have hci3 := hci.keep (Keep.of_grow [] ga1) (by simp)
      obtain ⟨X, hX⟩ : ∃ X, X = exC e := ⟨_, rfl⟩
      have HX := Lib.hid hX
      rw [← hX] at hrg hsz o4 ga1 th1 al1 hszF hEl hci3
      clear htk hcs he hX hci
      go_upto_region 6 with (first | (refine wpList_load_mid rfl 35 _ rfl gb (off + i * 10 + 1) rfl X _ hrg Try.underlying35 rfl hsz ?_) | (refine wpList_store_mid rfl 35 _ _ rfl wr.heap.size 0 X.toArray rfl rfl th1 hszF al1 ?_))
      change Code.wp _ _ _ ⟨_, _⟩ ((wr.alloc (.cells cmZ.toArray 35)).setCells wr.heap.size 0 X)
      have G3 := g.trans ga1
      have o3 := o.grow ga1
      generalize (wr.alloc (.cells cmZ.toArray 35)).setCells wr.heap.size 0 X = w3 at *
      obtain ⟨q, hq⟩ : ∃ q, q = wr.heap.size := ⟨_, rfl⟩
      rw [← hq] at o4 ⊢
      clear hq th1 al1 ga1 hszF hrg o g
      obtain ⟨gl, off6, eg, hcq⟩ := o4.sl.hat (by omega)
      cases eg
      refine h6 q gb off n c i hlt (by omega) oo oc (l.take i) e w3 hci3 (by rw [← HX.out]; exact hcq) o3 ?_
      clear h6 hci3 hcq o4 o3
      intro oo2 oc2 w4 o5 k5 b5
      intros
      rw [← Htk.out] at o5
      have G4 := G3.then k5 fo
      have hz3 := G3.size
      clear k5 G3 HX hsz
      go_wp2_with fail
      exact ⟨⟨i + 1, oo2, oc2, rfl, by go_num, by omega, o5, G4, fun y hy => by
        rcases b5 y hy with h | h
        · exact fo y h
        · omega⟩, by simp [intOf]; omega⟩
    · obtain rfl : i = n := by omega
      rw [List.take_of_length_le (by rw [← Hn.out]; exact Nat.le_refl _)] at o
      have hf := HR.out oo oc wr o g fo
      clear HR o g
      go_wp2_with fail
      exact hf
theorem built_cmR (p o : ByteArray) (k f c : Int) (da : Option Addr) (dn dc : Nat) : Try.prog.built 35 [(0, .int .i64 k), (1, .string p), (2, .string o), (3, .int .i64 f), (4, .int .i64 c), (5, .slice da dn dc)] = some #[.int .i64 k, .string p, .string o, .int .i64 f, .int .i64 c, .slice da dn dc] := by kernel_rfl
theorem built_stR (p o : ByteArray) (ki k f c n : Int) (da : Option Addr) (dn dc : Nat) (ka : Option Addr) (kn kc : Nat) (ba : Option Addr) (bn bc : Nat) : Try.prog.built 38 [(0, .int .i64 ki), (1, .agg #[.int .i64 k, .string p, .string o, .int .i64 f, .int .i64 c, .slice da dn dc]), (2, .int .i64 n), (3, .slice ka kn kc), (4, .slice ba bn bc)] = some #[.int .i64 ki, .int .i64 k, .string p, .string o, .int .i64 f, .int .i64 c, .slice da dn dc, .int .i64 n, .slice ka kn kc, .slice ba bn bc] := by kernel_rfl

set_option maxRecDepth 100000 in
set_option maxHeartbeats 4000000 in
theorem back6 (q gb off n c i : Nat) (hi : i < n) (hic : i ≤ 100000) (oo : Option Addr) (oc : Nat) (l : List Ex) (e : Ex) {c1 c2 c6 c7 c8 c9 c10 c11 c12 c13 c14 c15 c16 c17 c18 c19 c20 c21 c22 c23 c24 c25 c26 c27 c28 c29 c30 c31 c32 c33 c34 c35 c36 c37 c38 c39 c40 c41 c42 c43 c44 c45 c46 c47 c48 c49 c50 c51 c52 c53 c54 : Value} (w : World) (hc : Cells w gb (off + i * 10) (exV e)) (hq : Cells w q 0 (exC e)) (o : Own w 38 10 oo i oc (l.flatMap exV)) {Q : Exit → Act → World → Prop}
    (hQ : ∀ (oo' : Option Addr) (oc' : Nat) (w' : World), Own w' 38 10 oo' (i + 1) oc' ((l ++ [e]).flatMap exV) → Keep (blk oo) w w' → (∀ y ∈ blk oo', y ∈ blk oo ∨ w.heap.size ≤ y) → ∀ {u17 u18 u19 u20 u21 u22 u23 u24 u25 u26 u27 u28 u29 u30 u31 u32 u33 u34 u35 u36 u37 u38 u39 u40 u41 u42 u43 u44 u45 u46 u47 u48 u49 u50 u51 u52 u53 : Value}, Q .normal ⟨List.toArray (.slice (some ⟨gb, off, none⟩) n c :: c1 :: c2 :: .slice oo' (i + 1) oc' :: .int .i64 (i : Int) :: .pointer (some ⟨q, 0, none⟩) :: c6 :: c7 :: c8 :: c9 :: c10 :: c11 :: c12 :: c13 :: c14 :: c15 :: c16 :: u17 :: u18 :: u19 :: u20 :: u21 :: u22 :: u23 :: u24 :: u25 :: u26 :: u27 :: u28 :: u29 :: u30 :: u31 :: u32 :: u33 :: u34 :: u35 :: u36 :: u37 :: u38 :: u39 :: u40 :: u41 :: u42 :: u43 :: u44 :: u45 :: u46 :: u47 :: u48 :: u49 :: u50 :: u51 :: u52 :: u53 :: c54 :: []), []⟩ w') :
    Code.wp Try.prog (regionAt Try.f11 6) Q ⟨List.toArray (.slice (some ⟨gb, off, none⟩) n c :: c1 :: c2 :: .slice oo i oc :: .int .i64 (i : Int) :: .pointer (some ⟨q, 0, none⟩) :: c6 :: c7 :: c8 :: c9 :: c10 :: c11 :: c12 :: c13 :: c14 :: c15 :: c16 :: c17 :: c18 :: c19 :: c20 :: c21 :: c22 :: c23 :: c24 :: c25 :: c26 :: c27 :: c28 :: c29 :: c30 :: c31 :: c32 :: c33 :: c34 :: c35 :: c36 :: c37 :: c38 :: c39 :: c40 :: c41 :: c42 :: c43 :: c44 :: c45 :: c46 :: c47 :: c48 :: c49 :: c50 :: c51 :: c52 :: c53 :: c54 :: []), []⟩ w := by
  have hml : maxLen = 9223372036854775807 := rfl
  have hb1 := built_cmR (str e.s.cmd.pass) (str e.s.cmd.other) e.s.cmd.kind e.s.cmd.first e.s.cmd.count e.da e.s.cmd.data.length e.dc
  have hb2 := built_stR (str e.s.cmd.pass) (str e.s.cmd.other) e.s.kind e.s.cmd.kind e.s.cmd.first e.s.cmd.count e.s.n e.da e.s.cmd.data.length e.dc e.ka e.s.keep.length e.kc e.ba e.s.data.length e.bc
  have q0 := KW.cell (fp := []) (p0 := tt) (hc.at (i := 0) (v := .int .i64 e.s.kind) rfl) (by simp)
  have q7 := KW.cell (fp := []) (p0 := tt) (hc.at (i := 7) (v := .int .i64 e.s.n) rfl) (by simp)
  have q8 := KW.cell (fp := []) (p0 := tt) (hc.at (i := 8) (v := .slice e.ka e.s.keep.length e.kc) rfl) (by simp)
  have q9 := KW.cell (fp := []) (p0 := tt) (hc.at (i := 9) (v := .slice e.ba e.s.data.length e.bc) rfl) (by simp)
  have p0 := KW.cell (fp := []) (p0 := tt) (hq.at (i := 0) (v := .int .i64 e.s.cmd.kind) rfl) (by simp)
  have p1 := KW.cell (fp := []) (p0 := tt) (hq.at (i := 1) (v := .string (str e.s.cmd.pass)) rfl) (by simp)
  have p2 := KW.cell (fp := []) (p0 := tt) (hq.at (i := 2) (v := .string (str e.s.cmd.other)) rfl) (by simp)
  have p3 := KW.cell (fp := []) (p0 := tt) (hq.at (i := 3) (v := .int .i64 e.s.cmd.first) rfl) (by simp)
  have p4 := KW.cell (fp := []) (p0 := tt) (hq.at (i := 4) (v := .int .i64 e.s.cmd.count) rfl) (by simp)
  have p5 := KW.cell (fp := []) (p0 := tt) (hq.at (i := 5) (v := .slice e.da e.s.cmd.data.length e.dc) rfl) (by simp)
  simp only [Nat.add_zero, Nat.zero_add] at q0 p0 p1 p2 p3 p4 p5
  have Ho := Lib.hid o
  have HQ := Lib.hid hQ
  clear hc hq o hQ
  conv => arg 2; whnf
  refine wp_region_R (segT w [(35, pOw 38 10 1 (exV e))]) (by kernel_rfl) segT_drew ?_
  unfold segT segK segR
  iterate 18 (refine wpV_look rfl rfl rfl rfl rfl (fun K hK => ?_); go_big_quiet_op; refine hK _ ?_; clear hK K)
  (refine wpV_val rfl rfl rfl rfl rfl _ (fun w _ => exec_built [(0, .tmp 24), (1, .tmp 26), (2, .tmp 28), (3, .tmp 30), (4, .tmp 32), (5, .tmp 34)] rfl hb1) ?_; simp only [List.set_cons_succ, List.set_cons_zero])
  iterate 15 (refine wpV_look rfl rfl rfl rfl rfl (fun K hK => ?_); go_big_quiet_op; refine hK _ ?_; clear hK K)
  (refine wpV_val rfl rfl rfl rfl rfl _ (fun w _ => exec_built [(0, .tmp 22), (1, .tmp 35), (2, .tmp 40), (3, .tmp 45), (4, .tmp 50)] rfl hb2) ?_; simp only [List.set_cons_succ, List.set_cons_zero])
  clear hb1 hb2 q0 q7 q8 q9 p0 p1 p2 p3 p4 p5
  refine wpV_mk rfl rfl rfl [] (by kernel_rfl) (fun vs w7 hC hF => ?_) (fun vs v w7 hC hV hF => ?_)
  · obtain ⟨⟨w7, hk7, -⟩, rfl⟩ := hC
    unfold yields
    go_simp
    exact ⟨⟨Keep.of_grow [] (Grow.alloc w7 _), trivial⟩, ⟨_, _, rfl, Own.made (n := 1) (sz := 10) (heap_alloc_new w7 (.cells (exV e).toArray 38)) rfl (by decide) (exV_one e)⟩⟩
  obtain ⟨ga, ca, rfl, -⟩ := hV
  clear hC hF w7
  simp only [List.set_cons_succ, List.set_cons_zero]
  refine wpV_tn rfl rfl (by kernel_rfl) (fun w7 hC hF => ?_)
  obtain ⟨ga2, ca2, ee, oE⟩ := (hF 35).2 rfl
  obtain ⟨⟨w7, hk7, -⟩, rfl⟩ := hC
  cases ee
  obtain ⟨oo2, oc2, w8, hr, o8, -, k8, b8⟩ := run_app TSr w7 22 (Ho.out.keep hk7 (by simp)) oE.sl (by omega) (by omega)
  refine yields_run (run_exec_append2 hr) ⟨segU _, ⟨(), rfl⟩, ?_⟩
  simp only [List.set_cons_succ, List.set_cons_zero]
  have h1 := Lib.hid (show Own w8 38 10 oo2 (i + 1) oc2 ((l ++ [e]).flatMap exV) by rw [List.flatMap_append]; simpa using o8)
  have h2 := Lib.hid ((hk7.mono (fun _ h => by simp at h : ∀ y ∈ [], y ∈ blk oo)).trans k8)
  have h3 := Lib.hid (show ∀ y ∈ blk oo2, y ∈ blk oo ∨ w.heap.size ≤ y from fun y hy => (b8 y hy).imp id (fun h => Nat.le_trans hk7.size h))
  clear Ho hr o8 k8 b8 oE hF hk7
  unfold segU
  iterate 1 (refine wpV_look rfl rfl rfl rfl rfl (fun K hK => ?_); go_big_quiet_op; refine hK _ ?_; clear hK K)
  refine wpV_nil ?_
  intro w9 hC hF
  obtain ⟨-, rfl⟩ := hC
  exact HQ.out oo2 oc2 _ h1.out h2.out h3.out

set_option maxRecDepth 100000 in
set_option maxHeartbeats 4000000 in
theorem backC (l : List Ex) (ao : Option Addr) (n c : Nat) (hn : n = l.length) (hn2 : n ≤ 10000) (w : World) (s : Sl w 10 ao n c (l.flatMap exV)) (R : Ending → World → Prop)
    (hR : ∀ oo oc w', Own w' 38 10 oo n oc (l.flatMap exV) → Grow w w' → Fr (blk oo) w → R (.returned (.slice oo n oc)) w') :
    Calls Try.prog 11 #[.slice ao n c] w R := by
  have hml : maxLen = 9223372036854775807 := rfl
  have hks := s.hle
  have hkm := s.hcap
  have Hn := Lib.hid hn
  have HR := Lib.hid hR
  clear hn hR
  go_enter Try.func11, Try.ntmps11
  go_wp2_with fail
  go_loopw [3, 4] (fun vo vi wr => ∃ (i : Nat) (oo : Option Addr) (oc : Nat), vo = .slice oo i oc ∧ vi = .int .i64 (i : Int) ∧ i ≤ n ∧ Own wr 38 10 oo i oc ((l.take i).flatMap exV) ∧ Grow w wr ∧ (∀ y ∈ blk oo, w.heap.size ≤ y)) (fun _ vi _ => n - (intOf vi).toNat)
  case atStart => exact ⟨0, none, 0, rfl, by simp, by omega, Own.none _ _ _, Grow.refl _, by simp [blk]⟩
  case round =>
    obtain ⟨i, oo, oc, rfl, rfl, hi, o, g, fo⟩ := hrel
    by_cases hlt : i < n
    · have hlt2 : i < l.length := by rw [← Hn.out]; exact hlt
      obtain ⟨gb, off, eg, hcs⟩ := (s.grow g).hat (by omega)
      subst eg
      obtain ⟨e, he⟩ : ∃ e, e = l[i]'hlt2 := ⟨_, rfl⟩
      have hci : Cells wr gb (off + i * 10) (exV e) := by rw [he]; exact cells_ex hcs i hlt2
      have hrg : wr.rangeAt gb (off + i * 10 + 1) (exC e) := fun j v hj => by
        have h6 : j < 6 := (List.getElem?_eq_some_iff.1 hj).1
        rw [Nat.add_assoc]
        exact hci.at (i := 1 + j) (by rw [← hj, Nat.add_comm]; simp only [exV, exC, List.getElem?_cons_succ]; match j, h6 with | 0, _ => rfl | 1, _ => rfl | 2, _ => rfl | 3, _ => rfl | 4, _ => rfl | 5, _ => rfl)
      have htk : l.take (i + 1) = l.take i ++ [e] := by rw [List.take_add_one, List.getElem?_eq_getElem hlt2, he]; rfl
      have Htk := Lib.hid htk
      have hsz : (Try.prog.info? 39).map (·.size) = some (exC e).length := by kernel_rfl
      obtain ⟨o4, ga1, th1, al1⟩ := newvarZ (n := 6) (t := 39) wr cmZ rfl cmZ_one (by omega) (F := exC e) rfl (exC_one e)
      have hszF : (Try.prog.info? 39).map (·.size) = some (exC e).toArray.size := by kernel_rfl
      have hEl := exC_len e
      have h6 := back6
      have hci3 := hci.keep (Keep.of_grow [] ga1) (by simp)
      obtain ⟨X, hX⟩ : ∃ X, X = exC e := ⟨_, rfl⟩
      have HX := Lib.hid hX
      rw [← hX] at hrg hsz o4 ga1 th1 al1 hszF hEl hci3
      clear htk hcs he hX hci
      go_upto_region 6 with (first | (refine wpList_load_mid rfl 39 _ rfl gb (off + i * 10 + 1) rfl X _ hrg Try.underlying39 rfl hsz ?_) | (refine wpList_store_mid rfl 39 _ _ rfl wr.heap.size 0 X.toArray rfl rfl th1 hszF al1 ?_))
      change Code.wp _ _ _ ⟨_, _⟩ ((wr.alloc (.cells cmZ.toArray 39)).setCells wr.heap.size 0 X)
      have G3 := g.trans ga1
      have o3 := o.grow ga1
      generalize (wr.alloc (.cells cmZ.toArray 39)).setCells wr.heap.size 0 X = w3 at *
      obtain ⟨q, hq⟩ : ∃ q, q = wr.heap.size := ⟨_, rfl⟩
      rw [← hq] at o4 ⊢
      clear hq th1 al1 ga1 hszF hrg o g
      obtain ⟨gl, off6, eg, hcq⟩ := o4.sl.hat (by omega)
      cases eg
      refine h6 q gb off n c i hlt (by omega) oo oc (l.take i) e w3 hci3 (by rw [← HX.out]; exact hcq) o3 ?_
      clear h6 hci3 hcq o4 o3
      intro oo2 oc2 w4 o5 k5 b5
      intros
      rw [← Htk.out] at o5
      have G4 := G3.then k5 fo
      have hz3 := G3.size
      clear k5 G3 HX hsz
      go_wp2_with fail
      exact ⟨⟨i + 1, oo2, oc2, rfl, by go_num, by omega, o5, G4, fun y hy => by
        rcases b5 y hy with h | h
        · exact fo y h
        · omega⟩, by simp [intOf]; omega⟩
    · obtain rfl : i = n := by omega
      rw [List.take_of_length_le (by rw [← Hn.out]; exact Nat.le_refl _)] at o
      have hf := HR.out oo oc wr o g fo
      clear HR o g
      go_wp2_with fail
      exact hf
end Go.Proofs.Ytgchbcopbkoomaa
