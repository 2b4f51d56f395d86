/- What the document fixes of scripts without their hidden volume: awake. -/
import Derived.Test.YtgchbcopbkoomaaBs25
namespace Go.Proofs.Ytgchbcopbkoomaa
open Go Go.RowKit

def aw0 : CmX := ⟨1, [97], [], 0, 0, []⟩
def aw1 : CmX := ⟨2, [97], [98], 10, 48, []⟩
def aw2 : CmX := ⟨4, [97], [98], 0, 0, []⟩
def aw3 (l : List UInt8) : CmX := ⟨6, [], [], 20, 0, l⟩
def aw4 : CmX := ⟨8, [], [], 0, 0, []⟩
def awE (l : List UInt8) (q : Nat) : List Ex := [doE aw0 none 0, doE aw1 none 0, doE aw2 none 0, doE (aw3 l) (some ⟨q, 0, none⟩) 64, doE aw4 none 0]
def dS (c : CmX) : StX := ⟨1, c, 0, [], []⟩
def awS (l : List UInt8) : List StX := [dS aw0, dS aw1, dS aw2, dS (aw3 l), dS aw4]
theorem awE_s (l : List UInt8) (q : Nat) : (awE l q).map (·.s) = awS l := rfl
theorem aw_k (l : List UInt8) (hl : l.length = 64) : kindsS 200 startS (awS l) = some [1, 2, 3, 2, 1] := by
  simp [kindsS, awS, dS, aw0, aw1, aw2, aw3, aw4, stepS, startS, looseS, heldS, createS, writeS, insideS, outD, Sy.opens, Sy.within, Sy.size, Sy.into, lapS, hasS, datS, shadeS, hl]
theorem aw_p (l : List UInt8) : projS (awS l) [1, 2, 3, 2, 1] = [dS aw0, turnX (dS aw2), dS aw4] := by
  simp [projS, awS]
theorem aw_k1 (l : List UInt8) : kindsS 200 startS ((awS l).drop 1) = none := by
  simp [kindsS, awS, dS, aw1, stepS, startS]
theorem aw_k2 : kindsT 200 [dS aw1] = [4] := by
  simp [kindsT, kindsS, dS, aw1, stepS, startS]
theorem awE_g (l : List UInt8) (hl : l.length = 64) (q : Nat) (w : World) (o : Sl w 1 (some ⟨q, 0, none⟩) 64 64 (l.map B)) : ∀ e ∈ awE l q, exG w e := by
  intro e he
  have hn : ∀ c : CmX, c.data = [] → exG w (doE c none 0) := fun c hc => ⟨by show Sl w 1 none c.data.length 0 (c.data.map B); rw [hc]; exact (Own.none w 5 1).sl, (Own.none w 5 1).sl, (Own.none w 5 1).sl⟩
  simp only [awE, List.mem_cons, List.not_mem_nil, or_false] at he
  rcases he with rfl | rfl | rfl | rfl | rfl
  · exact hn _ rfl
  · exact hn _ rfl
  · exact hn _ rfl
  · exact ⟨by show Sl w 1 _ l.length 64 (l.map B); rw [hl]; exact o, (Own.none w 5 1).sl, (Own.none w 5 1).sl⟩
  · exact hn _ rfl
theorem exs_drop : ∀ (l : List Ex) (k : Nat), (l.flatMap exV).drop (k * 10) = (l.drop k).flatMap exV
  | l, 0 => by simp
  | [], k + 1 => by simp
  | e :: l, k + 1 => by
    rw [List.flatMap_cons, List.drop_succ_cons, ← exs_drop l k, Nat.add_mul, Nat.one_mul, Nat.add_comm, ← List.drop_drop, List.drop_left' (exV_len e)]
theorem exs_take : ∀ (l : List Ex) (k : Nat), (l.flatMap exV).take (k * 10) = (l.take k).flatMap exV
  | l, 0 => by simp
  | [], k + 1 => by simp
  | e :: l, k + 1 => by
    rw [List.flatMap_cons, List.take_succ_cons, List.flatMap_cons, ← exs_take l k, Nat.add_mul, Nat.one_mul, Nat.add_comm, List.take_append, exV_len, List.take_of_length_le (by rw [exV_len]; omega), Nat.add_sub_cancel_left]
theorem mkL5 (w : World) : (Instr.makeSlice 48 (.int .i64 5) (.int .i64 5)).run Try.prog w = .ok (.slice (some ⟨w.heap.size, 0, none⟩) 5 5) (w.alloc (.cells (linS 5).toArray 64)) := by kernel_rfl
theorem linS_one (n : Nat) : ∀ v ∈ linS n, v.oneCell' = true := fun v hv => by
  obtain ⟨l, hl, he⟩ := List.mem_flatten.1 hv
  rw [List.eq_of_mem_replicate hl] at he
  exact linZ_one v he

set_option maxRecDepth 100000 in
set_option maxHeartbeats 4000000 in
theorem awR5 (gL : Nat) (o2 : Option Addr) (c2 gp op oc : Nat) (_ : 3 ≤ oc) (_ : oc ≤ maxLen) {c0 c5 c7 c8 c9 c10 c11 c12 c13 c14 c15 c16 c17 c18 c19 c20 c21 c22 c23 c24 c25 c26 c27 c28 c29 c30 c31 c32 c33 c34 c35 c36 c37 c38 c39 c40 c41 c42 c43 c44 c45 c46 c47 c48 c49 c50 c51 c52 c53 c54 c55 c56 c57 c58 c59 c60 c61 c62 c63 c64 c65 c66 c67 c68 c69 c70 c71 c72 c73 c74 c75 c76 c77 c78 c79 c80 : Value} (w : World) (s2 : Sl w 1 o2 5 c2 ([1, 2, 3, 2, 1].map (.int .i64))) (p1 : w.cell? ⟨gp, op + 11, none⟩ = some (.int .i64 3)) (p2 : w.cell? ⟨gp, op + 13, none⟩ = some (.string ⟨#[]⟩)) (s5 : Sl w 10 (some ⟨gL, 10, none⟩) 1 4 ([doE aw1 none 0].flatMap exV)) {Q : Exit → Act → World → Prop}
    (hQ : ∀ w', Grow w w' → ∀ {u35 u36 u37 u38 u39 u40 u41 u42 u43 u44 u45 u46 u47 u48 u49 u50 u51 u52 u53 u54 u55 u56 u57 u58 u59 u60 u61 u62 u63 u64 u65 u66 u67 u68 u69 u70 u71 u72 u73 u74 u75 u76 u77 u78 u79 u80 : Value}, Q .normal ⟨List.toArray (.bool true :: .slice (some ⟨gL, 0, none⟩) 5 5 :: .slice o2 5 c2 :: .slice (some ⟨gp, op, none⟩) 3 oc :: .bool true :: c5 :: .bool false :: c7 :: c8 :: c9 :: c10 :: c11 :: c12 :: c13 :: c14 :: c15 :: c16 :: c17 :: c18 :: c19 :: c20 :: c21 :: c22 :: c23 :: c24 :: c25 :: c26 :: c27 :: c28 :: c29 :: c30 :: c31 :: c32 :: c33 :: c34 :: u35 :: u36 :: u37 :: u38 :: u39 :: u40 :: u41 :: u42 :: u43 :: u44 :: u45 :: u46 :: u47 :: u48 :: u49 :: u50 :: u51 :: u52 :: u53 :: u54 :: u55 :: u56 :: u57 :: u58 :: u59 :: u60 :: u61 :: u62 :: u63 :: u64 :: u65 :: u66 :: u67 :: u68 :: u69 :: u70 :: u71 :: u72 :: u73 :: u74 :: u75 :: u76 :: u77 :: u78 :: u79 :: u80 :: []), []⟩ w') :
    Code.wp Try.prog (regionAt Try.f6 5) Q ⟨List.toArray (c0 :: .slice (some ⟨gL, 0, none⟩) 5 5 :: .slice o2 5 c2 :: .slice (some ⟨gp, op, none⟩) 3 oc :: .bool true :: c5 :: .bool false :: c7 :: c8 :: c9 :: c10 :: c11 :: c12 :: c13 :: c14 :: c15 :: c16 :: c17 :: c18 :: c19 :: c20 :: c21 :: c22 :: c23 :: c24 :: c25 :: c26 :: c27 :: c28 :: c29 :: c30 :: c31 :: c32 :: c33 :: c34 :: c35 :: c36 :: c37 :: c38 :: c39 :: c40 :: c41 :: c42 :: c43 :: c44 :: c45 :: c46 :: c47 :: c48 :: c49 :: c50 :: c51 :: c52 :: c53 :: c54 :: c55 :: c56 :: c57 :: c58 :: c59 :: c60 :: c61 :: c62 :: c63 :: c64 :: c65 :: c66 :: c67 :: c68 :: c69 :: c70 :: c71 :: c72 :: c73 :: c74 :: c75 :: c76 :: c77 :: c78 :: c79 :: c80 :: []), []⟩ w := by
  have hml : maxLen = 9223372036854775807 := rfl
  have HQ := Lib.hid hQ
  have S2 := Lib.hid s2
  have S5 := Lib.hid s5
  have P1 := Lib.hid p1
  have P2 := Lib.hid p2
  clear hQ s2 s5 p1 p2
  conv => arg 2; whnf
  go_wp2_with fail
  refine intsC [1, 2, 3, 2, 1] 5 rfl (by omega) _ _ _ _ _ (S2.out.grow (Grow.alloc w _)) (Own.made (n := 5) (sz := 1) (heap_alloc_new w (.cells #[.int .i64 1, .int .i64 2, .int .i64 3, .int .i64 2, .int .i64 1] 3)) rfl (by decide) (by simp [Value.oneCell'])).sl _ ?_
  intro w14 g14
  have G14 := (Grow.alloc w (.cells #[.int .i64 1, .int .i64 2, .int .i64 3, .int .i64 2, .int .i64 1] 3)).trans g14
  have q1 := G14.cell P1.out
  have q2 := G14.cell P2.out
  clear g14
  go_wp2_with fail
  clear q1 q2
  refine madeC [doE aw1 none 0] _ 1 4 rfl (by omega) w14 (S5.out.grow G14) _ ?_
  intro o3 c3 w15 own15 g15 _
  go_wp2_with fail
  refine kindsC 200 (by omega) (by omega) [doE aw1 none 0] _ 1 _ rfl (by omega) (fun e he => by simp only [List.mem_cons, List.not_mem_nil, or_false] at he; subst he; simp [doE, aw1]) w15 own15.sl _ ?_
  intro o4 c4 w16 own16 g16 _
  have ek : kindsT 200 ([doE aw1 none 0].map (·.s)) = [4] := aw_k2
  rw [ek] at own16
  clear ek own15
  go_wp2_with fail
  have gI := Grow.alloc w16 (.cells #[.int .i64 4] 3)
  refine intsC [4] 1 rfl (by omega) _ _ _ _ _ (own16.sl.grow gI) (Own.made (n := 1) (sz := 1) (heap_alloc_new w16 (.cells #[.int .i64 4] 3)) rfl (by decide) (by simp [Value.oneCell'])).sl _ ?_
  clear own16
  intro w17 g17
  have G17 := G14.trans (g15.trans (g16.trans (gI.trans g17)))
  clear G14 g15 g16 gI g17
  have hmk := mkL5 w17
  have gL5 := Grow.alloc w17 (.cells (linS 5).toArray 64)
  have oL5 : Own (w17.alloc (.cells (linS 5).toArray 64)) 64 3 (some ⟨w17.heap.size, 0, none⟩) 5 5 (linS 5) := Own.made (n := 5) (sz := 3) (heap_alloc_new w17 _) rfl (by decide) (linS_one 5)
  generalize w17.alloc (.cells (linS 5).toArray 64) = w18 at *
  go_wp2_with fail
  refine answersC [1, 2, 3, 2, 1] 5 rfl (by omega) _ _ _ _ _ (S2.out.grow (G17.trans gL5)) oL5.sl _ ?_
  intro oo9 oc9 w19 g19
  rw [show kept [1, 2, 3, 2, 1] = 3 from rfl]
  have G19 := G17.trans (gL5.trans g19)
  clear hmk gL5 oL5 G17 g19
  go_wp2_with fail
  exact HQ.out _ G19
set_option maxRecDepth 100000 in
set_option maxHeartbeats 4000000 in
theorem awake25C (w : World) (R : Ending → World → Prop) (hR : ∀ w', Grow w w' → R (.returned (.bool true)) w') :
    Calls Try.prog 6 #[] w R := by
  have hml : maxLen = 9223372036854775807 := rfl
  have HR := Lib.hid hR
  clear hR
  go_enter Try.func6, Try.ntmps6
  go_wp2_with fail
  refine doC aw0 none 0 _ _ ?_
  intro w1 g1
  go_wp2_with fail
  refine doC aw1 none 0 _ _ ?_
  intro w2 g2
  go_wp2_with fail
  refine doC aw2 none 0 _ _ ?_
  intro w3 g3
  go_wp2_with fail
  refine sectorC _ _ _ ?_
  intro q l w4 hl oq g4 hq
  go_wp2_with fail
  have hd3 := fun w R hR => doC (aw3 l) (some ⟨q, 0, none⟩) 64 w R hR
  have e3 : (doV (aw3 l) (some ⟨q, 0, none⟩) 64).toArray = #[.int .i64 6, .string (str []), .string (str []), .int .i64 20, .int .i64 0, .slice (some ⟨q, 0, none⟩) 64 64] := by rw [← hl]; rfl
  rw [e3] at hd3
  refine hd3 _ _ ?_
  clear hd3 e3
  intro w5 g5
  go_wp2_with fail
  refine doC aw4 none 0 _ _ ?_
  intro w6 g6
  have sq := oq.sl.grow (g5.trans g6)
  have G6 := g1.trans (g2.trans (g3.trans (g4.trans (g5.trans g6))))
  clear g1 g2 g3 g4 g5 g6 oq hq
  go_wp2_with (refine wpList_bs5 rfl (.tmp 8) (.tmp 10) (.tmp 12) (.tmp 15) (.tmp 17) (doE aw0 none 0) (doE aw1 none 0) (doE aw2 none 0) (doE (aw3 l) (some ⟨q, 0, none⟩) 64) (doE aw4 none 0) rfl rfl rfl rfl rfl rfl ?_; intro gL w7 g7 _ oL)
  have hL : awE l q = [doE aw0 none 0, doE aw1 none 0, doE aw2 none 0, doE (aw3 l) (some ⟨q, 0, none⟩) 64, doE aw4 none 0] := rfl
  rw [← hL] at oL
  have hg7 := awE_g l hl q w7 (sq.grow g7)
  have G7 := G6.trans g7
  have hLs : (awE l q).map (·.s) = awS l := rfl
  have hLn : (awE l q).length = 5 := rfl
  have hLd : ∀ e ∈ awE l q, e.s.cmd.data.length ≤ 1000000 ∧ e.s.keep.length ≤ 1000000 ∧ e.s.data.length ≤ 1000000 := fun e he => by
    simp only [awE, List.mem_cons, List.not_mem_nil, or_false] at he
    rcases he with rfl | rfl | rfl | rfl | rfl <;> simp [doE, aw0, aw1, aw2, aw3, aw4, hl]
  have hk := aw_k l hl
  have hp := aw_p l
  have hk1 := aw_k1 l
  have hdr : ((awE l q).drop 1).map (·.s) = (awS l).drop 1 := rfl
  have htk : ((awE l q).drop 1).take 1 = [doE aw1 none 0] := rfl
  have hg8 : ∀ {w'}, Grow w7 w' → ∀ e ∈ awE l q, exG w' e := fun g e he => (hg7 e he).grow g
  clear hL sq G6 g7 hg7
  generalize awE l q = L at *
  have oL' := Lib.hid oL
  have Hk := Lib.hid hk
  have Hp := Lib.hid hp
  have Hk1 := Lib.hid hk1
  have Hdr := Lib.hid hdr
  have Htk := Lib.hid htk
  have HLs := Lib.hid hLs
  have HLn := Lib.hid hLn
  have HLd := Lib.hid hLd
  clear hk hp hk1 hdr htk hLs hLn hLd
  refine madeC L _ 5 5 HLn.out.symm (by omega) w7 oL.sl _ ?_
  clear oL
  intro o1 c1 w8 own8 g8 _
  go_wp2_with fail
  refine kindsC 200 (by omega) (by omega) L _ 5 _ HLn.out.symm (by omega) (fun e he => (HLd.out e he).1) w8 own8.sl _ ?_
  intro o2 c2 w9 own9 g9 _
  have eK : kindsT 200 (L.map (·.s)) = [1, 2, 3, 2, 1] := by rw [HLs.out, kindsT, Hk.out]; rfl
  rw [eK] at own9
  clear eK own8
  have g79 := g8.trans g9
  go_wp2_with fail
  refine madeC L _ 5 5 HLn.out.symm (by omega) w9 (oL'.out.sl.grow g79) _ ?_
  intro o3 c3 w10 own10 g10 _
  go_wp2_with fail
  have g710 := g79.trans g10
  refine projC 200 (by omega) (by omega) L _ 5 _ HLn.out.symm (by omega) HLd.out w10 own10.sl (hg8 g710) _ (fun h => ?_) ?_
  · exfalso
    rcases h with h | h
    · omega
    · rw [HLs.out, Hk.out] at h; cases h
  intro ks hks _ lo oo m oc w11 ownP hlm hlp hlg g11
  have e1 : ks = [1, 2, 3, 2, 1] := by rw [HLs.out, Hk.out] at hks; exact (Option.some.inj hks).symm
  subst e1
  rw [HLs.out, Hp.out] at hlp
  have Hlp := Lib.hid hlp
  have hm : m = 3 := by rw [← hlm]; have := congrArg List.length hlp; simpa using this
  subst hm
  clear hks hlm hlp own10
  have g711 := g710.trans g11
  go_wp2_with fail
  have s4 : Sl w7 10 (some ⟨gL, 10, none⟩) 4 4 ((L.drop 1).flatMap exV) := by
    have h := oL'.out.sl.cut (lo := 1) (hi := 5) (by omega) (by omega)
    rw [exs_drop, List.take_of_length_le (by rw [exs_len, List.length_drop, HLn.out]; exact Nat.le_refl _)] at h
    exact h
  refine madeC (L.drop 1) _ 4 4 (by rw [List.length_drop, HLn.out]) (by omega) w11 (s4.grow g711) _ ?_
  intro o4 c4 w12 own12 g12 _
  have g712 := g711.trans g12
  go_wp2_with fail
  refine projC 200 (by omega) (by omega) (L.drop 1) _ 4 _ (by rw [List.length_drop, HLn.out]) (by omega) (fun e he => HLd.out e (List.mem_of_mem_drop he)) w12 own12.sl (fun e he => hg8 g712 e (List.mem_of_mem_drop he)) _ ?_ (fun ks hks => ?_)
  rotate_left
  · exfalso
    rw [Hdr.out, Hk1.out] at hks; cases hks
  intro _ w13 g13
  have g713 := g712.trans g13
  go_upto_region 5 with (fail)
  obtain ⟨gp, op, eoo, hcp⟩ := (ownP.sl.grow (g12.trans g13)).hat (by omega)
  subst eoo
  have ⟨e0, e1, e2, hlo, hes⟩ : ∃ e0 e1 e2, lo = [e0, e1, e2] ∧ e1.s = turnX (dS aw2) := by
    match lo, Hlp.out with
    | [e0, e1, e2], h => exact ⟨e0, e1, e2, rfl, by simp at h; exact h.2.1⟩
  have c1 : Cells w13 gp (op + 1 * 10) (exV e1) := by
    have := cells_ex hcp 1 (by rw [hlo]; simp)
    subst hlo
    exact this
  have p1 : w13.cell? ⟨gp, op + 11, none⟩ = some (.int .i64 3) := by
    have := c1.at (i := 1) (v := .int .i64 e1.s.cmd.kind) rfl
    rw [hes] at this; exact this
  have p2 : w13.cell? ⟨gp, op + 13, none⟩ = some (.string ⟨#[]⟩) := by
    have := c1.at (i := 3) (v := .string (str e1.s.cmd.other)) rfl
    rw [hes] at this; exact this
  have hoc := ownP.sl.hle
  have hocm := ownP.sl.hcap
  have s5 : Sl w7 10 (some ⟨gL, 10, none⟩) 1 4 ([doE aw1 none 0].flatMap exV) := by
    have h := s4.cut (lo := 0) (hi := 1) (by omega) (by omega)
    rw [Nat.zero_mul, List.drop_zero, Nat.sub_zero, exs_take, Htk.out] at h
    exact h
  refine awR5 gL o2 c2 gp op oc hoc hocm w13 (own9.sl.grow (g10.trans (g11.trans (g12.trans g13)))) p1 p2 (s5.grow g713) ?_
  intro w14 g14
  intros
  have hf := HR.out _ (G7.trans (g713.trans g14))
  clear p1 p2 c1 hcp s5 s4 hes hlo Hlp HR
  go_wp2_with fail
  exact hf
end Go.Proofs.Ytgchbcopbkoomaa
