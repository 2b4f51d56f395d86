/- The walk of ClaimsBook: what an act does. -/
import Derived.Test.YtaepfkpfageiaaaLClBk2
namespace Go.Proofs.Ytaepfkpfageiaaa
open Go Go.RowKit

/-- What there is between two acts: the book, and the list that it should have. -/
structure Two (b w : World) (p : Nat) (ao : Option Addr) (n c : Nat) (wo : Option Addr) (wc : Nat) (cs : List Clm) : Prop where
  g : Grow b w
  bk : Bk w p ao n c cs
  ow : Own w 66 35 wo n wc (clVs cs)
  f : Fr (p :: blk ao) b
  fw : Fr (blk wo) b
  d : ∀ x ∈ blk wo, x ∉ p :: blk ao
theorem Two.grow {b w w' : World} {p : Nat} {ao : Option Addr} {n c : Nat} {wo : Option Addr} {wc : Nat} {cs : List Clm} (h : Two b w p ao n c wo wc cs) (k : Grow w w') : Two b w' p ao n c wo wc cs :=
  ⟨h.g.trans k, h.bk.grow k, h.ow.grow k, h.f, h.fw, h.d⟩
theorem Two.lt {b w : World} {p : Nat} {ao : Option Addr} {n c : Nat} {wo : Option Addr} {wc : Nat} {cs : List Clm} (h : Two b w p ao n c wo wc cs) {q : Nat} (hq : w.heap.size ≤ q) : q ∉ p :: blk ao ∧ q ∉ blk wo :=
  ⟨fun hm => by have := h.bk.lt q hm; omega, fun hm => by have := h.ow.lt q hm; omega⟩
/-- After a claim came to both. -/
theorem Two.step {b w w1 w2 : World} {p : Nat} {ao ao' : Option Addr} {n c c' : Nat} {wo wo' : Option Addr} {wc wc' : Nat} {cs cs' : List Clm} {n' : Nat} (h : Two b w p ao n c wo wc cs) (bk1 : Bk w1 p ao' n' c' cs') (k1 : Keep (p :: blk ao) w w1) (b1 : ∀ g ∈ blk ao', g ∈ blk ao ∨ w.heap.size ≤ g)
    (ow2 : Own w2 66 35 wo' n' wc' (clVs cs')) (fp : List Nat) (k2 : Keep (fp ++ blk wo) w1 w2) (hfp : ∀ x ∈ fp, b.heap.size ≤ x ∧ x ∉ p :: blk ao') (b2 : ∀ g ∈ blk wo', g ∈ blk wo ∨ w1.heap.size ≤ g) : Two b w2 p ao' n' c' wo' wc' cs' := by
  have hwo : ∀ x ∈ blk wo, x ∉ p :: blk ao' := fun x hx hm => by
    rcases List.mem_cons.1 hm with rfl | hm
    · exact h.d _ hx (by simp)
    · rcases b1 x hm with h1 | h1
      · exact h.d _ hx (by simp [h1])
      · have := h.ow.lt x hx; omega
  have hb2 : Bk w2 p ao' n' c' cs' := bk1.keep k2 (fun hm => by
    rcases List.mem_append.1 hm with h1 | h1
    · exact (hfp p h1).2 (by simp)
    · exact hwo p h1 (by simp)) (fun g hg hm => by
    rcases List.mem_append.1 hm with h1 | h1
    · exact (hfp g h1).2 (by simp [hg])
    · exact hwo g h1 (by simp [hg]))
  refine ⟨(h.g.then k1 h.f).then k2 (fun x hx => ?_), hb2, ow2, fun x hx => ?_, fun x hx => ?_, fun x hx hm => ?_⟩
  · rcases List.mem_append.1 hx with h1 | h1
    · exact (hfp x h1).1
    · exact h.fw x h1
  · rcases List.mem_cons.1 hx with rfl | hx
    · exact h.f _ (by simp)
    · rcases b1 x hx with h1 | h1
      · exact h.f x (by simp [h1])
      · exact Nat.le_trans h.g.size h1
  · rcases b2 x hx with h1 | h1
    · exact h.fw x h1
    · exact Nat.le_trans (Nat.le_trans h.g.size k1.size) h1
  · rcases b2 x hx with h1 | h1
    · exact hwo x h1 hm
    · have := bk1.lt x hm; omega


set_option maxRecDepth 100000 in
set_option maxHeartbeats 2000000 in
theorem clBkS (p : Nat) (ao : Option Addr) (n c : Nat) (wo : Option Addr) (wc : Nat) (cs : List Clm) (hn : n ≤ 50) (a : Ac) (hsm : acSm a) (q7 q9 q10 : Nat) {c0 c1 c2 c3 c6 c8 c11 c12 c13 c14 c15 c16 c17 c18 c19 c20 c21 c22 c23 c24 c25 c26 c27 c28 c29 c30 c31 c32 c33 c34 c35 c36 c37 c38 c39 c40 c41 c42 c43 c44 c45 c47 c48 c49 c50 c51 c52 c53 c54 c55 c56 c57 c58 c59 c60 c61 c62 c63 c64 c65 c66 c67 c68 c69 c70 c71 c72 c73 c74 c75 c76 c77 c78 c79 c80 c81 c82 c83 c84 c85 c86 c87 c88 c89 c90 c91 c92 c93 c94 c95 c96 c97 c98 c99 c100 c101 c102 c103 c104 c105 c106 c107 c108 : Value} (w w4 : World) (ha : acG w a) (T4 : Two w w4 p ao n c wo wc cs)
    (D7 : q7 ∉ p :: blk ao ∧ q7 ∉ blk wo) (D9 : q9 ∉ p :: blk ao ∧ q9 ∉ blk wo) (D10 : q10 ∉ p :: blk ao ∧ q10 ∉ blk wo) (h97 : q9 ≠ q10) (h107 : q7 ≠ q10) (h10 : w.heap.size ≤ q10)
    (o7 : Cells w4 q7 0 (acV a)) (o9 : Cells w4 q9 0 ((macS a.key (framS a.parts)).map B)) (o10 : Own w4 66 1 (some ⟨q10, 0, none⟩) 35 35 (clV (clmS a.key (framS a.parts) false))) {Q : Exit → Act → World → Prop}
    (hQ : ∀ (ao' : Option Addr) (n' c' : Nat) (wo' : Option Addr) (wc' : Nat) (cs' : List Clm) (w' : World), n' ≤ n + 1 → Two w w' p ao' n' c' wo' wc' cs' → ∀ {u2 u11 u47 u48 u49 u50 u51 u52 u53 u54 u55 u56 u57 u58 u59 u60 u61 u62 u63 u64 u65 u66 u67 u68 u69 u70 u71 u72 u73 u74 u75 u76 u77 u78 u79 u80 u81 u82 u83 u84 u85 u86 u87 u88 u89 u90 u91 u92 u93 u94 u95 u96 u97 u98 u99 u100 u101 : Value}, Q .normal ⟨List.toArray (c0 :: c1 :: u2 :: c3 :: .pointer (some ⟨p, 0, none⟩) :: .slice wo' n' wc' :: c6 :: .pointer (some ⟨q7, 0, none⟩) :: c8 :: .pointer (some ⟨q9, 0, none⟩) :: .pointer (some ⟨q10, 0, none⟩) :: u11 :: c12 :: c13 :: c14 :: c15 :: c16 :: c17 :: c18 :: c19 :: c20 :: c21 :: c22 :: c23 :: c24 :: c25 :: c26 :: c27 :: c28 :: c29 :: c30 :: c31 :: c32 :: c33 :: c34 :: c35 :: c36 :: c37 :: c38 :: c39 :: c40 :: c41 :: c42 :: c43 :: c44 :: c45 :: .int .i64 a.kind :: u47 :: u48 :: u49 :: u50 :: u51 :: u52 :: u53 :: u54 :: u55 :: u56 :: u57 :: u58 :: u59 :: u60 :: u61 :: u62 :: u63 :: u64 :: u65 :: u66 :: u67 :: u68 :: u69 :: u70 :: u71 :: u72 :: u73 :: u74 :: u75 :: u76 :: u77 :: u78 :: u79 :: u80 :: u81 :: u82 :: u83 :: u84 :: u85 :: u86 :: u87 :: u88 :: u89 :: u90 :: u91 :: u92 :: u93 :: u94 :: u95 :: u96 :: u97 :: u98 :: u99 :: u100 :: u101 :: c102 :: c103 :: c104 :: c105 :: c106 :: c107 :: c108 :: []), []⟩ w') :
    Code.wp Try.prog (blockAt Try.f14 2) Q ⟨List.toArray (c0 :: c1 :: c2 :: c3 :: .pointer (some ⟨p, 0, none⟩) :: .slice wo n wc :: c6 :: .pointer (some ⟨q7, 0, none⟩) :: c8 :: .pointer (some ⟨q9, 0, none⟩) :: .pointer (some ⟨q10, 0, none⟩) :: c11 :: c12 :: c13 :: c14 :: c15 :: c16 :: c17 :: c18 :: c19 :: c20 :: c21 :: c22 :: c23 :: c24 :: c25 :: c26 :: c27 :: c28 :: c29 :: c30 :: c31 :: c32 :: c33 :: c34 :: c35 :: c36 :: c37 :: c38 :: c39 :: c40 :: c41 :: c42 :: c43 :: c44 :: c45 :: .int .i64 a.kind :: c47 :: c48 :: c49 :: c50 :: c51 :: c52 :: c53 :: c54 :: c55 :: c56 :: c57 :: c58 :: c59 :: c60 :: c61 :: c62 :: c63 :: c64 :: c65 :: c66 :: c67 :: c68 :: c69 :: c70 :: c71 :: c72 :: c73 :: c74 :: c75 :: c76 :: c77 :: c78 :: c79 :: c80 :: c81 :: c82 :: c83 :: c84 :: c85 :: c86 :: c87 :: c88 :: c89 :: c90 :: c91 :: c92 :: c93 :: c94 :: c95 :: c96 :: c97 :: c98 :: c99 :: c100 :: c101 :: c102 :: c103 :: c104 :: c105 :: c106 :: c107 :: c108 :: []), []⟩ w4 := by
  have hml : maxLen = 9223372036854775807 := rfl
  have hkl := hsm.k
  have htl := hsm.t
  have hpl := hsm.p
  have hVl : ((macS a.key (framS a.parts)).map B).length = 32 := by rw [List.length_map]; exact macS_len _ _
  have hMl := macS_len a.key (framS a.parts)
  have hSl := shortS_len (macS a.key (framS a.parts)) hMl
  conv => arg 2; whnf
  refine wp_block ?_
  by_cases k1 : a.kind = 1
  · have hkd : (a.kind == 1) = true := by simpa using k1
    have hmk := fun w' (bk : Bk w' p ao n c cs) (g : Grow w w') => makeC p ao n c cs a.ka a.kc a.key a.pa a.pc a.pvs a.parts w' (ha.sk.grow g) (by omega) (ha.sp.grow g) (ha.pt.grow g) (by omega) (by omega) bk (by omega)
    have heq := eq_hash (macS a.key (framS a.parts)) (macS a.key (framS a.parts)) hMl hMl
    rw [beq_self_eq_true] at heq
    go_upto_region 17 with (fail)
    refine clBk17 p ao n c cs (clmS a.key (framS a.parts) true) q7 q9 _ _ _ _ ((macS a.key (framS a.parts)).map B) hVl heq w w4 T4.g T4.bk T4.f o7 o9 D7.1 D9.1 hmk ?_
    intro ao' c' w5 bk5 k5 b5
    intros
    have ow5 := T4.ow.keep k5 T4.d
    have o5 := o10.keep k5 (fun g hg => by simp [blk] at hg; subst hg; exact D10.1)
    have D10' : q10 ∉ p :: blk ao' := bk_out (o10.lt q10 (by simp [blk])) D10.1 b5
    obtain ⟨g', v, eg, hv, hfz, hst⟩ := own_put o5 (i := 34) (by omega)
    cases eg
    have o6 := hst (.bool true) rfl
    rw [clV_set] at o6
    have k6 : Keep [q10] w5 (w5.setCell ⟨q10, 34, none⟩ (.bool true)) := Keep.setCell (fp := [q10]) w5 ⟨q10, 34, none⟩ (by simp) _
    have ow6 := ow5.keep k6 (fun g hg => by simp; rintro rfl; exact D10.2 hg)
    clear hst hmk heq
    go_upto_region 20 with (fail)
    generalize w5.setCell ⟨q10, 34, none⟩ (.bool true) = w6 at *
    refine clBk20 wo n wc q10 (by omega) cs (clM (clmS a.key (framS a.parts) false)) w6 ow6 (own_cells o6 (by omega)) ?_
    intro wo' wc' w7 ow7 k7 b7
    intros
    have hT := T4.step bk5 k5 b5 ow7 [q10] ((k6.mono (by simp)).trans (k7.mono (fun x hx => by simp [hx]))) (fun x hx => by simp at hx; subst hx; exact ⟨h10, D10'⟩) (fun g hg => (b7 g hg).imp id (Nat.le_trans k6.size))
    have hf := @hQ ao' (n + 1) c' wo' wc' _ w7 (by omega) hT
    clear hQ
    go_wp2_with fail
    exact hf
  have hkd1 : (a.kind == 1) = false := by simpa using k1
  by_cases k2 : a.kind = 2
  · have hkd : (a.kind == 2) = true := by simpa using k2
    have hck := fun w' (bk : Bk w' p ao n c cs) (g : Grow w w') (R : Ending → World → Prop) h => checkC p ao n c cs a.ka a.kc a.key (shortS (macS a.key (framS a.parts))) hSl a.pa a.pc a.pvs a.parts w' (ha.sk.grow g) (by omega) (ha.sp.grow g) (ha.pt.grow g) (by omega) (by omega) bk (by omega) R h (fun e => by simp at e)
    simp only [beq_self_eq_true, forall_const] at hck
    have hsh := rShortC (macS a.key (framS a.parts)) hMl
    go_upto_region 22 with (fail)
    refine clBk22 p ao n c cs (clmS a.key (framS a.parts) false) q7 q9 _ _ _ _ ((macS a.key (framS a.parts)).map B) _ hVl w w4 T4.g T4.bk o7 o9 hsh hck ?_
    intro ao' c' w5 bk5 k5 b5
    intros
    have ow5 := T4.ow.keep k5 T4.d
    have o5 := o10.keep k5 (fun g hg => by simp [blk] at hg; subst hg; exact D10.1)
    clear hsh hck
    go_upto_region 24 with (fail)
    refine clBk24 wo n wc q10 (by omega) cs (clmS a.key (framS a.parts) false) w5 ow5 (own_cells o5 (by omega)) ?_
    intro wo' wc' w7 ow7 k7 b7
    intros
    have hT := T4.step bk5 k5 b5 ow7 [] (by simpa using k7) (fun x hx => by cases hx) b7
    have hf := @hQ ao' (n + 1) c' wo' wc' _ w7 (by omega) hT
    clear hQ
    go_wp2_with fail
    exact hf
  have hkd2 : (a.kind == 2) = false := by simpa using k2
  by_cases k3 : a.kind = 3
  · have hkd : (a.kind == 3) = true := by simpa using k3
    clear k3
    have i16 : (Try.prog.info? 34).map (·.size) = some 16 := by kernel_rfl
    have hXl : ((blockS a.tag).map B).length = 16 := by rw [List.length_map]; exact blockS_len _
    have hX1 := B_one (blockS a.tag)
    have heq := eq_blk (blockS a.tag) (shortS (macS a.key (framS a.parts))) (blockS_len _) hSl
    have hck := fun w' (bk : Bk w' p ao n c cs) (g : Grow w w') => checkC p ao n c cs a.ka a.kc a.key (blockS a.tag) (blockS_len _) a.pa a.pc a.pvs a.parts w' (ha.sk.grow g) (by omega) (ha.sp.grow g) (ha.pt.grow g) (by omega) (by omega) bk (by omega)
    rw [show (blockS a.tag == shortS (macS a.key (framS a.parts))) = (shortS (macS a.key (framS a.parts)) == blockS a.tag) by rw [Bool.eq_iff_iff, beq_iff_eq, beq_iff_eq]; exact eq_comm] at heq
    obtain ⟨e, he⟩ : ∃ e, e = (shortS (macS a.key (framS a.parts)) == blockS a.tag) := ⟨_, rfl⟩
    rw [← he] at heq
    simp only [← he] at hck
    have hsh := rShortC (macS a.key (framS a.parts)) hMl
    have hbl := blockC a.ta a.tc a.tag w4 (ha.st.grow T4.g)
    have d3 := o7.at (i := 3) rfl
    simp only [Nat.zero_add] at d3
    obtain ⟨X, hX⟩ : ∃ X, X = (blockS a.tag).map B := ⟨_, rfl⟩
    rw [← hX] at hXl hX1 heq
    simp only [← hX] at hck hbl
    have Hck := Lib.hid hck
    have Hsh := Lib.hid hsh
    have Heq := Lib.hid heq
    have Hha := Lib.hid ha
    clear hX he hck hsh heq ha
    go_wp2_with fail
    refine hbl _ ?_
    clear hbl
    intro w5 g5
    have T5 := T4.grow g5
    have o75 := o7.grow g5
    have o95 := o9.grow g5
    have o105 := o10.grow g5
    have G5 := T5.g
    have T5' := T5
    obtain ⟨o11, ga1, th1, al1⟩ := newvar (t := 34) w5 (.int .u8 0) rfl (by omega) hXl hX1
    have hszF : (Try.prog.info? 34).map (·.size) = some X.toArray.size := by rw [List.size_toArray, hXl]; exact i16
    go_upto_region 26 with (refine wpList_store_mid rfl 34 _ _ rfl w5.heap.size 0 X.toArray rfl rfl th1 hszF al1 ?_)
    change Code.wp _ _ _ ⟨_, _⟩ ((w5.alloc (.cells (List.replicate 16 (.int .u8 0)).toArray 34)).setCells w5.heap.size 0 X)
    have G6 := G5.trans ga1
    have T6 := T5.grow ga1
    have o76 := o75.grow ga1
    have o96 := o95.grow ga1
    have o106 := o105.grow ga1
    obtain ⟨q11, hq⟩ : ∃ q, q = w5.heap.size := ⟨_, rfl⟩
    generalize (w5.alloc (.cells (List.replicate 16 (.int .u8 0)).toArray 34)).setCells w5.heap.size 0 X = w6 at *
    rw [← hq] at o11 ⊢
    have hge_q11 : w5.heap.size ≤ q11 := by omega
    clear hq th1 al1 ga1 hszF G5 T5 o75 o95 o105
    have D11 := T5'.lt hge_q11
    clear G6 d3 T4 T5' hge_q11 g5 o7 o9 o10
    go_upto_region 27 with (fail)
    refine clBk27 p ao n c cs (clmS a.key (framS a.parts) false) e q7 q9 q11 _ _ _ _ ((macS a.key (framS a.parts)).map B) X _ hVl hXl Heq.out w w6 T6.g T6.bk T6.f o76 o96 (own_cells o11 (by omega)) D7.1 D9.1 D11.1 Hsh.out Hck.out ?_
    intro ao' n' c' cs' w7 bk7 he1 he2 k7 b7
    intros
    have o97 := o96.keep k7 D9.1
    have o117 := (own_cells o11 (by omega)).keep k7 D11.1
    have o107 := o106.keep k7 (fun g hg => by simp [blk] at hg; subst hg; exact D10.1)
    have ow7 := T6.ow.keep k7 T6.d
    clear o76 o96 o106 o11
    go_upto_region 29 with (fail)
    refine clBk29 e q9 q11 ((macS a.key (framS a.parts)).map B) X _ hVl hXl Heq.out w7 o97 o117 Hsh.out ?_
    intro w8 k8
    intros
    have bk8 := bk7.keep k8 (by simp) (by simp)
    have ow8 := ow7.keep k8 (by simp)
    have o108 := o107.keep k8 (by simp)
    have K8 := k7.trans (Keep.of_nil k8)
    clear bk7 ow7 o107 k8 k7 o97 o117 Hck Hsh Heq
    cases e with
    | true =>
      obtain ⟨rfl, rfl⟩ := he1 rfl
      clear he1 he2
      go_upto_region 30 with (fail)
      refine clBk30 wo n wc q10 (by omega) cs (clmS a.key (framS a.parts) false) w8 ow8 (own_cells o108 (by omega)) ?_
      intro wo' wc' w9 ow9 k9 b9
      intros
      have hT := T6.step bk8 K8 b7 ow9 [] (by simpa using k9) (fun x hx => by cases hx) b9
      have hf := @hQ ao' (n + 1) c' wo' wc' _ w9 (by omega) hT
      clear hQ
      go_wp2_with fail
      exact hf
    | false =>
      obtain ⟨rfl, rfl⟩ := he2 rfl
      have hT := T6.step bk8 K8 b7 ow8 [] (Keep.refl _ w8) (fun x hx => by cases hx) (fun g hg => .inl hg)
      have hf := @hQ ao' n' c' wo wc _ w8 (by omega) hT
      clear hQ he1 he2
      go_wp2_with fail
      exact hf
  · have hkd3 : (a.kind == 3) = false := by simpa using k3
    have hf := @hQ ao n c wo wc cs w4 (by omega) T4
    clear hQ
    go_wp2_with fail
    exact hf
end Go.Proofs.Ytaepfkpfageiaaa
