/- A story is turned: a hidden volume is made. -/
import Derived.Test.YtgchbcopbkoomaaHe25
namespace Go.Proofs.Ytgchbcopbkoomaa
open Go Go.RowKit

theorem ars_at : ∀ (l : List Ar) (i : Nat) (h : i < l.length), (l.flatMap arV)[i * 2]? = some (.int .i64 l[i].f) ∧ (l.flatMap arV)[i * 2 + 1]? = some (.int .i64 l[i].c)
  | [], i, h => by simp at h
  | a :: l, 0, _ => ⟨rfl, rfl⟩
  | a :: l, i + 1, h => by
    have := ars_at l i (by simpa using h)
    have e : (a :: l).flatMap arV = .int .i64 a.f :: .int .i64 a.c :: l.flatMap arV := rfl
    rw [e, show (i + 1) * 2 = i * 2 + 1 + 1 by omega]
    exact this
theorem ars_len (l : List Ar) : (l.flatMap arV).length = l.length * 2 := by
  induction l with
  | nil => rfl
  | cons a l ih => simp only [List.flatMap_cons, List.length_append, ih, List.length_cons]; simp [arV]; omega
theorem i6s : (Try.prog.info? 56).map (·.size) = some 6 := by kernel_rfl

set_option maxRecDepth 100000 in
set_option maxHeartbeats 2000000 in
theorem usedC (a b : Ar) (ha : a.ok) (hb : b.ok) (q : Nat) (w : World) (o : Own w 54 1 (some ⟨q, 0, none⟩) 2 2 [.int .i64 b.f, .int .i64 b.c]) (R : Ending → World → Prop) (hR : ∀ w', Grow w w' → R (.returned (.bool (lapS a b))) w') :
    Calls Try.prog 36 #[.agg #[.int .i64 a.f, .int .i64 a.c], .pointer (some ⟨q, 0, none⟩)] w R := by
  have ga := Grow.alloc w (.cells #[.int .i64 a.f, .int .i64 a.c] 54)
  have hl := fun w => lapC a b ha hb w
  obtain ⟨gl, off, e, hcs⟩ := (o.grow ga).sl.hat (by omega)
  cases e
  have c0 := hcs.at (i := 0) rfl
  have c1 := hcs.at (i := 1) rfl
  simp only [Nat.zero_add, Nat.add_zero] at c0 c1
  clear o hcs
  go_enter Try.func36, Try.ntmps36
  go_wp2_with fail
  refine hl _ _ ?_
  intro w2 g2
  have hf := hR w2 (ga.trans g2)
  clear hR c0 c1
  go_wp2_with fail
  exact hf

set_option maxRecDepth 100000 in
set_option maxHeartbeats 4000000 in
theorem idxC (b : Ar) (hb : b.ok) (q : Nat) (lo : Option Addr) (n c : Nat) (l : List Ar) (hn : n = l.length) (hok : ∀ a ∈ l, a.ok) (w : World) (s : Sl w 2 lo n c (l.flatMap arV)) (o : Own w 54 1 (some ⟨q, 0, none⟩) 2 2 [.int .i64 b.f, .int .i64 b.c]) (R : Ending → World → Prop)
    (hR : ∀ r w', decide (0 ≤ r) = l.any (fun a => lapS a b) → Grow w w' → R (.returned (.int .i64 r)) w') :
    Calls Try.prog 41 #[.slice lo n c, .func (.func 36) #[] #[.pointer (some ⟨q, 0, none⟩)]] w R := by
  have hml : maxLen = 9223372036854775807 := rfl
  have hks := s.hle
  have hkm := s.hcap
  have Hn := Lib.hid hn
  have Hok := Lib.hid hok
  clear hn hok
  go_enter Try.func41, Try.ntmps41
  go_wp2_with fail
  go_loopw [8] (fun vi wr => ∃ i : Nat, vi = .int .i64 (i : Int) ∧ i ≤ n ∧ Hid ((l.take i).any (fun a => lapS a b) = false) ∧ Grow w wr) (fun vi _ => n - (intOf vi).toNat)
  case atStart => exact ⟨0, by simp, by omega, Lib.hid (by simp), Grow.refl _⟩
  case round =>
    obtain ⟨i, rfl, hi, hany, g⟩ := hrel
    by_cases hlt : i < n
    · obtain ⟨gb, off, eg, hcs⟩ := (s.grow g).hat (by omega)
      subst eg
      have hlt2 : i < l.length := by rw [← Hn.out]; exact hlt
      obtain ⟨a, ha⟩ : ∃ a, a = l[i] := ⟨_, rfl⟩
      obtain ⟨h0, h1⟩ := ars_at l i hlt2
      rw [← ha] at h0 h1
      have c0 := hcs.at h0
      have c1 := hcs.at h1
      rw [← Nat.add_assoc] at c1
      have hcl := usedC a b (Hok.out a (by rw [ha]; exact List.getElem_mem hlt2)) hb q wr (o.grow g)
      have hany2 : Hid (∀ v, lapS a b = v → (l.take (i + 1)).any (fun a => lapS a b) = v) := Lib.hid (fun v e => by
        rw [List.take_add_one, List.getElem?_eq_getElem hlt2, List.any_append, hany.out, ← ha]; simpa using e)
      have htk : Hid ((l.take (i + 1)).any (fun a => lapS a b) = true → l.any (fun a => lapS a b) = true) := Lib.hid (fun e => by
        rw [List.any_eq_true] at e ⊢
        obtain ⟨y, hy, hp⟩ := e
        exact ⟨y, List.mem_of_mem_take hy, hp⟩)
      obtain ⟨v, hv⟩ : ∃ v, v = lapS a b := ⟨_, rfl⟩
      have hb2 := hany2.out v hv.symm
      simp only [← hv] at hcl
      have Hb2 := Lib.hid hb2
      have hR0 := Lib.hid hR
      clear hv hany2 hb2 hcs hlt2 hany hR ha h0 h1
      go_wp2_with fail
      refine hcl _ ?_
      clear hcl c0 c1
      intro w2 g2
      have G2 := g.trans g2
      clear g g2
      cases v with
      | true =>
        have hf := hR0.out (i : Int) w2 (by rw [htk.out Hb2.out]; simp) G2
        clear hR0
        go_wp2_with fail
        exact hf
      | false =>
        go_wp2_with fail
        exact ⟨⟨i + 1, by go_num, by omega, Hb2, G2⟩, by simp [intOf]; omega⟩
    · obtain rfl : i = n := by omega
      have hf := hR (-1) wr (by rw [List.take_of_length_le (by rw [← Hn.out]; exact Nat.le_refl _)] at hany; rw [hany.out]; rfl) g
      clear hR hany
      go_wp2_with fail
      exact hf
set_option maxRecDepth 100000 in
set_option maxHeartbeats 1000000 in
theorem hasUsed (b : Ar) (hb : b.ok) (q : Nat) (lo : Option Addr) (n c : Nat) (l : List Ar) (hn : n = l.length) (hok : ∀ a ∈ l, a.ok) (w : World) (s : Sl w 2 lo n c (l.flatMap arV)) (o : Own w 54 1 (some ⟨q, 0, none⟩) 2 2 [.int .i64 b.f, .int .i64 b.c]) (R : Ending → World → Prop)
    (hR : ∀ w', Grow w w' → R (.returned (.bool (l.any (fun a => lapS a b)))) w') :
    Calls Try.prog 38 #[.slice lo n c, .func (.func 36) #[] #[.pointer (some ⟨q, 0, none⟩)]] w R := by
  have hi := idxC b hb q lo n c l hn hok w s o
  obtain ⟨v, hv⟩ : ∃ v, v = l.any (fun a => lapS a b) := ⟨_, rfl⟩
  rw [← hv] at hR
  simp only [← hv] at hi
  clear hv hn s o hok
  go_enter Try.func38, Try.ntmps38
  go_wp2_with fail
  refine hi _ ?_
  clear hi
  intro r w2 hr g2
  have hf := hR w2 g2
  rw [← hr] at hf
  clear hr hR
  go_wp2_with fail
  exact hf


set_option maxRecDepth 100000 in
set_option maxHeartbeats 4000000 in
theorem cr1 (p q3 S : Nat) (h1 : 96 ≤ S) (h2 : S ≤ 300) (first count : Int) (u : Value) (b : Bool) (hu : .tuple #[u, .bool b] = (.tuple #[if insideS S first count = true then .agg #[.int .i64 ((outD S).f + first), .int .i64 count] else .agg #[.int .i64 0, .int .i64 0], .bool (insideS S first count)] : Value)) (X : List Value) (hX : u = .agg X.toArray) (hXl : X.length = 2) (hX1 : ∀ v ∈ X, v.oneCell' = true) {c1 c2 c4 c5 c6 c7 c8 c9 c10 c11 c12 c13 c14 c15 c16 c17 c18 c19 c20 c21 c22 c23 c24 c25 c26 c27 c28 c29 c30 c31 c32 c33 c34 c35 c36 c37 c38 c39 c40 c41 c42 c43 c44 c45 c46 c47 c48 c49 c50 c51 c52 c53 c54 c55 c56 c57 c58 c59 c60 c61 c62 c63 c64 c65 c66 c67 c68 c69 : Value} (w : World) (k4 : w.cell? ⟨p, 4, none⟩ = some (.int .i64 (outD S).f)) (k5 : w.cell? ⟨p, 5, none⟩ = some (.int .i64 (outD S).c)) (k33 : w.cell? ⟨q3, 3, none⟩ = some (.int .i64 first)) (k34 : w.cell? ⟨q3, 4, none⟩ = some (.int .i64 count)) {Q : Exit → Act → World → Prop}
    (hQ : ∀ (q : Nat) (w' : World), Own w' 54 1 (some ⟨q, 0, none⟩) 2 2 X → Grow w w' → w.heap.size ≤ q → ∀ {u8 u9 u10 u11 u12 u13 u14 u15 u16 u17 u18 u19 u20 : Value}, Q .normal ⟨List.toArray (.pointer (some ⟨p, 0, none⟩) :: c1 :: c2 :: .pointer (some ⟨q3, 0, none⟩) :: c4 :: .pointer (some ⟨q, 0, none⟩) :: .bool b :: c7 :: u8 :: u9 :: u10 :: u11 :: u12 :: u13 :: u14 :: u15 :: u16 :: u17 :: u18 :: u19 :: u20 :: c21 :: c22 :: c23 :: c24 :: c25 :: c26 :: c27 :: c28 :: c29 :: c30 :: c31 :: c32 :: c33 :: c34 :: c35 :: c36 :: c37 :: c38 :: c39 :: c40 :: c41 :: c42 :: c43 :: c44 :: c45 :: c46 :: c47 :: c48 :: c49 :: c50 :: c51 :: c52 :: c53 :: c54 :: c55 :: c56 :: c57 :: c58 :: c59 :: c60 :: c61 :: c62 :: c63 :: c64 :: c65 :: c66 :: c67 :: c68 :: c69 :: []), []⟩ w') :
    Code.wp Try.prog (regionAt Try.f27 1) Q ⟨List.toArray (.pointer (some ⟨p, 0, none⟩) :: c1 :: c2 :: .pointer (some ⟨q3, 0, none⟩) :: c4 :: c5 :: c6 :: c7 :: c8 :: c9 :: c10 :: c11 :: c12 :: c13 :: c14 :: c15 :: c16 :: c17 :: c18 :: c19 :: c20 :: c21 :: c22 :: c23 :: c24 :: c25 :: c26 :: c27 :: c28 :: c29 :: c30 :: c31 :: c32 :: c33 :: c34 :: c35 :: c36 :: c37 :: c38 :: c39 :: c40 :: c41 :: c42 :: c43 :: c44 :: c45 :: c46 :: c47 :: c48 :: c49 :: c50 :: c51 :: c52 :: c53 :: c54 :: c55 :: c56 :: c57 :: c58 :: c59 :: c60 :: c61 :: c62 :: c63 :: c64 :: c65 :: c66 :: c67 :: c68 :: c69 :: []), []⟩ w := by
  have hml : maxLen = 9223372036854775807 := rfl
  have hin := fun w => insideC S h1 h2 first count w
  simp only [← hu] at hin
  have hcells : Cells w p 4 [.int .i64 (outD S).f, .int .i64 (outD S).c] := fun i hi => by
    match i, hi with
    | 0, _ => exact k4
    | 1, _ => exact k5
  have ld : ∀ w', Keep [] w w' → (Instr.loadAt 54 (.pointer (some ⟨p, 4, none⟩))).run Try.prog w' = .ok (.agg #[.int .i64 (outD S).f, .int .i64 (outD S).c]) w' := fun w' k => run_ld (cs := [.int .i64 (outD S).f, .int .i64 (outD S).c]) Try.underlying54 rfl i2 (hcells.keep k (by simp))
  have q0 := KW.cell (fp := []) (p0 := tt) k33 (by simp)
  have q1 := KW.cell (fp := []) (p0 := tt) k34 (by simp)
  obtain ⟨f, hf⟩ : ∃ f, f = (outD S).f := ⟨_, rfl⟩
  obtain ⟨cc, hcc⟩ : ∃ cc, cc = (outD S).c := ⟨_, rfl⟩
  simp only [← hf, ← hcc] at hin ld
  clear k4 k5 k33 k34 hcells hu hf hcc
  subst hX
  conv => arg 2; whnf
  refine wp_region_F [12] (segT w [(9, pIs (.tuple #[.agg X.toArray, .bool b])), (13, pPlace w.heap.size (.int .i64 0) (.int .i64 0))]) (by kernel_rfl) segT_drew ?_
  unfold segT segK segR
  repeat (first | (refine wpV_val rfl rfl rfl rfl rfl _ (fun w hC => by obtain ⟨n, rfl⟩ := hC; exact exec_load (ld _ n.h)) ?_; simp only [List.set_cons_succ, List.set_cons_zero]) | (refine wpV_look rfl rfl rfl rfl rfl (fun K hK => ?_); go_big_quiet_op; refine hK _ ?_; clear hK K) | (refine wpV_free rfl rfl rfl rfl (fun K hK => ?_); go_big_quiet_op; refine hK _ ?_; clear hK K))
  refine wpV_mk rfl rfl rfl [] (by kernel_rfl) (fun vs w7 hC hF => yields_call (by kernel_rfl) ?_) (fun vs v w7 hC hV hF => ?_)
  · obtain ⟨⟨w7, hk7, -⟩, rfl⟩ := hC
    exact hin w7 _ (fun w8 g8 => ⟨_, rfl, ⟨Keep.of_grow [] g8, trivial⟩, rfl⟩)
  obtain rfl := hV
  clear hC hF w7
  simp only [List.set_cons_succ, List.set_cons_zero]
  repeat (first | (refine wpV_val rfl rfl rfl rfl rfl _ (fun w hC => by obtain ⟨n, rfl⟩ := hC; exact exec_load (ld _ n.h)) ?_; simp only [List.set_cons_succ, List.set_cons_zero]) | (refine wpV_look rfl rfl rfl rfl rfl (fun K hK => ?_); go_big_quiet_op; refine hK _ ?_; clear hK K) | (refine wpV_free rfl rfl rfl rfl (fun K hK => ?_); go_big_quiet_op; refine hK _ ?_; clear hK K))
  refine wpV_mk rfl rfl rfl [] (by kernel_rfl) (fun vs w7 hC hF => ?_) (fun vs v w7 hC hV hF => ?_)
  · obtain ⟨⟨w7, hk7, -⟩, rfl⟩ := hC
    unfold yields
    go_simp
    exact ⟨⟨Keep.of_grow [] (Grow.alloc w7 _), trivial⟩, ⟨_, rfl, Own.made (n := 2) (sz := 1) (heap_alloc_new w7 _) rfl (by decide) (by simp [Value.oneCell']), hk7.size⟩⟩
  obtain ⟨b13, rfl, -⟩ := hV
  clear hC hF w7
  simp only [List.set_cons_succ, List.set_cons_zero]
  refine wpV_tn0 rfl rfl (by kernel_rfl) (fun w7 hC hF => ?_)
  obtain ⟨q, e, o, hq⟩ := (hF 13).2 rfl
  obtain ⟨⟨w7, hk7, -⟩, rfl⟩ := hC
  cases e
  obtain ⟨r1, p2, k3⟩ := store_arr (P := Try.prog) (n := 2) (X := X) hXl hX1 o i2
  unfold yields
  rw [exec_store r1]
  simp only [yUpon]
  refine ⟨segU _, ⟨(), rfl⟩, ?_⟩
  have G : Grow w (w7.setCells b13 0 X) := hk7.grow.then k3 (fun y hy => by simp at hy; omega)
  generalize w7.setCells b13 0 X = w8 at *
  unfold segU
  repeat (refine wpV_look rfl rfl rfl rfl rfl (fun K hK => ?_); go_big_quiet_op; refine hK _ ?_; clear hK K)
  refine wpV_nil ?_
  intro w9 hC hF
  obtain ⟨-, rfl⟩ := hC
  exact hQ _ _ p2 G hq

theorem spl_mid (a b c v : List Value) (h : b.length = v.length) : spl (a ++ (b ++ c)) a.length v = a ++ (v ++ c) := by
  unfold spl
  simp [h]
set_option maxRecDepth 100000 in
set_option maxHeartbeats 8000000 in
theorem createC {p S : Nat} {x : Sy} {wo : Option Addr} {wn wc : Nat} (hS1 : 96 ≤ S) (hS : S ≤ 300) (c : CmX) (dv : Value) (hx : x.out ≠ none) (w : World) (st : Sto w p S x wo wn wc) (R : Ending → World → Prop) (hR : StepR R w p S wo (createS S x c)) :
    Calls Try.prog 27 #[.pointer (some ⟨p, 0, none⟩), .agg (cmV c dv)] w R := by
  have hml : maxLen = 9223372036854775807 := rfl
  have hmf : ∀ (fn : Fn) (first cap : Array Value) (w : World), (Instr.makeFunc fn first cap).run Try.prog w = .ok (.func fn first cap) w := fun _ _ _ _ => rfl
  obtain ⟨kd, ps, ot, fi, co, dat⟩ := c
  simp only [cmV]
  have ga := Grow.alloc w (.cells #[.int .i64 kd, .string (str ps), .string (str ot), .int .i64 fi, .int .i64 co, dv] 39)
  have s1 := st.grow ga
  have hR1 := hR.grow ga
  have o1 := alloc_new w (.cells #[.int .i64 kd, .string (str ps), .string (str ot), .int .i64 fi, .int .i64 co, dv] 39)
  have hCS : createS S x ⟨kd, ps, ot, fi, co, dat⟩ = if insideS S fi co = true ∧ x.hid = none ∧ x.opens ps = 0 ∧ ot ≠ ps ∧ x.wr.any (fun w => lapS w ⟨(outD S).f + fi, co⟩) = false then some (2, { x with hid := some ⟨ot, ⟨(outD S).f + fi, co⟩, datS ⟨(outD S).f + fi, co⟩⟩ }) else none := rfl
  rw [hCS] at hR1
  have hlen := st.len
  obtain ⟨o, ho⟩ : ∃ o, x.out = some o := by
    cases h : x.out with
    | none => exact absurd h hx
    | some o => exact ⟨o, rfl⟩
  obtain ⟨W, hW⟩ : ∃ W, W = w.alloc (.cells #[.int .i64 kd, .string (str ps), .string (str ot), .int .i64 fi, .int .i64 co, dv] 39) := ⟨_, rfl⟩
  have k4 : W.cell? ⟨p, 4, none⟩ = some (.int .i64 (outD S).f) := by rw [hW]; exact s1.cell (i := 4) ((stV_out S x _ 4 (by decide)).trans (by rw [ho]; rfl))
  have k5 : W.cell? ⟨p, 5, none⟩ = some (.int .i64 (outD S).c) := by rw [hW]; exact s1.cell (i := 5) ((stV_out S x _ 5 (by decide)).trans (by rw [ho]; rfl))
  rw [← hW] at s1 hR1 o1
  have hps0 : (str ps).toList = ps := str_toList _
  have hot0 : (str ot).toList = ot := str_toList _
  obtain ⟨q3, hq3⟩ : ∃ q3, q3 = w.heap.size := ⟨_, rfl⟩
  rw [← hq3] at o1
  clear hCS hR ga st hx ho
  go_enter Try.func27, Try.ntmps27
  go_upto_region 1 with (fail)
  rw [← hq3, ← hW]
  clear hq3 hW
  have q31 := obj_cell o1 1 rfl
  have q32 := obj_cell o1 2 rfl
  have q33 := obj_cell o1 3 rfl
  have q34 := obj_cell o1 4 rfl
  obtain ⟨b, hb⟩ : ∃ b, b = insideS S fi co := ⟨_, rfl⟩
  obtain ⟨X, hX⟩ : ∃ X : List Value, X = if b = true then [.int .i64 ((outD S).f + fi), .int .i64 co] else [.int .i64 0, .int .i64 0] := ⟨_, rfl⟩
  refine cr1 p q3 S hS1 hS fi co (.agg X.toArray) b (by rw [hX, hb]; cases insideS S fi co <;> rfl) X rfl (by rw [hX]; split <;> rfl) (by rw [hX]; split <;> simp [Value.oneCell']) W k4 k5 q33 q34 ?_
  intro q w2 oq g2 hq
  intros
  have s2 := s1.grow g2
  have hR2 := hR1.grow g2
  have o2 := g2.block o1
  have r1 := obj_cell o2 1 rfl
  have r2 := obj_cell o2 2 rfl
  have z12 := s1.st.lt p (by simp [blk])
  clear q31 q32 q33 q34 k4 k5 s1 hR1 g2 o1
  rw [← hb] at hR2
  cases b with
  | false =>
    rw [if_neg (by simp)] at hR2
    have hg := hR2 _ (Keep.refl _ _)
    clear hR2 s2 oq o2 hb hX
    go_wp2_with fail
    exact hg
  | true =>
  rw [if_pos rfl] at hX
  subst hX
  cases hh : x.hid with
  | some h =>
    rw [if_neg (by simp [hh])] at hR2
    have c6 := s2.cell (i := 6) (v := .bool true) ((stV_hid S x _ 0 (by decide)).trans (by rw [hh]; rfl))
    have hg := hR2 _ (Keep.refl _ _)
    clear hR2 s2 oq o2 hb hh
    go_wp2_with fail
    exact hg
  | none =>
  have c6 := s2.cell (i := 6) (v := .bool false) ((stV_hid S x _ 0 (by decide)).trans (by rw [hh]; rfl))
  have hop := opensC ps w2 s2
  rcases opens_vals x ps with e | e | e
  · rw [e] at hop
    by_cases e3 : ot = ps
    · have hs : (ot == ps) = true := by simp [e3]
      rw [if_neg (fun h => h.2.2.2.1 e3)] at hR2
      have hg := hR2 _ (Keep.refl _ _)
      clear hR2 s2 oq o2 hb hh e e3
      go_wp2_with fail
      refine hop _ ?_
      clear hop
      go_wp2_with fail
      exact hg
    · have hs : (ot == ps) = false := by simpa using e3
      have hI := hb
      unfold insideS at hI
      simp only [Bool.true_eq, Bool.and_eq_true, decide_eq_true_eq] at hI
      obtain ⟨i0, i1, i3, i4⟩ := hI
      have hDf : (outD S).f ≤ 1000 := by unfold outD; simp only; omega
      have hDc : (outD S).c ≤ 142 := by unfold outD; simp only; omega
      have hD0 := (outD_ok S hS).f0
      have hpl : (⟨(outD S).f + fi, co⟩ : Ar).ok := ⟨by show 0 ≤ (outD S).f + fi; omega, by show (outD S).f + fi ≤ 1000000; omega, by show 0 ≤ co; omega, by show co ≤ 1000000; omega⟩
      have hdt : (datS ⟨(outD S).f + fi, co⟩).ok := ⟨by show 0 ≤ (outD S).f + fi + (co - co / 2); omega, by show (outD S).f + fi + (co - co / 2) ≤ 1000000; omega, by show 0 ≤ co / 2; omega, by show co / 2 ≤ 1000000; omega⟩
      have hus := hasUsed ⟨(outD S).f + fi, co⟩ hpl q wo wn wc x.wr hlen.symm s2.wok w2 s2.wr.sl oq
      have hsp := fun w => splitC ⟨(outD S).f + fi, co⟩ (by show 0 ≤ (outD S).f + fi; omega) (by show (outD S).f + fi ≤ 65536; omega) i1 (by show co ≤ 65536; omega) w
      obtain ⟨u, hu⟩ : ∃ u, u = x.wr.any (fun w => lapS w ⟨(outD S).f + fi, co⟩) := ⟨_, rfl⟩
      rw [← hu] at hR2
      simp only [← hu] at hus
      have k14 := s2.cell (i := 14) (stV_end S x _ 2)
      obtain ⟨D, hD⟩ : ∃ D, D = datS ⟨(outD S).f + fi, co⟩ := ⟨_, rfl⟩
      rw [← hD] at hR2 hdt
      simp only [← hD] at hsp
      obtain ⟨f, hf⟩ : ∃ f, f = (outD S).f + fi := ⟨_, rfl⟩
      rw [← hf] at hR2 hpl oq
      simp only [← hf] at hus hsp
      clear hu hb i0 i1 i3 i4 hDf hDc hD0 hD hf
      cases u with
      | true =>
        rw [if_neg (by simp)] at hR2
        have hg := fun w3 (g3 : Grow w2 w3) => hR2 w3 (Keep.of_grow _ g3)
        clear hR2 s2 oq o2 hh e e3 hsp
        go_wp2_with fail
        refine hop _ ?_
        clear hop
        go_wp2_with fail
        refine hus _ ?_
        clear hus
        intro w3 g3
        have hg3 := hg w3 g3
        clear hg
        go_wp2_with fail
        exact hg3
      | false =>
        rw [if_pos ⟨rfl, hh, e, e3, rfl⟩] at hR2
        go_wp2_with fail
        refine hop _ ?_
        clear hop
        go_wp2_with fail
        refine hus _ ?_
        clear hus
        intro w3 g3
        have s3 := s2.grow g3
        have hR3 := hR2.grow g3
        have oq3 := oq.grow g3
        have o3 := g3.block o2
        have r1' := obj_cell o3 1 rfl
        have r2' := obj_cell o3 2 rfl
        obtain ⟨o6, th6⟩ := own_sets (hidV (some ⟨ot, ⟨f, co⟩, ⟨0, 0⟩⟩)) 6 _ w3 s3.st (by rw [hidV_len]; omega) (by simp [hidV, Value.oneCell'])
        have e6 : spl (stV S x (.slice wo wn wc)) 6 (hidV (some ⟨ot, ⟨f, co⟩, ⟨0, 0⟩⟩)) = stV S { x with hid := some ⟨ot, ⟨f, co⟩, ⟨0, 0⟩⟩ } (.slice wo wn wc) := by
          have := spl_mid (outV S x.out) (hidV x.hid) [.int .i64 x.mt, .bool x.trip, .slice wo wn wc] (hidV (some ⟨ot, ⟨f, co⟩, ⟨0, 0⟩⟩)) (by rw [hidV_len, hidV_len])
          rw [outV_len] at this
          exact this
        rw [e6] at o6
        have k6 : Keep [p] w3 (w3.setCells p 6 (hidV (some ⟨ot, ⟨f, co⟩, ⟨0, 0⟩⟩))) := Keep.setCells _ _ _ _
        have hq0 : p ≠ q := by omega
        have oq4 := oq3.keep k6 (fun y hy hm => by simp [blk] at hy hm; omega)
        have wr4 := s3.wr.keep k6 (fun y hy hm => by simp at hm; subst hm; exact s3.ne hy)
        have hsz6 : (Try.prog.info? 56).map (·.size) = some (hidV (some ⟨ot, ⟨f, co⟩, ⟨0, 0⟩⟩)).toArray.size := i6s
        have hal6 : (hidV (some ⟨ot, ⟨f, co⟩, ⟨0, 0⟩⟩)).toArray.all (·.oneCell') = true := one_all (by simp [hidV, Value.oneCell'])
        obtain ⟨gl, off, el, hcs⟩ := oq3.sl.hat (by omega)
        cases el
        have a0 := hcs.at (i := 0) rfl
        have a1 := hcs.at (i := 1) rfl
        simp only [Nat.zero_add, Nat.add_zero] at a0 a1
        clear hcs s2 hR2 oq o2 r1 r2 e6 k14 c6 hs g3
        go_upto_region 6 with (refine wpList_store_mid rfl 56 _ _ rfl p 6 (hidV (some ⟨ot, ⟨f, co⟩, ⟨0, 0⟩⟩)).toArray rfl rfl th6 hsz6 hal6 ?_)
        change Code.wp _ _ _ ⟨_, _⟩ (w3.setCells p 6 (hidV (some ⟨ot, ⟨f, co⟩, ⟨0, 0⟩⟩)))
        generalize w3.setCells p 6 (hidV (some ⟨ot, ⟨f, co⟩, ⟨0, 0⟩⟩)) = w4 at *
        obtain ⟨gl, off, el, hcs⟩ := oq4.sl.hat (by omega)
        cases el
        have a2 := hcs.at (i := 0) rfl
        have a3 := hcs.at (i := 1) rfl
        simp only [Nat.zero_add, Nat.add_zero] at a2 a3
        clear th6 hsz6 hal6 a0 a1 r1' r2' hcs o3 oq3 oq4
        go_wp2_with fail
        refine hsp _ _ ?_
        clear hsp
        intro w5 g5
        obtain ⟨df, dcn⟩ := D
        obtain ⟨o8, th8⟩ := own_sets [.int .i64 df, .int .i64 dcn] 10 _ w5 (o6.grow g5) (by simp) (by simp [Value.oneCell'])
        have e8 : spl (stV S { x with hid := some ⟨ot, ⟨f, co⟩, ⟨0, 0⟩⟩ } (.slice wo wn wc)) 10 [.int .i64 df, .int .i64 dcn] = stV S { x with hid := some ⟨ot, ⟨f, co⟩, ⟨df, dcn⟩⟩ } (.slice wo wn wc) := by
          unfold stV
          cases x.out <;> rfl
        rw [e8] at o8
        have k8 : Keep [p] w5 (w5.setCells p 10 [.int .i64 df, .int .i64 dcn]) := Keep.setCells _ _ _ _
        have KK : Keep [p] w3 (w5.setCells p 10 [.int .i64 df, .int .i64 dcn]) := (k6.trans (Keep.of_grow _ g5)).trans k8
        have hsto : Sto (w5.setCells p 10 [.int .i64 df, .int .i64 dcn]) p S { x with hid := some ⟨ot, ⟨f, co⟩, ⟨df, dcn⟩⟩ } wo wn wc := {
          st := o8
          wr := s3.wr.keep KK (fun y hy hm => by simp at hm; subst hm; exact s3.ne hy)
          ne := s3.ne
          hok := fun h eh => by cases eh; exact ⟨hpl, hdt⟩
          wok := s3.wok
          mt := s3.mt
          mh := fun _ => by simp
          len := s3.len }
        have hg := hR3 _ _ _ _ hsto hlen.symm (KK.mono (by simp)) (fun y hy => .inl hy)
        have hsz8 : (Try.prog.info? 54).map (·.size) = some (#[.int .i64 df, .int .i64 dcn] : Array Value).size := i2
        have hal8 : (#[.int .i64 df, .int .i64 dcn] : Array Value).all (·.oneCell') = true := by simp [Value.oneCell']
        have th8' : w5.there p 10 (#[.int .i64 df, .int .i64 dcn] : Array Value).size := th8
        clear hR3 s3 o6 k6 wr4 o8 e8 k8 KK hsto th8 a2 a3 hh e e3 hdt hpl
        go_wp2_with (refine wpList_store_mid rfl 54 _ _ rfl p 10 #[.int .i64 df, .int .i64 dcn] rfl rfl th8' hsz8 hal8 ?_)
        exact hg
  · rw [e] at hop
    rw [if_neg (by simp [e])] at hR2
    have hg := hR2 _ (Keep.refl _ _)
    clear hR2 s2 oq o2 hb hh e
    go_wp2_with fail
    refine hop _ ?_
    clear hop
    go_wp2_with fail
    exact hg
  · rw [e] at hop
    rw [if_neg (by simp [e])] at hR2
    have hg := hR2 _ (Keep.refl _ _)
    clear hR2 s2 oq o2 hb hh e
    go_wp2_with fail
    refine hop _ ?_
    clear hop
    go_wp2_with fail
    exact hg
end Go.Proofs.Ytgchbcopbkoomaa
