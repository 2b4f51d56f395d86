/- Two lists of steps: are they alike? -/
import Derived.Test.YtgchbcopbkoomaaFw25
import Derived.Test.YtgchbcopbkoomaaLx
namespace Go.Proofs.Ytgchbcopbkoomaa
open Go Go.RowKit

def RA (w0 : World) (T : TypeId) (X : List Value) (i : Nat) (w w' : World) : Prop := if i = 12 then (∃ q Y, w0.heap.size ≤ q ∧ Own w T 1 (some ⟨q, 0, none⟩) 6 6 Y ∧ w' = w.setCells q 0 X) else Keep [] w w'
def VA (w0 : World) (T : TypeId) (X : List Value) (j : Nat) (vs : Array Value) (v : Value) (w : World) : Prop := if j = 12 then (∃ q : Nat, vs[0]? = some (.pointer (some ⟨q, 0, none⟩)) ∧ Own w T 1 (some ⟨q, 0, none⟩) 6 6 X) else (∃ (q : Nat) (Y : List Value), v = .pointer (some ⟨q, 0, none⟩) ∧ w0.heap.size ≤ q ∧ Own w T 1 (some ⟨q, 0, none⟩) 6 6 Y)
theorem VA.made {w0 : World} {T : TypeId} {X : List Value} {j : Nat} {vs : Array Value} {w : World} (hj : j ≠ 12) (hw : w0.heap.size ≤ w.heap.size) : RA w0 T X j w (w.alloc (.cells cmZ.toArray T)) ∧ VA w0 T X j vs (.pointer (some ⟨w.heap.size, 0, none⟩)) (w.alloc (.cells cmZ.toArray T)) := by
  refine ⟨?_, ?_⟩
  · rw [RA, if_neg hj]; exact Keep.of_grow [] (Grow.alloc w _)
  · rw [VA, if_neg hj]; exact ⟨w.heap.size, cmZ, rfl, hw, Own.made (n := 6) (sz := 1) (heap_alloc_new w (.cells cmZ.toArray T)) rfl (by decide) cmZ_one⟩
theorem VA.ptr {w0 : World} {T : TypeId} {X : List Value} {j : Nat} {vs : Array Value} {v : Value} {w : World} (h : VA w0 T X j vs v w) (hj : j ≠ 12) : ∃ (q : Nat) (Y : List Value), v = .pointer (some ⟨q, 0, none⟩) ∧ w0.heap.size ≤ q ∧ Own w T 1 (some ⟨q, 0, none⟩) 6 6 Y := by rwa [VA, if_neg hj] at h
/-- Two variables are made, one is written. -/
def segA (w0 : World) (T : TypeId) (X : List Value) (hX : X.length = 6) (h1 : ∀ v ∈ X, v.oneCell' = true) : Seg where
  C w := ∃ n : KW [] tt w0, w = n.w
  R := RA w0 T X
  V := VA w0 T X
  es := [10, 11, 12]
  hC := fun i w w' ⟨n, h⟩ hr => by
    subst h
    unfold RA at hr
    split at hr
    · obtain ⟨q, Y, hq, -, rfl⟩ := hr
      exact ⟨⟨_, Keep.of_grow [] (n.h.grow.then (Keep.setCells q X 0 _) (fun x hx => by simp at hx; omega)), trivial⟩, rfl⟩
    · exact ⟨⟨w', n.h.trans hr, trivial⟩, rfl⟩
  hV := fun i j vs v w w' hn hc hr h => by
    unfold RA at hr
    unfold VA at h ⊢
    split at hr
    · rename_i e
      obtain ⟨q, Y, hq, o, rfl⟩ := hr
      rw [if_neg (by omega)] at h ⊢
      obtain ⟨q', Y', e', hq', o'⟩ := h
      by_cases hqq : q' = q
      · subst hqq
        exact ⟨q', X, e', hq', own_whole o' hX h1⟩
      · exact ⟨q', Y', e', hq', o'.keep (Keep.setCells q X 0 w) (by simp [blk]; omega)⟩
    · split at h
      · obtain ⟨q, h2, o⟩ := h
        rw [if_pos (by assumption)]
        exact ⟨q, h2, o.keep hr (by simp)⟩
      · obtain ⟨q, Y, h2, hq, o⟩ := h
        rw [if_neg (by assumption)]
        exact ⟨q, Y, h2, hq, o.keep hr (by simp)⟩
theorem segA_drew {w0 : World} {T : TypeId} {X : List Value} {hX : X.length = 6} {h1 : ∀ v ∈ X, v.oneCell' = true} : (segA w0 T X hX h1).C w0.drew := ⟨⟨w0.drew, Keep.drew [] w0, trivial⟩, rfl⟩

theorem opv_store {t ty : TypeId} {a x : Operand} {pos : String} {after : Array Edge} {gd : Option (Nat × Bool)} {act : Act} : (opv ⟨none, .store t a x, ty, pos, after, gd⟩ act)[0]? = some (act.eval a) := by simp [opv, Op.operands]
/-- A command's cells, its data where they may lie. -/
def exD (s : StX) (da : Option Addr) (dc : Nat) : List Value := [.int .i64 s.cmd.kind, .string (str s.cmd.pass), .string (str s.cmd.other), .int .i64 s.cmd.first, .int .i64 s.cmd.count, .slice da s.cmd.data.length dc]


set_option maxRecDepth 100000 in
set_option maxHeartbeats 4000000 in
theorem alike6 (ga oa ca gb ob cb n i : Nat) (hi : i < n) (_ : i ≤ 100000) (s : StX) (e1 e2 : Ex) (h1 : e1.s = s) (h2 : e2.s = s) {c2 c3 c4 c6 c7 c8 c9 c10 c11 c12 c13 c14 c15 c16 c17 c18 c19 c20 c21 c22 c23 c24 c25 c26 c27 c28 c29 c30 c31 c32 c33 c34 c35 c36 c37 c38 c39 c40 c41 c42 c43 c44 c45 c46 c47 c48 c49 c50 c51 c52 c53 c54 c55 c56 c57 c58 c59 c60 c61 c62 c63 c64 c65 c66 c67 c68 c69 c70 c71 c72 c73 c74 c75 c76 c77 c78 c79 c80 c81 c82 c83 c84 c85 c86 c87 c88 c89 c90 c91 c92 c93 c94 c95 c96 c97 c98 c99 c100 c101 c102 c103 c104 c105 c106 c107 c108 c109 c110 c111 c112 c113 c114 c115 c116 c117 c118 c119 c120 c121 c122 c123 c124 c125 c126 : Value} (w : World) (g1 : exG w e1) (g2 : exG w e2) (hc1 : Cells w ga (oa + i * 10) (exV e1)) (hc2 : Cells w gb (ob + i * 10) (exV e2)) {Q : Exit → Act → World → Prop}
    (hQ : ∀ (q6 q7 : Nat) (d6 d7 : Option Addr) (k6 k7 : Nat) w', Grow w w' → Cells w' q6 0 (exD s d6 k6) → Cells w' q7 0 (exD s d7 k7) → Sl w' 1 d6 s.cmd.data.length k6 (s.cmd.data.map B) → Sl w' 1 d7 s.cmd.data.length k7 (s.cmd.data.map B) → ∀ {u19 u20 u21 u22 u23 u24 u25 u26 u27 u28 : Value}, Q .normal ⟨List.toArray (.slice (some ⟨ga, oa, none⟩) n ca :: .slice (some ⟨gb, ob, none⟩) n cb :: c2 :: c3 :: c4 :: .int .i64 (i : Int) :: .pointer (some ⟨q6, 0, none⟩) :: .pointer (some ⟨q7, 0, none⟩) :: c8 :: c9 :: c10 :: c11 :: c12 :: c13 :: c14 :: c15 :: c16 :: c17 :: c18 :: u19 :: u20 :: u21 :: u22 :: u23 :: u24 :: u25 :: u26 :: u27 :: u28 :: c29 :: c30 :: c31 :: c32 :: c33 :: c34 :: c35 :: c36 :: c37 :: c38 :: c39 :: c40 :: c41 :: c42 :: c43 :: c44 :: c45 :: c46 :: c47 :: c48 :: c49 :: c50 :: c51 :: c52 :: c53 :: c54 :: c55 :: c56 :: c57 :: c58 :: c59 :: c60 :: c61 :: c62 :: c63 :: c64 :: c65 :: c66 :: c67 :: c68 :: c69 :: c70 :: c71 :: c72 :: c73 :: c74 :: c75 :: c76 :: c77 :: c78 :: c79 :: c80 :: c81 :: c82 :: c83 :: c84 :: c85 :: c86 :: c87 :: c88 :: c89 :: c90 :: c91 :: c92 :: c93 :: c94 :: c95 :: c96 :: c97 :: c98 :: c99 :: c100 :: c101 :: c102 :: c103 :: c104 :: c105 :: c106 :: c107 :: c108 :: c109 :: c110 :: c111 :: c112 :: c113 :: c114 :: c115 :: c116 :: c117 :: c118 :: c119 :: c120 :: c121 :: c122 :: c123 :: c124 :: c125 :: c126 :: []), []⟩ w') :
    Code.wp Try.prog (regionAt Try.f10 6) Q ⟨List.toArray (.slice (some ⟨ga, oa, none⟩) n ca :: .slice (some ⟨gb, ob, none⟩) n cb :: c2 :: c3 :: c4 :: .int .i64 (i : Int) :: c6 :: c7 :: c8 :: c9 :: c10 :: c11 :: c12 :: c13 :: c14 :: c15 :: c16 :: c17 :: c18 :: c19 :: c20 :: c21 :: c22 :: c23 :: c24 :: c25 :: c26 :: c27 :: c28 :: c29 :: c30 :: c31 :: c32 :: c33 :: c34 :: c35 :: c36 :: c37 :: c38 :: c39 :: c40 :: c41 :: c42 :: c43 :: c44 :: c45 :: c46 :: c47 :: c48 :: c49 :: c50 :: c51 :: c52 :: c53 :: c54 :: c55 :: c56 :: c57 :: c58 :: c59 :: c60 :: c61 :: c62 :: c63 :: c64 :: c65 :: c66 :: c67 :: c68 :: c69 :: c70 :: c71 :: c72 :: c73 :: c74 :: c75 :: c76 :: c77 :: c78 :: c79 :: c80 :: c81 :: c82 :: c83 :: c84 :: c85 :: c86 :: c87 :: c88 :: c89 :: c90 :: c91 :: c92 :: c93 :: c94 :: c95 :: c96 :: c97 :: c98 :: c99 :: c100 :: c101 :: c102 :: c103 :: c104 :: c105 :: c106 :: c107 :: c108 :: c109 :: c110 :: c111 :: c112 :: c113 :: c114 :: c115 :: c116 :: c117 :: c118 :: c119 :: c120 :: c121 :: c122 :: c123 :: c124 :: c125 :: c126 :: []), []⟩ w := by
  have hml : maxLen = 9223372036854775807 := rfl
  have ld : ∀ (e : Ex) (g o : Nat), Cells w g (o + i * 10) (exV e) → ∀ w', Keep [] w w' → (Instr.loadAt 35 (.pointer (some ⟨g, o + i * 10 + 1, none⟩))).run Try.prog w' = .ok (.agg (exC e).toArray) w' := fun e g o hc w' k =>
    Go.run_loadAt_mid w' g (o + i * 10 + 1) 35 (exC e) _ (fun j v hj => by
      have h6 : j < 6 := (List.getElem?_eq_some_iff.1 hj).1
      rw [Nat.add_assoc]
      exact (hc.keep k (by simp)).at (i := 1 + j) (by rw [← hj, Nat.add_comm]; simp only [exV, exC, List.getElem?_cons_succ]; match j, h6 with | 0, _ => rfl | 1, _ => rfl | 2, _ => rfl | 3, _ => rfl | 4, _ => rfl | 5, _ => rfl)) Try.underlying35 rfl (by kernel_rfl)
  have ldA := ld e1 ga oa hc1
  have ldB := ld e2 gb ob hc2
  clear ld
  obtain ⟨X1, hX1⟩ : ∃ X, X = exC e1 := ⟨_, rfl⟩
  obtain ⟨X2, hX2⟩ : ∃ X, X = exC e2 := ⟨_, rfl⟩
  have HQ := Lib.hid hQ
  have H1 := Lib.hid hc1
  have H2 := Lib.hid hc2
  have G1 := Lib.hid g1
  have G2 := Lib.hid g2
  have l1 : X1.length = 6 := by rw [hX1]; rfl
  have l2 : X2.length = 6 := by rw [hX2]; rfl
  have o1 : ∀ v ∈ X1, v.oneCell' = true := by rw [hX1]; exact exC_one _
  have o2 : ∀ v ∈ X2, v.oneCell' = true := by rw [hX2]; exact exC_one _
  rw [← hX1] at ldA
  rw [← hX2] at ldB
  have HX1 := Lib.hid hX1
  have HX2 := Lib.hid hX2
  have L1 := Lib.hid l1
  have L2 := Lib.hid l2
  clear hQ hc1 hc2 g1 g2 hX1 hX2 l1 l2
  conv => arg 2; whnf
  refine wp_region_R (segA w 35 X1 L1.out o1) (by kernel_rfl) segA_drew ?_
  unfold segA
  iterate 4 (refine wpV_look rfl rfl rfl rfl rfl (fun K hK => ?_); go_big_quiet_op; refine hK _ ?_; clear hK K)
  (refine wpV_val rfl rfl rfl rfl rfl _ (fun w hC => by obtain ⟨n, rfl⟩ := hC; exact exec_load (ldA _ n.h)) ?_; simp only [List.set_cons_succ, List.set_cons_zero])
  iterate 4 (refine wpV_look rfl rfl rfl rfl rfl (fun K hK => ?_); go_big_quiet_op; refine hK _ ?_; clear hK K)
  (refine wpV_val rfl rfl rfl rfl rfl _ (fun w hC => by obtain ⟨n, rfl⟩ := hC; exact exec_load (ldB _ n.h)) ?_; simp only [List.set_cons_succ, List.set_cons_zero])
  refine wpV_mk rfl rfl rfl [] (by kernel_rfl) (fun vs w7 hC hF => ?_) (fun vs v w7 hC hV hF => ?_)
  · obtain ⟨⟨w7, hk7, -⟩, rfl⟩ := hC
    unfold yields
    go_simp
    exact VA.made (by decide) hk7.size
  obtain ⟨q10, Y, rfl, -, -⟩ := VA.ptr (show VA w 35 X1 10 vs v w7 from hV) (by decide)
  clear hC hF hV Y w7
  simp only [List.set_cons_succ, List.set_cons_zero]
  refine wpV_mk rfl rfl rfl [] (by kernel_rfl) (fun vs w7 hC hF => ?_) (fun vs v w7 hC hV hF => ?_)
  · obtain ⟨⟨w7, hk7, -⟩, rfl⟩ := hC
    unfold yields
    go_simp
    exact VA.made (by decide) hk7.size
  obtain ⟨q11, Y, rfl, -, -⟩ := VA.ptr (show VA w 35 X1 11 vs v w7 from hV) (by decide)
  clear hC hF hV Y w7
  simp only [List.set_cons_succ, List.set_cons_zero]
  have i6 : (Try.prog.info? 35).map (·.size) = some 6 := by kernel_rfl
  refine wpV_make rfl rfl rfl [10] (by kernel_rfl) (fun w7 hC hF => ?_) (fun v w7 hC hV hF => ?_)
  · have h10 : VA w 35 X1 10 _ (.pointer (some ⟨q10, 0, none⟩)) w7 := (hF 10 (by simp)).1.2 rfl
    obtain ⟨q, Y, e, hq, o⟩ := VA.ptr h10 (by decide)
    cases e
    obtain ⟨r1, oX, k1⟩ := store_arr (P := Try.prog) L1.out o1 o i6
    unfold yields
    rw [exec_store r1]
    simp only [yUpon]
    refine ⟨?_, ?_⟩
    · change RA w _ X1 12 _ _
      rw [RA, if_pos rfl]
      exact ⟨q10, Y, hq, o, rfl⟩
    · change VA w _ X1 12 _ _ _
      rw [VA, if_pos rfl]
      exact ⟨q10, opv_store, oX⟩
  clear hC hV hF w7
  refine wpV_end0 rfl rfl (by kernel_rfl) (fun w7 hC hF => ?_)
  have h11 : VA w 35 X1 11 _ (.pointer (some ⟨q11, 0, none⟩)) w7 := (hF 11).1.2 rfl
  have h12 : VA w 35 X1 12 _ v w7 := (hF 12).2 rfl
  obtain ⟨⟨w7, hk7, -⟩, rfl⟩ := hC
  obtain ⟨q, Y, e, hq, o7⟩ := VA.ptr h11 (by decide)
  cases e
  rw [VA, if_pos rfl] at h12
  obtain ⟨q, e, o6⟩ := h12
  rw [opv_store] at e
  have e' : some (Value.pointer (some ⟨q10, 0, none⟩)) = some (.pointer (some ⟨q, 0, none⟩)) := e
  obtain rfl : q10 = q := by simpa using e'
  clear e e'
  obtain ⟨r1, o8, k8⟩ := store_arr (P := Try.prog) L2.out o2 o7 i6
  unfold yields
  rw [exec_store r1]
  simp only [yUpon]
  have G8 : Grow w (w7.setCells q11 0 X2) := hk7.grow.then k8 (fun x hx => by simp at hx; omega)
  have s1 := (G1.out.grow G8).d
  have s2 := (G2.out.grow G8).d
  rw [h1] at s1
  rw [h2] at s2
  have x1 : X1 = exD s e1.da e1.dc := by rw [HX1.out, exC, h1, Ex.dv, h1]; rfl
  have x2 : X2 = exD s e2.da e2.dc := by rw [HX2.out, exC, h2, Ex.dv, h2]; rfl
  have hcl : ∀ {q : Nat} {X : List Value}, X.length = 6 → Own (w7.setCells q11 0 X2) 35 1 (some ⟨q, 0, none⟩) 6 6 X → Cells (w7.setCells q11 0 X2) q 0 X := fun hX o => by
    obtain ⟨gl, off, ee, hcs⟩ := o.sl.hat (by omega)
    cases ee
    exact hcs
  have c8 := hcl L2.out o8
  by_cases hqq : q10 = q11
  · subst hqq
    rw [x2] at c8 G8 s1 s2 ⊢
    exact HQ.out q10 q10 e2.da e2.da e2.dc e2.dc _ G8 c8 c8 s2 s2
  · have c6 := hcl L1.out (o6.keep k8 (by simp [blk]; omega))
    rw [x1] at c6
    have c8' := c8
    rw [show Cells (w7.setCells q11 0 X2) q11 0 X2 ↔ Cells (w7.setCells q11 0 X2) q11 0 (exD s e2.da e2.dc) from by rw [← x2]] at c8'
    exact HQ.out q10 q11 e1.da e2.da e1.dc e2.dc _ G8 c6 c8' s1 s2


set_option maxRecDepth 100000 in
set_option maxHeartbeats 4000000 in
theorem alike7 (ga oa ca gb ob cb n i q6 q7 : Nat) (hi : i < n) (s : StX) (ka kb ba bb d6 d7 : Option Addr) (kc1 kc2 bc1 bc2 k6 k7 : Nat) {c2 c3 c4 c8 c9 c10 c11 c12 c13 c14 c15 c16 c17 c18 c19 c20 c21 c22 c23 c24 c25 c26 c27 c28 c29 c30 c31 c32 c33 c34 c35 c36 c37 c38 c39 c40 c41 c42 c43 c44 c45 c46 c47 c48 c49 c50 c51 c52 c53 c54 c55 c56 c57 c58 c59 c60 c61 c62 c63 c64 c65 c66 c67 c68 c69 c70 c71 c72 c73 c74 c75 c76 c77 c78 c79 c80 c81 c82 c83 c84 c85 c86 c87 c88 c89 c90 c91 c92 c93 c94 c95 c96 c97 c98 c99 c100 c101 c102 c103 c104 c105 c106 c107 c108 c109 c110 c111 c112 c113 c114 c115 c116 c117 c118 c119 c120 c121 c122 c123 c124 c125 c126 : Value} (w : World)
    (a0 : w.cell? ⟨ga, oa + i * 10, none⟩ = some (.int .i64 s.kind)) (a7 : w.cell? ⟨ga, oa + i * 10 + 7, none⟩ = some (.int .i64 s.n)) (a8 : w.cell? ⟨ga, oa + i * 10 + 8, none⟩ = some (.slice ka s.keep.length kc1)) (a9 : w.cell? ⟨ga, oa + i * 10 + 9, none⟩ = some (.slice ba s.data.length bc1))
    (b0 : w.cell? ⟨gb, ob + i * 10, none⟩ = some (.int .i64 s.kind)) (b7 : w.cell? ⟨gb, ob + i * 10 + 7, none⟩ = some (.int .i64 s.n)) (b8 : w.cell? ⟨gb, ob + i * 10 + 8, none⟩ = some (.slice kb s.keep.length kc2)) (b9 : w.cell? ⟨gb, ob + i * 10 + 9, none⟩ = some (.slice bb s.data.length bc2))
    (hc6 : Cells w q6 0 (exD s d6 k6)) (hc7 : Cells w q7 0 (exD s d7 k7))
    (sa : Sl w 1 ba s.data.length bc1 (s.data.map B)) (sb : Sl w 1 bb s.data.length bc2 (s.data.map B)) (s6 : Sl w 1 d6 s.cmd.data.length k6 (s.cmd.data.map B)) (s7 : Sl w 1 d7 s.cmd.data.length k7 (s.cmd.data.map B)) (_ : s.keep.length ≤ maxLen) {Q : Exit → Act → World → Prop}
    (hQ : ∀ w', Grow w w' → ∀ {u29 u30 u31 u32 u33 u34 u35 u36 u37 u38 u39 u40 u41 u42 u43 u44 u45 u46 u47 u48 u49 u50 u51 u52 u53 u54 u55 u56 u57 u58 u59 u60 u61 u62 u63 u64 u65 u66 u67 u68 u69 u70 u71 u72 u73 u74 u75 u76 u77 u78 u79 u80 u81 u82 u83 u84 u85 u86 u87 u88 u89 u90 u91 u92 u93 u94 u95 u96 u97 u98 u99 u100 u101 u102 u103 u104 u105 u106 u107 u108 u109 u110 u111 u112 u113 u114 u115 u116 u117 u118 u119 u120 u121 u122 u123 u124 u125 : Value}, Q .normal ⟨List.toArray (.slice (some ⟨ga, oa, none⟩) n ca :: .slice (some ⟨gb, ob, none⟩) n cb :: c2 :: c3 :: c4 :: .int .i64 (i : Int) :: .pointer (some ⟨q6, 0, none⟩) :: .pointer (some ⟨q7, 0, none⟩) :: c8 :: c9 :: c10 :: c11 :: c12 :: c13 :: c14 :: c15 :: c16 :: c17 :: c18 :: c19 :: c20 :: c21 :: c22 :: c23 :: c24 :: c25 :: c26 :: c27 :: c28 :: u29 :: u30 :: u31 :: u32 :: u33 :: u34 :: u35 :: u36 :: u37 :: u38 :: u39 :: u40 :: u41 :: u42 :: u43 :: u44 :: u45 :: u46 :: u47 :: u48 :: u49 :: u50 :: u51 :: u52 :: u53 :: u54 :: u55 :: u56 :: u57 :: u58 :: u59 :: u60 :: u61 :: u62 :: u63 :: u64 :: u65 :: u66 :: u67 :: u68 :: u69 :: u70 :: u71 :: u72 :: u73 :: u74 :: u75 :: u76 :: u77 :: u78 :: u79 :: u80 :: u81 :: u82 :: u83 :: u84 :: u85 :: u86 :: u87 :: u88 :: u89 :: u90 :: u91 :: u92 :: u93 :: u94 :: u95 :: u96 :: u97 :: u98 :: u99 :: u100 :: u101 :: u102 :: u103 :: u104 :: u105 :: u106 :: u107 :: u108 :: u109 :: u110 :: u111 :: u112 :: u113 :: u114 :: u115 :: u116 :: u117 :: u118 :: u119 :: u120 :: u121 :: u122 :: u123 :: u124 :: u125 :: .bool false :: []), []⟩ w') :
    Code.wp Try.prog (regionAt Try.f10 7) Q ⟨List.toArray (.slice (some ⟨ga, oa, none⟩) n ca :: .slice (some ⟨gb, ob, none⟩) n cb :: c2 :: c3 :: c4 :: .int .i64 (i : Int) :: .pointer (some ⟨q6, 0, none⟩) :: .pointer (some ⟨q7, 0, none⟩) :: c8 :: c9 :: c10 :: c11 :: c12 :: c13 :: c14 :: c15 :: c16 :: c17 :: c18 :: c19 :: c20 :: c21 :: c22 :: c23 :: c24 :: c25 :: c26 :: c27 :: c28 :: c29 :: c30 :: c31 :: c32 :: c33 :: c34 :: c35 :: c36 :: c37 :: c38 :: c39 :: c40 :: c41 :: c42 :: c43 :: c44 :: c45 :: c46 :: c47 :: c48 :: c49 :: c50 :: c51 :: c52 :: c53 :: c54 :: c55 :: c56 :: c57 :: c58 :: c59 :: c60 :: c61 :: c62 :: c63 :: c64 :: c65 :: c66 :: c67 :: c68 :: c69 :: c70 :: c71 :: c72 :: c73 :: c74 :: c75 :: c76 :: c77 :: c78 :: c79 :: c80 :: c81 :: c82 :: c83 :: c84 :: c85 :: c86 :: c87 :: c88 :: c89 :: c90 :: c91 :: c92 :: c93 :: c94 :: c95 :: c96 :: c97 :: c98 :: c99 :: c100 :: c101 :: c102 :: c103 :: c104 :: c105 :: c106 :: c107 :: c108 :: c109 :: c110 :: c111 :: c112 :: c113 :: c114 :: c115 :: c116 :: c117 :: c118 :: c119 :: c120 :: c121 :: c122 :: c123 :: c124 :: c125 :: c126 :: []), []⟩ w := by
  have hml : maxLen = 9223372036854775807 := rfl
  have p0 := hc6.at (i := 0) (v := .int .i64 s.cmd.kind) rfl
  have p1 := hc6.at (i := 1) (v := .string (str s.cmd.pass)) rfl
  have p2 := hc6.at (i := 2) (v := .string (str s.cmd.other)) rfl
  have p3 := hc6.at (i := 3) (v := .int .i64 s.cmd.first) rfl
  have p4 := hc6.at (i := 4) (v := .int .i64 s.cmd.count) rfl
  have p5 := hc6.at (i := 5) (v := .slice d6 s.cmd.data.length k6) rfl
  have r0 := hc7.at (i := 0) (v := .int .i64 s.cmd.kind) rfl
  have r1 := hc7.at (i := 1) (v := .string (str s.cmd.pass)) rfl
  have r2 := hc7.at (i := 2) (v := .string (str s.cmd.other)) rfl
  have r3 := hc7.at (i := 3) (v := .int .i64 s.cmd.first) rfl
  have r4 := hc7.at (i := 4) (v := .int .i64 s.cmd.count) rfl
  have r5 := hc7.at (i := 5) (v := .slice d7 s.cmd.data.length k7) rfl
  have qa0 := KW.cell (fp := []) (p0 := tt) a0 (by simp)
  have qa7 := KW.cell (fp := []) (p0 := tt) a7 (by simp)
  have qa8 := KW.cell (fp := []) (p0 := tt) a8 (by simp)
  have qa9 := KW.cell (fp := []) (p0 := tt) a9 (by simp)
  have qb0 := KW.cell (fp := []) (p0 := tt) b0 (by simp)
  have qb7 := KW.cell (fp := []) (p0 := tt) b7 (by simp)
  have qb8 := KW.cell (fp := []) (p0 := tt) b8 (by simp)
  have qb9 := KW.cell (fp := []) (p0 := tt) b9 (by simp)
  have qp0 := KW.cell (fp := []) (p0 := tt) p0 (by simp)
  have qp1 := KW.cell (fp := []) (p0 := tt) p1 (by simp)
  have qp2 := KW.cell (fp := []) (p0 := tt) p2 (by simp)
  have qp3 := KW.cell (fp := []) (p0 := tt) p3 (by simp)
  have qp4 := KW.cell (fp := []) (p0 := tt) p4 (by simp)
  have qp5 := KW.cell (fp := []) (p0 := tt) p5 (by simp)
  have qr0 := KW.cell (fp := []) (p0 := tt) r0 (by simp)
  have qr1 := KW.cell (fp := []) (p0 := tt) r1 (by simp)
  have qr2 := KW.cell (fp := []) (p0 := tt) r2 (by simp)
  have qr3 := KW.cell (fp := []) (p0 := tt) r3 (by simp)
  have qr4 := KW.cell (fp := []) (p0 := tt) r4 (by simp)
  have qr5 := KW.cell (fp := []) (p0 := tt) r5 (by simp)
  simp only [Nat.zero_add] at qp0 qp1 qp2 qp3 qp4 qp5 qr0 qr1 qr2 qr3 qr4 qr5
  have cva : ∀ w', Keep [] w w' → (convert 33 9 (.slice ba s.data.length bc1)).run Try.prog w' = .ok (.string (str s.data)) w' := fun w' k => run_str (d := 9) Try.underlying33 Try.underlying5 Try.underlying9 (sa.keep k (by simp))
  have cvb : ∀ w', Keep [] w w' → (convert 33 9 (.slice bb s.data.length bc2)).run Try.prog w' = .ok (.string (str s.data)) w' := fun w' k => run_str (d := 9) Try.underlying33 Try.underlying5 Try.underlying9 (sb.keep k (by simp))
  have cv6 : ∀ w', Keep [] w w' → (convert 33 9 (.slice d6 s.cmd.data.length k6)).run Try.prog w' = .ok (.string (str s.cmd.data)) w' := fun w' k => run_str (d := 9) Try.underlying33 Try.underlying5 Try.underlying9 (s6.keep k (by simp))
  have cv7 : ∀ w', Keep [] w w' → (convert 33 9 (.slice d7 s.cmd.data.length k7)).run Try.prog w' = .ok (.string (str s.cmd.data)) w' := fun w' k => run_str (d := 9) Try.underlying33 Try.underlying5 Try.underlying9 (s7.keep k (by simp))
  have HQ := Lib.hid hQ
  clear hc6 hc7 hQ sa sb s6 s7 a0 a7 a8 a9 b0 b7 b8 b9 p0 p1 p2 p3 p4 p5 r0 r1 r2 r3 r4 r5
  generalize s.data.length = n9 at *
  generalize s.cmd.data.length = n5 at *
  generalize s.keep.length = n8 at *
  generalize str s.data = S9 at *
  generalize str s.cmd.data = S5 at *
  generalize str s.cmd.pass = S1 at *
  generalize str s.cmd.other = S2 at *
  generalize s.kind = K0 at *
  generalize s.n = K7 at *
  generalize s.cmd.kind = K1 at *
  generalize s.cmd.first = K3 at *
  generalize s.cmd.count = K4 at *
  conv => arg 2; whnf
  refine Lx.wp_region_0 (segT w []) (by kernel_rfl) (by kernel_rfl) (by kernel_rfl) segT_drew ?_
  unfold segT segK segR
  iterate 45 (refine wpV_look rfl rfl rfl rfl rfl (fun K hK => ?_); go_big_quiet_op; refine hK _ ?_; clear hK K)
  (refine wpV_val rfl rfl rfl rfl rfl _ (fun w hC => by obtain ⟨n, rfl⟩ := hC; exact exec_conv (cva _ n.h)) ?_; simp only [List.set_cons_succ, List.set_cons_zero])
  iterate 5 (refine wpV_look rfl rfl rfl rfl rfl (fun K hK => ?_); go_big_quiet_op; refine hK _ ?_; clear hK K)
  (refine wpV_val rfl rfl rfl rfl rfl _ (fun w hC => by obtain ⟨n, rfl⟩ := hC; exact exec_conv (cvb _ n.h)) ?_; simp only [List.set_cons_succ, List.set_cons_zero])
  iterate 40 (refine wpV_look rfl rfl rfl rfl rfl (fun K hK => ?_); go_big_quiet_op; refine hK _ ?_; clear hK K)
  (refine wpV_val rfl rfl rfl rfl rfl _ (fun w hC => by obtain ⟨n, rfl⟩ := hC; exact exec_conv (cv6 _ n.h)) ?_; simp only [List.set_cons_succ, List.set_cons_zero])
  iterate 2 (refine wpV_look rfl rfl rfl rfl rfl (fun K hK => ?_); go_big_quiet_op; refine hK _ ?_; clear hK K)
  (refine wpV_val rfl rfl rfl rfl rfl _ (fun w hC => by obtain ⟨n, rfl⟩ := hC; exact exec_conv (cv7 _ n.h)) ?_; simp only [List.set_cons_succ, List.set_cons_zero])
  iterate 2 (refine wpV_look rfl rfl rfl rfl rfl (fun K hK => ?_); go_big_quiet_op; refine hK _ ?_; clear hK K)
  refine wpV_nil ?_
  intro w9 hC hF
  obtain ⟨⟨w9, hk9, -⟩, rfl⟩ := hC
  exact HQ.out _ hk9.grow
end Go.Proofs.Ytgchbcopbkoomaa
