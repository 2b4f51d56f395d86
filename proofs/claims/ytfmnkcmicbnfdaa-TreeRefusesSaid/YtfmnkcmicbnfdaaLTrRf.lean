/- The walk of TreeRefuses. -/
import Derived.Test.YtfmnkcmicbnfdaaHtAw
import Derived.Test.YtfmnkcmicbnfdaaGHt4
namespace Go.Proofs.Ytfmnkcmicbnfdaa
open Go Go.RowKit

/-- A tree's root is this, in each later world. -/
def RootIs (w : World) (p : Nat) (X : Array Value) : Prop := ∀ w', Grow w w' → ∀ R : Ending → World → Prop, (∀ w2, Grow w' w2 → R (.returned (.agg X)) w2) → Calls Try.prog 37 #[.pointer (some ⟨p, 0, none⟩)] w' R
def BlkIs (w : World) (q : Nat) (X : Array Value) : Prop := ∀ w', Keep [] w w' → (Instr.loadAt 33 (.pointer (some ⟨q, 0, none⟩))).run Try.prog w' = .ok (.agg X) w'
theorem blkIs {w : World} {q : Nat} {V : List Value} (hV : V.length = 16) (o : Own w 33 1 (some ⟨q, 0, none⟩) 16 16 V) : BlkIs w q V.toArray := fun _ k =>
  load_arr (P := Try.prog) (t := 33) (by omega) hV (o.keep k (by simp)) Try.underlying33 rfl i16


set_option maxRecDepth 100000 in
set_option maxHeartbeats 1000000 in
theorem trRf11t (p q : Nat) (X : Array Value) {c0 c1 c2 c3 c4 c5 c6 c8 c12 c13 c14 c15 c16 c17 c18 c19 c20 c21 c22 c23 c24 c25 c26 c27 c28 c29 c30 c31 c32 c33 c34 c35 c36 c37 c38 c39 c40 c41 c42 c43 c44 c45 c46 c47 c48 c49 c50 c51 c52 c53 c54 c55 c56 c57 c58 c59 c60 c61 c62 c63 c64 c65 c66 c67 c68 c69 c70 c71 c72 c73 c74 c75 c76 c77 c78 c79 c80 c81 c82 c83 c84 c85 c86 c87 c88 c89 c90 c91 c92 c93 c94 c95 c96 c97 c98 c99 c100 c101 c102 c103 c104 c105 c106 c107 c108 c109 c110 c111 c112 c113 c114 c115 c116 c117 c118 c119 c120 c121 c122 c123 c124 c125 c126 c127 c128 c129 c130 c131 c132 c133 c134 c135 c136 c137 c138 c139 c140 : Value} (w : World) (hr : RootIs w p X) (hl : BlkIs w q X) (heq : ∀ w, (Op.equalIn 10000 33 (.agg X) (.agg X)).run Try.prog w = .ok true w) {Q : Exit → Act → World → Prop}
    (hQ : ∀ (w' : World), Grow w w' → ∀ {u79 u80 u81 u82 u83 u84 u85 u86 u87 u88 u89 u90 u91 u92 u93 u94 u95 : Value}, Q .normal ⟨List.toArray (c0 :: c1 :: c2 :: c3 :: c4 :: c5 :: c6 :: .pointer (some ⟨p, 0, none⟩) :: c8 :: .pointer (some ⟨q, 0, none⟩) :: .bool true :: .int .i64 0 :: c12 :: c13 :: c14 :: c15 :: c16 :: c17 :: c18 :: c19 :: c20 :: c21 :: c22 :: c23 :: c24 :: c25 :: c26 :: c27 :: c28 :: c29 :: c30 :: c31 :: c32 :: c33 :: c34 :: c35 :: c36 :: c37 :: c38 :: c39 :: c40 :: c41 :: c42 :: c43 :: c44 :: c45 :: c46 :: c47 :: c48 :: c49 :: c50 :: c51 :: c52 :: c53 :: c54 :: c55 :: c56 :: c57 :: c58 :: c59 :: c60 :: c61 :: c62 :: c63 :: c64 :: c65 :: c66 :: c67 :: c68 :: c69 :: c70 :: c71 :: c72 :: c73 :: c74 :: c75 :: c76 :: c77 :: c78 :: u79 :: u80 :: u81 :: u82 :: u83 :: u84 :: u85 :: u86 :: u87 :: u88 :: u89 :: u90 :: u91 :: u92 :: u93 :: u94 :: u95 :: .bool false :: c97 :: c98 :: c99 :: c100 :: c101 :: c102 :: c103 :: c104 :: c105 :: c106 :: c107 :: c108 :: c109 :: c110 :: c111 :: c112 :: c113 :: c114 :: c115 :: c116 :: c117 :: c118 :: c119 :: c120 :: c121 :: c122 :: c123 :: c124 :: c125 :: c126 :: c127 :: c128 :: c129 :: c130 :: c131 :: c132 :: c133 :: c134 :: c135 :: c136 :: c137 :: c138 :: c139 :: c140 :: []), []⟩ w') :
    Code.wp Try.prog (regionAt Try.f11 11) Q ⟨List.toArray (c0 :: c1 :: c2 :: c3 :: c4 :: c5 :: c6 :: .pointer (some ⟨p, 0, none⟩) :: c8 :: .pointer (some ⟨q, 0, none⟩) :: .bool true :: .int .i64 0 :: c12 :: c13 :: c14 :: c15 :: c16 :: c17 :: c18 :: c19 :: c20 :: c21 :: c22 :: c23 :: c24 :: c25 :: c26 :: c27 :: c28 :: c29 :: c30 :: c31 :: c32 :: c33 :: c34 :: c35 :: c36 :: c37 :: c38 :: c39 :: c40 :: c41 :: c42 :: c43 :: c44 :: c45 :: c46 :: c47 :: c48 :: c49 :: c50 :: c51 :: c52 :: c53 :: c54 :: c55 :: c56 :: c57 :: c58 :: c59 :: c60 :: c61 :: c62 :: c63 :: c64 :: c65 :: c66 :: c67 :: c68 :: c69 :: c70 :: c71 :: c72 :: c73 :: c74 :: c75 :: c76 :: c77 :: c78 :: c79 :: c80 :: c81 :: c82 :: c83 :: c84 :: c85 :: c86 :: c87 :: c88 :: c89 :: c90 :: c91 :: c92 :: c93 :: c94 :: c95 :: c96 :: c97 :: c98 :: c99 :: c100 :: c101 :: c102 :: c103 :: c104 :: c105 :: c106 :: c107 :: c108 :: c109 :: c110 :: c111 :: c112 :: c113 :: c114 :: c115 :: c116 :: c117 :: c118 :: c119 :: c120 :: c121 :: c122 :: c123 :: c124 :: c125 :: c126 :: c127 :: c128 :: c129 :: c130 :: c131 :: c132 :: c133 :: c134 :: c135 :: c136 :: c137 :: c138 :: c139 :: c140 :: []), []⟩ w := by
  unfold BlkIs at hl
  conv => arg 2; whnf
  refine wp_region_R (segT w [(14, pIs (.agg X))]) (by kernel_rfl) segT_drew ?_
  unfold segT segK segR
  repeat (first | (refine wpV_skp rfl rfl ?_; simp only [List.set_cons_succ, List.set_cons_zero]) | (refine wpV_val rfl rfl rfl rfl rfl _ (fun w hC => by obtain ⟨n, rfl⟩ := hC; exact exec_load (hl _ n.h)) ?_; simp only [List.set_cons_succ, List.set_cons_zero]) | (refine wpV_look rfl rfl rfl rfl rfl (fun K hK => ?_); go_big_quiet_op; refine hK _ ?_; clear hK K))
  refine wpV_mk rfl rfl rfl [] (by kernel_rfl) (fun vs w7 hC hF => yields_call (by kernel_rfl) ?_) (fun vs v w7 hC hV hF => ?_)
  · obtain ⟨⟨w7, hk7, -⟩, rfl⟩ := hC
    exact hr w7 hk7.grow _ (fun w8 g8 => ⟨_, rfl, ⟨Keep.of_grow [] g8, trivial⟩, rfl⟩)
  obtain rfl := hV
  clear hC hF w7
  simp only [List.set_cons_succ, List.set_cons_zero]
  repeat (first | (refine wpV_skp rfl rfl ?_; simp only [List.set_cons_succ, List.set_cons_zero]) | (refine wpV_val rfl rfl rfl rfl rfl _ (fun w hC => by obtain ⟨n, rfl⟩ := hC; exact exec_load (hl _ n.h)) ?_; simp only [List.set_cons_succ, List.set_cons_zero]) | (refine wpV_look rfl rfl rfl rfl rfl (fun K hK => ?_); go_big_quiet_op; refine hK _ ?_; clear hK K))
  refine wpV_nil ?_
  intro w2 hC hF
  obtain ⟨⟨w2, hkw2, -⟩, rfl⟩ := hC
  clear hF
  exact hQ _ hkw2.grow


set_option maxRecDepth 100000 in
set_option maxHeartbeats 1000000 in
theorem trRf11f (p q : Nat) (X : Array Value) {c0 c1 c2 c3 c4 c5 c6 c8 c12 c13 c14 c15 c16 c17 c18 c19 c20 c21 c22 c23 c24 c25 c26 c27 c28 c29 c30 c31 c32 c33 c34 c35 c36 c37 c38 c39 c40 c41 c42 c43 c44 c45 c46 c47 c48 c49 c50 c51 c52 c53 c54 c55 c56 c57 c58 c59 c60 c61 c62 c63 c64 c65 c66 c67 c68 c69 c70 c71 c72 c73 c74 c75 c76 c77 c78 c79 c80 c81 c82 c83 c84 c85 c86 c87 c88 c89 c90 c91 c92 c93 c94 c95 c96 c97 c98 c99 c100 c101 c102 c103 c104 c105 c106 c107 c108 c109 c110 c111 c112 c113 c114 c115 c116 c117 c118 c119 c120 c121 c122 c123 c124 c125 c126 c127 c128 c129 c130 c131 c132 c133 c134 c135 c136 c137 c138 c139 c140 : Value} (w : World) (hr : RootIs w p X) (hl : BlkIs w q X) (heq : ∀ w, (Op.equalIn 10000 33 (.agg X) (.agg X)).run Try.prog w = .ok true w) {Q : Exit → Act → World → Prop}
    (hQ : ∀ (w' : World), Grow w w' → ∀ {u79 u80 u81 u82 u83 u84 u85 u86 u87 u88 u89 u90 u91 u92 u93 u94 u95 : Value}, Q .normal ⟨List.toArray (c0 :: c1 :: c2 :: c3 :: c4 :: c5 :: c6 :: .pointer (some ⟨p, 0, none⟩) :: c8 :: .pointer (some ⟨q, 0, none⟩) :: .bool false :: .int .i64 3 :: c12 :: c13 :: c14 :: c15 :: c16 :: c17 :: c18 :: c19 :: c20 :: c21 :: c22 :: c23 :: c24 :: c25 :: c26 :: c27 :: c28 :: c29 :: c30 :: c31 :: c32 :: c33 :: c34 :: c35 :: c36 :: c37 :: c38 :: c39 :: c40 :: c41 :: c42 :: c43 :: c44 :: c45 :: c46 :: c47 :: c48 :: c49 :: c50 :: c51 :: c52 :: c53 :: c54 :: c55 :: c56 :: c57 :: c58 :: c59 :: c60 :: c61 :: c62 :: c63 :: c64 :: c65 :: c66 :: c67 :: c68 :: c69 :: c70 :: c71 :: c72 :: c73 :: c74 :: c75 :: c76 :: c77 :: c78 :: u79 :: u80 :: u81 :: u82 :: u83 :: u84 :: u85 :: u86 :: u87 :: u88 :: u89 :: u90 :: u91 :: u92 :: u93 :: u94 :: u95 :: .bool false :: c97 :: c98 :: c99 :: c100 :: c101 :: c102 :: c103 :: c104 :: c105 :: c106 :: c107 :: c108 :: c109 :: c110 :: c111 :: c112 :: c113 :: c114 :: c115 :: c116 :: c117 :: c118 :: c119 :: c120 :: c121 :: c122 :: c123 :: c124 :: c125 :: c126 :: c127 :: c128 :: c129 :: c130 :: c131 :: c132 :: c133 :: c134 :: c135 :: c136 :: c137 :: c138 :: c139 :: c140 :: []), []⟩ w') :
    Code.wp Try.prog (regionAt Try.f11 11) Q ⟨List.toArray (c0 :: c1 :: c2 :: c3 :: c4 :: c5 :: c6 :: .pointer (some ⟨p, 0, none⟩) :: c8 :: .pointer (some ⟨q, 0, none⟩) :: .bool false :: .int .i64 3 :: c12 :: c13 :: c14 :: c15 :: c16 :: c17 :: c18 :: c19 :: c20 :: c21 :: c22 :: c23 :: c24 :: c25 :: c26 :: c27 :: c28 :: c29 :: c30 :: c31 :: c32 :: c33 :: c34 :: c35 :: c36 :: c37 :: c38 :: c39 :: c40 :: c41 :: c42 :: c43 :: c44 :: c45 :: c46 :: c47 :: c48 :: c49 :: c50 :: c51 :: c52 :: c53 :: c54 :: c55 :: c56 :: c57 :: c58 :: c59 :: c60 :: c61 :: c62 :: c63 :: c64 :: c65 :: c66 :: c67 :: c68 :: c69 :: c70 :: c71 :: c72 :: c73 :: c74 :: c75 :: c76 :: c77 :: c78 :: c79 :: c80 :: c81 :: c82 :: c83 :: c84 :: c85 :: c86 :: c87 :: c88 :: c89 :: c90 :: c91 :: c92 :: c93 :: c94 :: c95 :: c96 :: c97 :: c98 :: c99 :: c100 :: c101 :: c102 :: c103 :: c104 :: c105 :: c106 :: c107 :: c108 :: c109 :: c110 :: c111 :: c112 :: c113 :: c114 :: c115 :: c116 :: c117 :: c118 :: c119 :: c120 :: c121 :: c122 :: c123 :: c124 :: c125 :: c126 :: c127 :: c128 :: c129 :: c130 :: c131 :: c132 :: c133 :: c134 :: c135 :: c136 :: c137 :: c138 :: c139 :: c140 :: []), []⟩ w := by
  unfold BlkIs at hl
  conv => arg 2; whnf
  refine wp_region_R (segT w [(14, pIs (.agg X))]) (by kernel_rfl) segT_drew ?_
  unfold segT segK segR
  repeat (first | (refine wpV_skp rfl rfl ?_; simp only [List.set_cons_succ, List.set_cons_zero]) | (refine wpV_val rfl rfl rfl rfl rfl _ (fun w hC => by obtain ⟨n, rfl⟩ := hC; exact exec_load (hl _ n.h)) ?_; simp only [List.set_cons_succ, List.set_cons_zero]) | (refine wpV_look rfl rfl rfl rfl rfl (fun K hK => ?_); go_big_quiet_op; refine hK _ ?_; clear hK K))
  refine wpV_mk rfl rfl rfl [] (by kernel_rfl) (fun vs w7 hC hF => yields_call (by kernel_rfl) ?_) (fun vs v w7 hC hV hF => ?_)
  · obtain ⟨⟨w7, hk7, -⟩, rfl⟩ := hC
    exact hr w7 hk7.grow _ (fun w8 g8 => ⟨_, rfl, ⟨Keep.of_grow [] g8, trivial⟩, rfl⟩)
  obtain rfl := hV
  clear hC hF w7
  simp only [List.set_cons_succ, List.set_cons_zero]
  repeat (first | (refine wpV_skp rfl rfl ?_; simp only [List.set_cons_succ, List.set_cons_zero]) | (refine wpV_val rfl rfl rfl rfl rfl _ (fun w hC => by obtain ⟨n, rfl⟩ := hC; exact exec_load (hl _ n.h)) ?_; simp only [List.set_cons_succ, List.set_cons_zero]) | (refine wpV_look rfl rfl rfl rfl rfl (fun K hK => ?_); go_big_quiet_op; refine hK _ ?_; clear hK K))
  refine wpV_nil ?_
  intro w2 hC hF
  obtain ⟨⟨w2, hkw2, -⟩, rfl⟩ := hC
  clear hF
  exact hQ _ hkw2.grow


set_option maxRecDepth 100000 in
set_option maxHeartbeats 2000000 in
theorem trRf14 (t : Tre) (q : Nat) (X : Array Value) (leaf : Int) {h : Int → Bool} {T : Nat → Nat → B16} (hL0 : 0 < t.L) (hL : t.L = (wl t.n).length) (hn1 : 1 ≤ t.n) (hn2 : t.n ≤ 1000) (ho : leaf < 0 ∨ (t.n : Int) ≤ leaf) {c0 c1 c3 c4 c5 c6 c8 c10 c11 c12 c13 c14 c15 c16 c17 c18 c19 c20 c21 c22 c23 c24 c25 c26 c27 c28 c29 c30 c31 c32 c33 c34 c35 c36 c37 c38 c39 c40 c41 c42 c43 c44 c45 c46 c47 c48 c49 c50 c51 c52 c53 c54 c55 c56 c57 c58 c59 c60 c61 c62 c63 c64 c65 c66 c67 c68 c69 c70 c71 c72 c73 c74 c75 c76 c77 c78 c79 c80 c81 c82 c83 c84 c85 c86 c87 c88 c89 c90 c91 c92 c93 c94 c95 c96 c97 c98 c99 c100 c101 c102 c103 c104 c105 c106 c107 c108 c109 c110 c111 c112 c113 c114 c115 c116 c117 c118 c119 c120 c121 c122 c123 c124 c125 c126 c127 c128 c129 c130 c131 c132 c133 c134 c135 c136 c137 c138 c139 c140 : Value} (w : World) (a : Ht w t h T) (hr : RootIs w t.p X) (hl : BlkIs w q X) (heq : ∀ w, (Op.equalIn 10000 33 (.agg X) (.agg X)).run Try.prog w = .ok true w) {Q : Exit → Act → World → Prop}
    (hQ : ∀ (w' : World), Grow w w' → ∀ {u99 u100 u101 u102 u103 u104 u105 u106 u107 u108 u109 u110 u111 u112 u113 u114 u115 u116 u117 u118 u119 u120 u121 u122 u123 u124 u125 u126 u127 u128 u129 u130 u131 u132 u133 : Value}, Q .normal ⟨List.toArray (c0 :: c1 :: .int .i64 leaf :: c3 :: c4 :: c5 :: .bool true :: .pointer (some ⟨t.p, 0, none⟩) :: c8 :: .pointer (some ⟨q, 0, none⟩) :: c10 :: c11 :: c12 :: c13 :: c14 :: c15 :: c16 :: c17 :: c18 :: c19 :: c20 :: c21 :: c22 :: c23 :: c24 :: c25 :: c26 :: c27 :: c28 :: c29 :: c30 :: c31 :: c32 :: c33 :: c34 :: c35 :: c36 :: c37 :: c38 :: c39 :: c40 :: c41 :: c42 :: c43 :: c44 :: c45 :: c46 :: c47 :: c48 :: c49 :: c50 :: c51 :: c52 :: c53 :: c54 :: c55 :: c56 :: c57 :: c58 :: c59 :: c60 :: c61 :: c62 :: c63 :: c64 :: c65 :: c66 :: c67 :: c68 :: c69 :: c70 :: c71 :: c72 :: c73 :: c74 :: c75 :: c76 :: c77 :: c78 :: c79 :: c80 :: c81 :: c82 :: c83 :: c84 :: c85 :: c86 :: c87 :: c88 :: c89 :: c90 :: c91 :: c92 :: c93 :: c94 :: c95 :: c96 :: c97 :: c98 :: u99 :: u100 :: u101 :: u102 :: u103 :: u104 :: u105 :: u106 :: u107 :: u108 :: u109 :: u110 :: u111 :: u112 :: u113 :: u114 :: u115 :: u116 :: u117 :: u118 :: u119 :: u120 :: u121 :: u122 :: u123 :: u124 :: u125 :: u126 :: u127 :: u128 :: u129 :: u130 :: u131 :: u132 :: u133 :: c134 :: c135 :: c136 :: c137 :: c138 :: c139 :: c140 :: []), []⟩ w') :
    Code.wp Try.prog (regionAt Try.f11 14) Q ⟨List.toArray (c0 :: c1 :: .int .i64 leaf :: c3 :: c4 :: c5 :: c6 :: .pointer (some ⟨t.p, 0, none⟩) :: c8 :: .pointer (some ⟨q, 0, none⟩) :: c10 :: c11 :: c12 :: c13 :: c14 :: c15 :: c16 :: c17 :: c18 :: c19 :: c20 :: c21 :: c22 :: c23 :: c24 :: c25 :: c26 :: c27 :: c28 :: c29 :: c30 :: c31 :: c32 :: c33 :: c34 :: c35 :: c36 :: c37 :: c38 :: c39 :: c40 :: c41 :: c42 :: c43 :: c44 :: c45 :: c46 :: c47 :: c48 :: c49 :: c50 :: c51 :: c52 :: c53 :: c54 :: c55 :: c56 :: c57 :: c58 :: c59 :: c60 :: c61 :: c62 :: c63 :: c64 :: c65 :: c66 :: c67 :: c68 :: c69 :: c70 :: c71 :: c72 :: c73 :: c74 :: c75 :: c76 :: c77 :: c78 :: c79 :: c80 :: c81 :: c82 :: c83 :: c84 :: c85 :: c86 :: c87 :: c88 :: c89 :: c90 :: c91 :: c92 :: c93 :: c94 :: c95 :: c96 :: c97 :: c98 :: c99 :: c100 :: c101 :: c102 :: c103 :: c104 :: c105 :: c106 :: c107 :: c108 :: c109 :: c110 :: c111 :: c112 :: c113 :: c114 :: c115 :: c116 :: c117 :: c118 :: c119 :: c120 :: c121 :: c122 :: c123 :: c124 :: c125 :: c126 :: c127 :: c128 :: c129 :: c130 :: c131 :: c132 :: c133 :: c134 :: c135 :: c136 :: c137 :: c138 :: c139 :: c140 :: []), []⟩ w := by
  unfold BlkIs at hl
  have hml : maxLen = 9223372036854775807 := rfl
  have hset := fun w' (g : Grow w w') x => setOut (a.grow g) hL0 leaf ho x
  have hleaf := fun w' (g : Grow w w') => leafTC (a.grow g) hL hn1 hn2 leaf
  have hprf := fun w' (g : Grow w w') => proofTC (a.grow g) hL hn1 hn2 leaf
  have hchk := fun w' (g : Grow w w') x => checkOut (a.grow g) hL0 leaf (by omega) x
  have hw0 := wid0 t.n hn1 (by omega)
  have e0 : nodeA t.n T 0 leaf = B0 := nodeA_out _ _ _ _ (by rw [hw0]; omega)
  have eb : beside t.n leaf = [] := by
    unfold beside
    rw [if_pos (by rw [hw0]; omega)]
  simp only [e0] at hleaf
  simp only [eb] at hprf
  have eq0 := eqB0 B0
  rw [beq_self_eq_true] at eq0
  obtain ⟨V0, hV0⟩ : ∃ V, V = (B0.b.map B).toArray := ⟨_, rfl⟩
  rw [← hV0] at eq0
  simp only [← hV0] at hleaf
  have haw := awake20C
  clear hV0 e0 eb hw0 a
  conv => arg 2; whnf
  refine wp_region_R (segF w [(2, fLit w.heap.size [120]), (3, fBy [120]), (4, fIs (.int .i64 3)), (8, fIs (.agg X)), (15, fIs (.agg V0)), (22, fSl 16 0 []), (29, fIs (.bool false)), (33, fIs (.bool true))]) (by kernel_rfl) segF_drew ?_
  unfold segF
  repeat (first | (refine wpV_skp rfl rfl ?_; simp only [List.set_cons_succ, List.set_cons_zero]) | (refine wpV_val rfl rfl rfl rfl rfl _ (fun w hC => by obtain ⟨n, rfl⟩ := hC; exact exec_load (hl _ n.h)) ?_; simp only [List.set_cons_succ, List.set_cons_zero]) | (refine wpV_look rfl rfl rfl rfl rfl (fun K hK => ?_); go_big_quiet_op; refine hK _ ?_; clear hK K))
  refine wpV_mk rfl rfl rfl [] (by kernel_rfl) (fun vs w7 hC hF => ?_) (fun vs v w7 hC hV hF => ?_)
  · obtain ⟨⟨w7, hk, -⟩, rfl⟩ := hC
    unfold yields
    go_simp
    exact ⟨growF (Grow.alloc w7 _), fLit_new w7 _ [120] 1 rfl hk.size⟩
  obtain ⟨g2, r2, rfl, -, -⟩ := hV
  clear hC hF w7
  simp only [List.set_cons_succ, List.set_cons_zero]
  refine wpV_mk rfl rfl rfl [2] (by kernel_rfl) (fun vs w7 hC hF => ?_) (fun vs v w7 hC hV hF => ?_)
  · obtain ⟨⟨w7, hk, -⟩, rfl⟩ := hC
    obtain ⟨g, fr, e, hh, hg⟩ := (hF 2 (by simp)).2 rfl
    cases e
    obtain ⟨w8, hr, kf, kp⟩ := conv_lit 1 1 hh
    exact yields_run (exec_conv hr) ⟨⟨kf, _, kp, by simpa using hg⟩, fBy_lit hh (by decide) kf⟩
  obtain ⟨b2, d2, rfl, -⟩ := hV
  clear hC hF w7
  simp only [List.set_cons_succ, List.set_cons_zero]
  repeat (first | (refine wpV_skp rfl rfl ?_; simp only [List.set_cons_succ, List.set_cons_zero]) | (refine wpV_val rfl rfl rfl rfl rfl _ (fun w hC => by obtain ⟨n, rfl⟩ := hC; exact exec_load (hl _ n.h)) ?_; simp only [List.set_cons_succ, List.set_cons_zero]) | (refine wpV_look rfl rfl rfl rfl rfl (fun K hK => ?_); go_big_quiet_op; refine hK _ ?_; clear hK K))
  refine wpV_mk rfl rfl rfl [] (by kernel_rfl) (fun vs w7 hC hF => yields_call (by kernel_rfl) ?_) (fun vs v w7 hC hV hF => ?_)
  · obtain ⟨⟨w7, hk7, -⟩, rfl⟩ := hC
    exact hset w7 hk7.grow _ _ ⟨_, rfl, growF (Grow.refl _), rfl⟩
  obtain rfl := hV
  clear hC hF w7
  simp only [List.set_cons_succ, List.set_cons_zero]
  repeat (first | (refine wpV_skp rfl rfl ?_; simp only [List.set_cons_succ, List.set_cons_zero]) | (refine wpV_val rfl rfl rfl rfl rfl _ (fun w hC => by obtain ⟨n, rfl⟩ := hC; exact exec_load (hl _ n.h)) ?_; simp only [List.set_cons_succ, List.set_cons_zero]) | (refine wpV_look rfl rfl rfl rfl rfl (fun K hK => ?_); go_big_quiet_op; refine hK _ ?_; clear hK K))
  refine wpV_mk rfl rfl rfl [] (by kernel_rfl) (fun vs w7 hC hF => yields_call (by kernel_rfl) ?_) (fun vs v w7 hC hV hF => ?_)
  · obtain ⟨⟨w7, hk7, -⟩, rfl⟩ := hC
    exact hr w7 hk7.grow _ (fun w8 g8 => ⟨_, rfl, growF g8, rfl⟩)
  obtain rfl := hV
  clear hC hF w7
  simp only [List.set_cons_succ, List.set_cons_zero]
  repeat (first | (refine wpV_skp rfl rfl ?_; simp only [List.set_cons_succ, List.set_cons_zero]) | (refine wpV_val rfl rfl rfl rfl rfl _ (fun w hC => by obtain ⟨n, rfl⟩ := hC; exact exec_load (hl _ n.h)) ?_; simp only [List.set_cons_succ, List.set_cons_zero]) | (refine wpV_look rfl rfl rfl rfl rfl (fun K hK => ?_); go_big_quiet_op; refine hK _ ?_; clear hK K))
  refine wpV_mk rfl rfl rfl [] (by kernel_rfl) (fun vs w7 hC hF => yields_call (by kernel_rfl) ?_) (fun vs v w7 hC hV hF => ?_)
  · obtain ⟨⟨w7, hk7, -⟩, rfl⟩ := hC
    exact hleaf w7 hk7.grow _ (fun w8 g8 => ⟨_, rfl, growF g8, rfl⟩)
  obtain rfl := hV
  clear hC hF w7
  simp only [List.set_cons_succ, List.set_cons_zero]
  repeat (first | (refine wpV_skp rfl rfl ?_; simp only [List.set_cons_succ, List.set_cons_zero]) | (refine wpV_val rfl rfl rfl rfl rfl _ (fun w hC => by obtain ⟨n, rfl⟩ := hC; exact exec_load (hl _ n.h)) ?_; simp only [List.set_cons_succ, List.set_cons_zero]) | (refine wpV_look rfl rfl rfl rfl rfl (fun K hK => ?_); go_big_quiet_op; refine hK _ ?_; clear hK K))
  refine wpV_mk rfl rfl rfl [] (by kernel_rfl) (fun vs w7 hC hF => yields_call (by kernel_rfl) ?_) (fun vs v w7 hC hV hF => ?_)
  · obtain ⟨⟨w7, hk7, -⟩, rfl⟩ := hC
    refine hprf w7 hk7.grow _ (fun ao n c w8 hn o8 g8 _ => ⟨_, rfl, growF g8, ?_⟩)
    obtain rfl : n = 0 := hn
    exact ⟨ao, c, rfl, o8.sl⟩
  obtain ⟨b22, d22, rfl, -⟩ := hV
  clear hC hF w7
  simp only [List.set_cons_succ, List.set_cons_zero]
  repeat (first | (refine wpV_skp rfl rfl ?_; simp only [List.set_cons_succ, List.set_cons_zero]) | (refine wpV_val rfl rfl rfl rfl rfl _ (fun w hC => by obtain ⟨n, rfl⟩ := hC; exact exec_load (hl _ n.h)) ?_; simp only [List.set_cons_succ, List.set_cons_zero]) | (refine wpV_look rfl rfl rfl rfl rfl (fun K hK => ?_); go_big_quiet_op; refine hK _ ?_; clear hK K))
  refine wpV_mk rfl rfl rfl [] (by kernel_rfl) (fun vs w7 hC hF => yields_call (by kernel_rfl) ?_) (fun vs v w7 hC hV hF => ?_)
  · obtain ⟨⟨w7, hk7, -⟩, rfl⟩ := hC
    exact hchk w7 hk7.grow _ _ (fun w8 g8 => ⟨_, rfl, growF g8, rfl⟩)
  obtain rfl := hV
  clear hC hF w7
  simp only [List.set_cons_succ, List.set_cons_zero]
  repeat (first | (refine wpV_skp rfl rfl ?_; simp only [List.set_cons_succ, List.set_cons_zero]) | (refine wpV_val rfl rfl rfl rfl rfl _ (fun w hC => by obtain ⟨n, rfl⟩ := hC; exact exec_load (hl _ n.h)) ?_; simp only [List.set_cons_succ, List.set_cons_zero]) | (refine wpV_look rfl rfl rfl rfl rfl (fun K hK => ?_); go_big_quiet_op; refine hK _ ?_; clear hK K))
  refine wpV_mk rfl rfl rfl [] (by kernel_rfl) (fun vs w7 hC hF => yields_call (by kernel_rfl) ?_) (fun vs v w7 hC hV hF => ?_)
  · obtain ⟨⟨w7, hk7, -⟩, rfl⟩ := hC
    exact haw w7 _ (fun w8 g8 => ⟨_, rfl, growF g8, rfl⟩)
  obtain rfl := hV
  clear hC hF w7
  simp only [List.set_cons_succ, List.set_cons_zero]
  repeat (first | (refine wpV_skp rfl rfl ?_; simp only [List.set_cons_succ, List.set_cons_zero]) | (refine wpV_val rfl rfl rfl rfl rfl _ (fun w hC => by obtain ⟨n, rfl⟩ := hC; exact exec_load (hl _ n.h)) ?_; simp only [List.set_cons_succ, List.set_cons_zero]) | (refine wpV_look rfl rfl rfl rfl rfl (fun K hK => ?_); go_big_quiet_op; refine hK _ ?_; clear hK K))
  refine wpV_nil ?_
  intro w2 hC hF
  obtain ⟨⟨w2, hkw2, -⟩, rfl⟩ := hC
  clear hF
  exact hQ _ hkw2.grow

set_option maxRecDepth 100000 in
set_option maxHeartbeats 2000000 in
theorem trRfB1 (n leaf : Int) (k : Nat) (hk : k ≤ 100) (hwf : (Lit.int .i64 n).wf = true) (hn : n < 1) (w : World)
    (R : Ending → World → Prop) (hR : ∀ w', Grow w w' → R (.returned (.bool true)) w') :
    Calls Try.prog 11 #[.int .i64 n, .int .i64 (k : Int), .int .i64 leaf] w R := by
  have hml : maxLen = 9223372036854775807 := rfl
  have haw := awake20C
  have hmk := fun w => make_bytes k (by omega) w
  have d6 : decide ((k : Int) < 0) = false := decide_eq_false (by omega)
  have d7 : decide (100 < (k : Int)) = false := decide_eq_false (by omega)
  have hb : wide n = [] ∨ k ≠ 32 := by exact .inl (by unfold wide; rw [if_pos (.inl hn)])
  have hv : way n 0 = [] ∨ k ≠ 32 := by
    rcases hb with h | h
    · exact .inl (by simp [way, wid, h])
    · exact .inr h
  have d1 : decide (40 < n) = false := decide_eq_false (by omega)
  have d3 : decide (n < 1) = true := decide_eq_true hn
  have hnew := fun w' => newBad n hwf (some ⟨w.heap.size, 0, none⟩) k k (.pointer none) hb w'
  have hver := fun bs w' rt => verifyBad n 0 hwf (some ⟨bs, 0, none⟩) k k none rt none none 0 0 0 0 hv w'
  clear hb hv
  have HR := Lib.hid hR
  clear hR
  go_enter Try.func11, Try.ntmps11
  go_wp2_with fail
  refine hnew _ _ ?_
  clear hnew
  intro w2 g2
  have G2 := (Grow.alloc w _).trans g2
  clear g2
  go_wp2_with fail
  refine hver _ _ _ _ ?_
  clear hver
  intro w3 g3
  go_wp2_with fail
  refine haw _ _ ?_
  clear haw
  intro w4 g4
  have hf := HR.out w4 (G2.trans ((Grow.alloc w2 _).trans (g3.trans g4)))
  clear HR
  go_wp2_with fail
  exact hf

set_option maxRecDepth 100000 in
set_option maxHeartbeats 2000000 in
theorem trRfB2 (n leaf : Int) (k : Nat) (hk : k ≤ 100) (hwf : (Lit.int .i64 n).wf = true) (hn : 65536 < n) (w : World)
    (R : Ending → World → Prop) (hR : ∀ w', Grow w w' → R (.returned (.bool true)) w') :
    Calls Try.prog 11 #[.int .i64 n, .int .i64 (k : Int), .int .i64 leaf] w R := by
  have hml : maxLen = 9223372036854775807 := rfl
  have haw := awake20C
  have hmk := fun w => make_bytes k (by omega) w
  have d6 : decide ((k : Int) < 0) = false := decide_eq_false (by omega)
  have d7 : decide (100 < (k : Int)) = false := decide_eq_false (by omega)
  have hb : wide n = [] ∨ k ≠ 32 := by exact .inl (by unfold wide; rw [if_pos (.inr hn)])
  have hv : way n 0 = [] ∨ k ≠ 32 := by
    rcases hb with h | h
    · exact .inl (by simp [way, wid, h])
    · exact .inr h
  have d1 : decide (40 < n) = true := decide_eq_true (by omega)
  have d2 : decide (n ≤ 65536) = false := decide_eq_false (by omega)
  have d3 : decide (n < 1) = false := decide_eq_false (by omega)
  have d4 : decide (65536 < n) = true := decide_eq_true hn
  have hnew := fun w' => newBad n hwf (some ⟨w.heap.size, 0, none⟩) k k (.pointer none) hb w'
  have hver := fun bs w' rt => verifyBad n 0 hwf (some ⟨bs, 0, none⟩) k k none rt none none 0 0 0 0 hv w'
  clear hb hv
  have HR := Lib.hid hR
  clear hR
  go_enter Try.func11, Try.ntmps11
  go_wp2_with fail
  refine hnew _ _ ?_
  clear hnew
  intro w2 g2
  have G2 := (Grow.alloc w _).trans g2
  clear g2
  go_wp2_with fail
  refine hver _ _ _ _ ?_
  clear hver
  intro w3 g3
  go_wp2_with fail
  refine haw _ _ ?_
  clear haw
  intro w4 g4
  have hf := HR.out w4 (G2.trans ((Grow.alloc w2 _).trans (g3.trans g4)))
  clear HR
  go_wp2_with fail
  exact hf

set_option maxRecDepth 100000 in
set_option maxHeartbeats 2000000 in
theorem trRfB3 (n leaf : Int) (k : Nat) (hk : k ≤ 100) (hwf : (Lit.int .i64 n).wf = true) (hn : 1 ≤ n ∧ n ≤ 40 ∧ k ≠ 32) (w : World)
    (R : Ending → World → Prop) (hR : ∀ w', Grow w w' → R (.returned (.bool true)) w') :
    Calls Try.prog 11 #[.int .i64 n, .int .i64 (k : Int), .int .i64 leaf] w R := by
  have hml : maxLen = 9223372036854775807 := rfl
  have haw := awake20C
  have hmk := fun w => make_bytes k (by omega) w
  have d6 : decide ((k : Int) < 0) = false := decide_eq_false (by omega)
  have d7 : decide (100 < (k : Int)) = false := decide_eq_false (by omega)
  have hb : wide n = [] ∨ k ≠ 32 := by exact .inr hn.2.2
  have hv : way n 0 = [] ∨ k ≠ 32 := by
    rcases hb with h | h
    · exact .inl (by simp [way, wid, h])
    · exact .inr h
  have d1 : decide (40 < n) = false := decide_eq_false (by omega)
  have d3 : decide (n < 1) = false := decide_eq_false (by omega)
  have d4 : decide (65536 < n) = false := decide_eq_false (by omega)
  have d5 : ((k : Int) == 32) = false := by simpa using (by omega : ¬ (k : Int) = 32)
  have hnew := fun w' => newBad n hwf (some ⟨w.heap.size, 0, none⟩) k k (.pointer none) hb w'
  have hver := fun bs w' rt => verifyBad n 0 hwf (some ⟨bs, 0, none⟩) k k none rt none none 0 0 0 0 hv w'
  clear hb hv
  have HR := Lib.hid hR
  clear hR
  go_enter Try.func11, Try.ntmps11
  go_wp2_with fail
  refine hnew _ _ ?_
  clear hnew
  intro w2 g2
  have G2 := (Grow.alloc w _).trans g2
  clear g2
  go_wp2_with fail
  refine hver _ _ _ _ ?_
  clear hver
  intro w3 g3
  go_wp2_with fail
  refine haw _ _ ?_
  clear haw
  intro w4 g4
  have hf := HR.out w4 (G2.trans ((Grow.alloc w2 _).trans (g3.trans g4)))
  clear HR
  go_wp2_with fail
  exact hf

set_option maxRecDepth 100000 in
set_option maxHeartbeats 4000000 in
theorem trRfG (n : Nat) (hn1 : 1 ≤ n) (hn2 : n ≤ 40) (leaf : Int) (w : World)
    (R : Ending → World → Prop) (hR : ∀ w', Grow w w' → R (.returned (.bool true)) w') :
    Calls Try.prog 11 #[.int .i64 (n : Int), .int .i64 32, .int .i64 leaf] w R := by
  have hml : maxLen = 9223372036854775807 := rfl
  have haw := awake20C
  have hmk : ∀ w, (Instr.makeSlice 27 (.int .i64 32) (.int .i64 32)).run Try.prog w = .ok (.slice (some ⟨w.heap.size, 0, none⟩) 32 32) (w.alloc (.cells (List.replicate 32 (.int .u8 0)).toArray 5)) := fun w => make_bytes 32 (by omega) w
  have d1 : decide (40 < (n : Int)) = false := decide_eq_false (by omega)
  have d2 : decide ((n : Int) < 1) = false := decide_eq_false (by omega)
  have d3 : decide (65536 < (n : Int)) = false := decide_eq_false (by omega)
  have ok : Own (w.alloc (.cells (List.replicate 32 (.int .u8 0)).toArray 5)) 5 1 (some ⟨w.heap.size, 0, none⟩) 32 32 (List.replicate 32 (.int .u8 0)) := own_new _ _ rfl (by omega)
  have g1 := Grow.alloc w (.cells (List.replicate 32 (.int .u8 0)).toArray 5)
  obtain ⟨key, hkey⟩ : ∃ key, key = List.replicate 32 (0 : UInt8) := ⟨_, rfl⟩
  have hkl : key.length = 32 := by rw [hkey]; rfl
  have ek : key.map B = List.replicate 32 (.int .u8 0) := by rw [hkey]; rfl
  have b1 : BkO (w.alloc (.cells (List.replicate 32 (.int .u8 0)).toArray 5)) (.pointer none) [] [] := .inl ⟨rfl, rfl⟩
  have hnew := newTC n hn1 hn2 (some ⟨w.heap.size, 0, none⟩) 32 key hkl (.pointer none) (cs := []) (by simp) _ (by rw [ek]; exact ok.sl) b1
  have HR := Lib.hid hR
  have Hg1 := Lib.hid g1
  clear hR hkey ek ok b1 g1
  go_enter Try.func11, Try.ntmps11
  go_wp2_with fail
  refine hnew _ ?_
  clear hnew hmk
  intro t FP ds T w2 hb tb tk tn tl agr _ hdl k2 hfr inn
  have hFP : FP = [] := by
    rcases hb.bk with ⟨-, h⟩ | ⟨p, ao, m, c, h, -⟩
    · exact h
    · rw [tb] at h; cases h
  subst hFP
  have G2 : Grow w w2 := Hg1.out.then k2 (fun x hx => by simp at hx)
  have htl : t.L = (wl t.n).length := by rw [tl, tn]
  have htn1 : 1 ≤ t.n := by omega
  have htn2 : t.n ≤ 1000 := by omega
  have hL0 : 0 < t.L := by rw [tl]; exact wl_pos n
  have hfr2 : ∀ x ∈ t.hard ++ [], w.heap.size ≤ x := fun x hx => by
    have := hfr x (.inl (by simpa using hx))
    have := Hg1.out.size
    omega
  have hrt : ∀ (h : Int → Bool) (T : Nat → Nat → B16) (w2 : World), Ht w2 t h T → Agr key n t.L (fun _ => B0) T → RootIs w2 t.p ((rootA n (nd key n fun _ => B0)).b.map B).toArray := fun h T w2 a ag w' g R hR => by
    have h1 := rootTC (a.grow g) htl htn1 htn2
    rw [tn, rootA_agr ag hn1 (by omega) tl] at h1
    exact h1 R hR
  have hr2 := hrt _ T w2 hb.ht agr w2 (Grow.refl _)
  have hVl := bV_len (rootA n (nd key n fun _ => B0))
  have hV1 := B_one (rootA n (nd key n fun _ => B0)).b
  have heq := eq_blk (rootA n (nd key n fun _ => B0)).b (rootA n (nd key n fun _ => B0)).b (rootA n (nd key n fun _ => B0)).h (rootA n (nd key n fun _ => B0)).h
  rw [beq_self_eq_true] at heq
  obtain ⟨V, hV⟩ : ∃ V, V = (rootA n (nd key n fun _ => B0)).b.map B := ⟨_, rfl⟩
  rw [← hV] at hVl hV1 heq hr2
  simp only [← hV] at hrt
  clear hV Hg1 k2 hfr inn tl
  go_wp2_with fail
  refine hr2 _ ?_
  clear hr2
  intro w3 g3
  have G3 := G2.trans g3
  have a3 := hb.grow g3
  have hlt := a3.lt
  clear hb g3 G2
  obtain ⟨o4, ga1, th1, al1⟩ := newvar (t := 33) w3 (.int .u8 0) rfl (by omega) hVl hV1
  have hszF : (Try.prog.info? 33).map (·.size) = some V.toArray.size := by rw [List.size_toArray, hVl]; exact i16
  go_upto_region 9 with (refine wpList_store_mid rfl 33 _ _ rfl w3.heap.size 0 V.toArray rfl rfl th1 hszF al1 ?_)
  change Code.wp _ _ _ ⟨_, _⟩ ((w3.alloc (.cells (List.replicate 16 (.int .u8 0)).toArray 33)).setCells w3.heap.size 0 V)
  have G4 := G3.trans ga1
  have a4 := a3.grow ga1
  obtain ⟨q, hq⟩ : ∃ q, q = w3.heap.size := ⟨_, rfl⟩
  generalize (w3.alloc (.cells (List.replicate 16 (.int .u8 0)).toArray 33)).setCells w3.heap.size 0 V = w4 at *
  rw [← hq] at o4 ⊢
  have hge_q : w3.heap.size ≤ q := by omega
  clear hq th1 al1 ga1 hszF G3 a3
  have hqt : ∀ y ∈ t.hard ++ [], y ≠ q := fun y hy e => by have := hlt y hy; omega
  have hcO := fun ho => clearOut a4.ht hL0 leaf ho
  by_cases h1 : 0 ≤ leaf
  · by_cases h2 : leaf < (n : Int)
    · obtain ⟨k, rfl⟩ : ∃ k : Nat, leaf = (k : Int) := ⟨leaf.toNat, by omega⟩
      have e1 : decide ((0 : Int) ≤ (k : Int)) = true := decide_eq_true h1
      have e2 : decide ((k : Int) < (n : Int)) = true := decide_eq_true h2
      have hcl := clearIn t k (by rw [tn]; omega) htl htn2 (by rw [tk]; exact hkl) (lv := fun _ => B0) (by rw [tk, tn]; exact agr) (by rw [List.nil_append]; omega) w4 a4
      clear hcO
      go_wp2_with fail
      refine hcl _ ?_
      clear hcl
      intro FP5 ds5 T5 w5 hb5 agr5 _ _ k5 _
      have hbk : upL (fun _ => B0) k B0 = fun _ => B0 := by funext i; simp [upL]
      rw [tk, tn, hbk] at agr5
      have o5 := o4.keep k5 (fun y hy hm => hqt y hm (by simp [blk] at hy; exact hy))
      have G5 := G4.then k5 hfr2
      have hr5 := hrt _ T5 w5 hb5.ht agr5
      have hn5 := fun w' (g : Grow w5 w') => checkNone (hb5.ht.grow g) hL0 k (by omega) (by simp) (.slice none 0 0)
      have bi := blkIs hVl o5
      clear hbk a4 o4 o5 k5 hb5 agr5 agr hrt
      go_upto_region 11 with (fail)
      refine trRf11t t.p q V.toArray w5 hr5 bi heq ?_
      clear hr5 bi heq
      intro w6 g6
      intros
      have hn6 := hn5 w6 g6
      clear hn5
      go_wp2_with fail
      refine hn6 _ ?_
      clear hn6
      intro w7 g7
      go_wp2_with fail
      refine haw _ _ ?_
      intro w8 g8
      have hf := HR.out w8 (G5.trans (g6.trans (g7.trans g8)))
      clear HR haw
      go_wp2_with fail
      exact hf
    · have e1 : decide ((0 : Int) ≤ leaf) = true := decide_eq_true h1
      have e2 : decide (leaf < (n : Int)) = false := decide_eq_false h2
      have hcl := hcO (by rw [tn]; omega)
      have bi := blkIs hVl o4
      have hr4 := hrt _ T w4 a4.ht agr
      clear hcO o4 agr hrt
      go_wp2_with fail
      refine hcl _ ?_
      clear hcl
      go_upto_region 11 with (fail)
      refine trRf11f t.p q V.toArray w4 hr4 bi heq ?_
      intro w6 g6
      intros
      go_upto_region 14 with (fail)
      refine trRf14 t q V.toArray leaf hL0 htl htn1 htn2 (by rw [tn]; omega) w6 (a4.ht.grow g6) (fun w' g => hr4 w' (g6.trans g)) (fun w' k => bi w' ((Keep.of_grow [] g6).trans k)) heq ?_
      intro w7 g7
      intros
      have hf := HR.out w7 (G4.trans (g6.trans g7))
      clear HR haw
      go_wp2_with fail
      exact hf
  · have e1 : decide ((0 : Int) ≤ leaf) = false := decide_eq_false h1
    have hcl := hcO (by rw [tn]; omega)
    have bi := blkIs hVl o4
    have hr4 := hrt _ T w4 a4.ht agr
    clear hcO o4 agr hrt
    go_wp2_with fail
    refine hcl _ ?_
    clear hcl
    go_upto_region 11 with (fail)
    refine trRf11f t.p q V.toArray w4 hr4 bi heq ?_
    intro w6 g6
    intros
    go_upto_region 14 with (fail)
    refine trRf14 t q V.toArray leaf hL0 htl htn1 htn2 (by rw [tn]; omega) w6 (a4.ht.grow g6) (fun w' g => hr4 w' (g6.trans g)) (fun w' k => bi w' ((Keep.of_grow [] g6).trans k)) heq ?_
    intro w7 g7
    intros
    have hf := HR.out w7 (G4.trans (g6.trans g7))
    clear HR haw
    go_wp2_with fail
    exact hf

set_option maxRecDepth 100000 in
set_option maxHeartbeats 2000000 in
theorem trRfA (n k leaf : Int) (d1 : decide (40 < n) = true) (d2 : decide (n ≤ 65536) = true) (w : World)
    (R : Ending → World → Prop) (hR : ∀ w', Grow w w' → R (.returned (.bool true)) w') :
    Calls Try.prog 11 #[.int .i64 n, .int .i64 k, .int .i64 leaf] w R := by
  have haw := awake20C
  go_enter Try.func11, Try.ntmps11
  go_wp2_with fail
  refine haw _ _ ?_
  intro w2 g2
  have hf := hR w2 g2
  clear hR
  go_wp2_with fail
  exact hf
set_option maxRecDepth 100000 in
set_option maxHeartbeats 2000000 in
theorem trRfK (n k leaf : Int) (b : Bool) (hb : (decide (40 < n) = false ∧ b = true) ∨ (decide (40 < n) = true ∧ decide (n ≤ 65536) = false ∧ b = false)) (hk : k < 0 ∨ 100 < k) (w : World)
    (R : Ending → World → Prop) (hR : ∀ w', Grow w w' → R (.returned (.bool true)) w') :
    Calls Try.prog 11 #[.int .i64 n, .int .i64 k, .int .i64 leaf] w R := by
  have haw := awake20C
  rcases hb with ⟨d1, -⟩ | ⟨d1, d2, -⟩
  · by_cases hx : k < 0
    · have d3 : decide (k < 0) = true := decide_eq_true hx
      go_enter Try.func11, Try.ntmps11
      go_wp2_with fail
      refine haw _ _ ?_
      intro w2 g2
      have hf := hR w2 g2
      clear hR
      go_wp2_with fail
      exact hf
    · have d3 : decide (k < 0) = false := decide_eq_false hx
      have d4 : decide (100 < k) = true := decide_eq_true (by omega)
      go_enter Try.func11, Try.ntmps11
      go_wp2_with fail
      refine haw _ _ ?_
      intro w2 g2
      have hf := hR w2 g2
      clear hR
      go_wp2_with fail
      exact hf
  · by_cases hx : k < 0
    · have d3 : decide (k < 0) = true := decide_eq_true hx
      go_enter Try.func11, Try.ntmps11
      go_wp2_with fail
      refine haw _ _ ?_
      intro w2 g2
      have hf := hR w2 g2
      clear hR
      go_wp2_with fail
      exact hf
    · have d3 : decide (k < 0) = false := decide_eq_false hx
      have d4 : decide (100 < k) = true := decide_eq_true (by omega)
      go_enter Try.func11, Try.ntmps11
      go_wp2_with fail
      refine haw _ _ ?_
      intro w2 g2
      have hf := hR w2 g2
      clear hR
      go_wp2_with fail
      exact hf
theorem trRfW (n k leaf : Int) (w : World) (hwf : (Lit.int .i64 n).wf = true) (_ : (Lit.int .i64 k).wf = true) (_ : (Lit.int .i64 leaf).wf = true)
    (R : Ending → World → Prop) (hR : ∀ w', Grow w w' → R (.returned (.bool true)) w') :
    Calls Try.prog 11 #[.int .i64 n, .int .i64 k, .int .i64 leaf] w R := by
  by_cases h1 : 40 < n
  · by_cases h2 : n ≤ 65536
    · exact trRfA n k leaf (decide_eq_true h1) (decide_eq_true h2) w R hR
    · by_cases hk : k < 0 ∨ 100 < k
      · exact trRfK n k leaf _ (.inr ⟨decide_eq_true h1, decide_eq_false h2, rfl⟩) hk w R hR
      · obtain ⟨m, rfl⟩ : ∃ m : Nat, k = m := ⟨k.toNat, by omega⟩
        exact trRfB2 n leaf m (by omega) hwf (by omega) w R hR
  · by_cases hk : k < 0 ∨ 100 < k
    · exact trRfK n k leaf _ (.inl ⟨decide_eq_false h1, rfl⟩) hk w R hR
    · obtain ⟨m, rfl⟩ : ∃ m : Nat, k = m := ⟨k.toNat, by omega⟩
      by_cases h3 : n < 1
      · exact trRfB1 n leaf m (by omega) hwf h3 w R hR
      · by_cases h4 : m = 32
        · subst h4
          obtain ⟨j, rfl⟩ : ∃ j : Nat, n = j := ⟨n.toNat, by omega⟩
          exact trRfG j (by omega) (by omega) leaf w R hR
        · exact trRfB3 n leaf m (by omega) hwf ⟨by omega, by omega, h4⟩ w R hR
end Go.Proofs.Ytfmnkcmicbnfdaa
