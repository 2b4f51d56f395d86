/- The walk of IdealBack, whole. -/
import Derived.Test.YtfmnkcmicbnfdaaLIdBk
import Derived.Test.YtfmnkcmicbnfdaaBlkC
import Derived.Test.YtfmnkcmicbnfdaaWant
import Derived.Test.YtfmnkcmicbnfdaaGSha3
namespace Go.Proofs.Ytfmnkcmicbnfdaa
open Go Go.RowKit

/-- What each was encrypted to. -/
def Tos (ls : List (List UInt8)) (fl : Prs) (tos : List B16) : Prop := ∀ (j : Nat) (x : List UInt8) (y : B16), ls[j]? = some x → tos[j]? = some y → look (b16 x) fl = some y
theorem Tos.nil (ls : List (List UInt8)) (fl : Prs) : Tos ls fl [] := fun j x y _ h => by simp at h
theorem Tos.snoc {ls : List (List UInt8)} {fl fl' : Prs} {tos : List B16} (h : Tos ls fl tos) (hm : ∀ x y, look x fl = some y → look x fl' = some y) {i : Nat} (hi : tos.length = i) {t : List UInt8} (ht : ls[i]? = some t) {y : B16} (hy : look (b16 t) fl' = some y) : Tos ls fl' (tos ++ [y]) := fun j x z hx hz => by
  by_cases hj : j < i
  · rw [List.getElem?_append_left (by omega)] at hz
    exact hm _ _ (h j x z hx hz)
  · rw [List.getElem?_append_right (by omega)] at hz
    have : j - tos.length = 0 := by
      rcases Nat.eq_zero_or_pos (j - tos.length) with h | h
      · exact h
      · rw [List.getElem?_eq_none (by simp; omega)] at hz; cases hz
    obtain rfl : j = i := by omega
    rw [this] at hz
    obtain rfl : y = z := by simpa using hz
    rw [ht] at hx
    obtain rfl : t = x := by simpa using hx
    exact hy
theorem ba_zero (bs : List UInt8) (unit : Int) : BaI bs unit ⟨0, [], 0, 0⟩ [] [] where
  p := rfl
  n := rfl
  b := fun x y => by simp [look_nil]
  a := Nat.zero_le _
  g := Nat.le_refl _


set_option maxRecDepth 100000 in
set_option maxHeartbeats 1000000 in
theorem idBk29 (lo : Option Addr) (n lc : Nat) (wo : Option Addr) (wc q15 i k : Nat) (hi : i < n) (hk : k < n) (hn : n ≤ 1000) (tos : List B16) (htl : tos.length = n) (x y z : B16) (hy : tos[i]? = some y) (hz : tos[k]? = some z) (vs : List Value) (ax : Option Addr) (cx : Nat) (text : List UInt8) (hv : vs[k]? = some (.slice ax text.length cx)) (hinj : decide (y = z) = decide (x = b16 text)) {c0 c2 c3 c4 c5 c6 c7 c8 c10 c11 c12 c13 c16 c17 c18 c19 c21 c22 c23 c24 c25 c26 c27 c28 c29 c30 c31 c32 c33 c34 c35 c36 c37 c38 c39 c40 c41 c42 c43 c44 c45 c46 c47 c48 c49 c50 c51 c52 c53 c54 c55 c56 c57 c58 c59 c60 c61 c62 c63 c64 c65 c66 c67 c68 c69 c70 c71 c72 c73 c74 c75 c76 c77 c78 c79 c80 c81 c82 c83 c84 c85 c86 c87 c88 c89 c90 c91 c92 c93 c94 c95 c96 c97 c98 c99 c100 c101 c102 c103 c104 c105 c106 c107 c108 c109 c110 c111 c112 c113 c114 c115 c116 c117 c118 c119 c120 c121 c122 c123 c124 c125 c126 c127 c128 c129 c130 c131 c132 c133 c134 c135 c136 c137 c138 c139 c140 c141 c142 c143 c144 c145 c146 c147 c148 c149 c150 c151 c152 c153 c154 c155 c156 c157 c158 c159 c160 c161 c162 c163 c164 c165 c166 c167 c168 c169 c170 c171 : Value} (w : World) (sl : Sl w 1 lo n lc vs) (sx : Sl w 1 ax text.length cx (text.map B)) (so : Sl w 16 wo n wc (bVs tos)) (o15 : Cells w q15 0 (x.b.map B)) {Q : Exit → Act → World → Prop}
    (hQ : ∀ w', Keep [] w w' → ∀ {u119 u120 u121 u122 u123 u124 u125 u126 u127 u128 u129 u130 u131 u132 u133 u134 : Value}, Q .normal ⟨List.toArray (c0 :: .slice lo n lc :: c2 :: c3 :: c4 :: c5 :: c6 :: c7 :: c8 :: .slice wo n wc :: c10 :: c11 :: c12 :: c13 :: .int .i64 (i : Int) :: .pointer (some ⟨q15, 0, none⟩) :: c16 :: c17 :: c18 :: c19 :: .int .i64 (k : Int) :: c21 :: c22 :: c23 :: c24 :: c25 :: c26 :: c27 :: c28 :: c29 :: c30 :: c31 :: c32 :: c33 :: c34 :: c35 :: c36 :: c37 :: c38 :: c39 :: c40 :: c41 :: c42 :: c43 :: c44 :: c45 :: c46 :: c47 :: c48 :: c49 :: c50 :: c51 :: c52 :: c53 :: c54 :: c55 :: c56 :: c57 :: c58 :: c59 :: c60 :: c61 :: c62 :: c63 :: c64 :: c65 :: c66 :: c67 :: c68 :: c69 :: c70 :: c71 :: c72 :: c73 :: c74 :: c75 :: c76 :: c77 :: c78 :: c79 :: c80 :: c81 :: c82 :: c83 :: c84 :: c85 :: c86 :: c87 :: c88 :: c89 :: c90 :: c91 :: c92 :: c93 :: c94 :: c95 :: c96 :: c97 :: c98 :: c99 :: c100 :: c101 :: c102 :: c103 :: c104 :: c105 :: c106 :: c107 :: c108 :: c109 :: c110 :: c111 :: c112 :: c113 :: c114 :: c115 :: c116 :: c117 :: c118 :: u119 :: u120 :: u121 :: u122 :: u123 :: u124 :: u125 :: u126 :: u127 :: u128 :: u129 :: u130 :: u131 :: u132 :: u133 :: u134 :: .bool false :: c136 :: c137 :: c138 :: c139 :: c140 :: c141 :: c142 :: c143 :: c144 :: c145 :: c146 :: c147 :: c148 :: c149 :: c150 :: c151 :: c152 :: c153 :: c154 :: c155 :: c156 :: c157 :: c158 :: c159 :: c160 :: c161 :: c162 :: c163 :: c164 :: c165 :: c166 :: c167 :: c168 :: c169 :: c170 :: c171 :: []), []⟩ w') :
    Code.wp Try.prog (regionAt Try.f3 29) Q ⟨List.toArray (c0 :: .slice lo n lc :: c2 :: c3 :: c4 :: c5 :: c6 :: c7 :: c8 :: .slice wo n wc :: c10 :: c11 :: c12 :: c13 :: .int .i64 (i : Int) :: .pointer (some ⟨q15, 0, none⟩) :: c16 :: c17 :: c18 :: c19 :: .int .i64 (k : Int) :: c21 :: c22 :: c23 :: c24 :: c25 :: c26 :: c27 :: c28 :: c29 :: c30 :: c31 :: c32 :: c33 :: c34 :: c35 :: c36 :: c37 :: c38 :: c39 :: c40 :: c41 :: c42 :: c43 :: c44 :: c45 :: c46 :: c47 :: c48 :: c49 :: c50 :: c51 :: c52 :: c53 :: c54 :: c55 :: c56 :: c57 :: c58 :: c59 :: c60 :: c61 :: c62 :: c63 :: c64 :: c65 :: c66 :: c67 :: c68 :: c69 :: c70 :: c71 :: c72 :: c73 :: c74 :: c75 :: c76 :: c77 :: c78 :: c79 :: c80 :: c81 :: c82 :: c83 :: c84 :: c85 :: c86 :: c87 :: c88 :: c89 :: c90 :: c91 :: c92 :: c93 :: c94 :: c95 :: c96 :: c97 :: c98 :: c99 :: c100 :: c101 :: c102 :: c103 :: c104 :: c105 :: c106 :: c107 :: c108 :: c109 :: c110 :: c111 :: c112 :: c113 :: c114 :: c115 :: c116 :: c117 :: c118 :: c119 :: c120 :: c121 :: c122 :: c123 :: c124 :: c125 :: c126 :: c127 :: c128 :: c129 :: c130 :: c131 :: c132 :: c133 :: c134 :: c135 :: c136 :: c137 :: c138 :: c139 :: c140 :: c141 :: c142 :: c143 :: c144 :: c145 :: c146 :: c147 :: c148 :: c149 :: c150 :: c151 :: c152 :: c153 :: c154 :: c155 :: c156 :: c157 :: c158 :: c159 :: c160 :: c161 :: c162 :: c163 :: c164 :: c165 :: c166 :: c167 :: c168 :: c169 :: c170 :: c171 :: []), []⟩ w := by
  have hml : maxLen = 9223372036854775807 := rfl
  obtain ⟨g, off, eg, hcs⟩ := so.hat (by omega)
  subst eg
  obtain ⟨g1, off1, eg1, hc1⟩ := sl.hat (by omega)
  subst eg1
  have hci := cells_blk hcs i (by omega)
  have hck := cells_blk hcs k (by omega)
  rw [List.getElem?_eq_getElem (by omega)] at hy hz
  rw [Option.some.inj hy] at hci
  rw [Option.some.inj hz] at hck
  have hsz : ∀ x : B16, (Try.prog.info? 33).map (·.size) = some (x.b.map B).length := fun x => by rw [List.length_map, x.h]; exact i16
  have ldY : ∀ w', Keep [] w w' → (Instr.loadAt 33 (.pointer (some ⟨g, off + i * 16, none⟩))).run Try.prog w' = .ok (.agg (y.b.map B).toArray) w' := fun w' k => run_ld Try.underlying33 rfl (hsz y) (hci.keep k (by simp))
  have ldZ : ∀ w', Keep [] w w' → (Instr.loadAt 33 (.pointer (some ⟨g, off + k * 16, none⟩))).run Try.prog w' = .ok (.agg (z.b.map B).toArray) w' := fun w' k => run_ld Try.underlying33 rfl (hsz z) (hck.keep k (by simp))
  have ldX : ∀ w', Keep [] w w' → (Instr.loadAt 33 (.pointer (some ⟨q15, 0, none⟩))).run Try.prog w' = .ok (.agg (x.b.map B).toArray) w' := fun w' k => run_ld Try.underlying33 rfl (hsz x) (o15.keep k (by simp))
  have e1 : ∀ w, (Op.equalIn 10000 33 (.agg (y.b.map B).toArray) (.agg (z.b.map B).toArray)).run Try.prog w = .ok (decide (y = z)) w := fun w => okB.eq y z w
  have e2 : ∀ w, (Op.equalIn 10000 33 (.agg (x.b.map B).toArray) (.agg ((blockS text).map B).toArray)).run Try.prog w = .ok (decide (x = b16 text)) w := fun w => okB.eq x (b16 text) w
  rw [← hinj] at e2
  obtain ⟨e, he⟩ : ∃ e, e = decide (y = z) := ⟨_, rfl⟩
  rw [← he] at e1 e2
  have cv := KW.cell (fp := []) (p0 := tt) (hc1.at hv) (by simp)
  have hbl : ∀ w', Keep [] w w' → ∀ R : Ending → World → Prop, (∀ w2, Grow w' w2 → R (.returned (.agg ((blockS text).map B).toArray)) w2) → Calls Try.prog 19 #[.slice ax text.length cx] w' R := fun w' k R hR => blockC ax cx text w' (sx.keep k (by simp)) R hR
  obtain ⟨VY, hVY⟩ : ∃ V, V = (y.b.map B).toArray := ⟨_, rfl⟩
  obtain ⟨VZ, hVZ⟩ : ∃ V, V = (z.b.map B).toArray := ⟨_, rfl⟩
  obtain ⟨VX, hVX⟩ : ∃ V, V = (x.b.map B).toArray := ⟨_, rfl⟩
  obtain ⟨VT, hVT⟩ : ∃ V, V = ((blockS text).map B).toArray := ⟨_, rfl⟩
  obtain ⟨tn, htn⟩ : ∃ m, m = text.length := ⟨_, rfl⟩
  simp only [← hVY, ← hVZ, ← hVX, ← hVT, ← htn] at ldY ldZ ldX e1 e2 cv hbl
  have hs1 := so.hle
  have hs2 := so.hcap
  have hs3 := sl.hle
  have hs4 := sl.hcap
  have ee : (e != e) = false := by simp
  clear hVY hVZ hVX hVT htn hcs hc1 hci hck hy hz hv hinj he so sl sx o15
  conv => arg 2; whnf
  refine wp_region_R (segT w [(14, pIs (.agg VT))]) (by kernel_rfl) segT_drew ?_
  unfold segT segK segR
  repeat (first | (refine wpV_skp rfl rfl ?_; simp only [List.set_cons_succ, List.set_cons_zero]) | (refine wpV_val rfl rfl rfl rfl rfl _ (fun w hC => by obtain ⟨n, rfl⟩ := hC; exact exec_load (ldY _ n.h)) ?_; simp only [List.set_cons_succ, List.set_cons_zero]) | (refine wpV_val rfl rfl rfl rfl rfl _ (fun w hC => by obtain ⟨n, rfl⟩ := hC; exact exec_load (ldZ _ n.h)) ?_; simp only [List.set_cons_succ, List.set_cons_zero]) | (refine wpV_val rfl rfl rfl rfl rfl _ (fun w hC => by obtain ⟨n, rfl⟩ := hC; exact exec_load (ldX _ n.h)) ?_; simp only [List.set_cons_succ, List.set_cons_zero]) | (refine wpV_look rfl rfl rfl rfl rfl (fun K hK => ?_); go_big_quiet_op; refine hK _ ?_; clear hK K))
  refine wpV_mk rfl rfl rfl [] rfl (fun vs w7 hC _ => yields_call (by kernel_rfl) ?_) (fun vs v w7 hC hV hF => ?_)
  · obtain ⟨⟨w7, hk7, -⟩, rfl⟩ := hC
    exact hbl w7 hk7 _ (fun w8 g8 => ⟨_, rfl, ⟨Keep.of_grow [] g8, trivial⟩, rfl⟩)
  obtain rfl := hV
  clear hC hF w7
  simp only [List.set_cons_succ, List.set_cons_zero]
  repeat (first | (refine wpV_skp rfl rfl ?_; simp only [List.set_cons_succ, List.set_cons_zero]) | (refine wpV_val rfl rfl rfl rfl rfl _ (fun w hC => by obtain ⟨n, rfl⟩ := hC; exact exec_load (ldY _ n.h)) ?_; simp only [List.set_cons_succ, List.set_cons_zero]) | (refine wpV_val rfl rfl rfl rfl rfl _ (fun w hC => by obtain ⟨n, rfl⟩ := hC; exact exec_load (ldZ _ n.h)) ?_; simp only [List.set_cons_succ, List.set_cons_zero]) | (refine wpV_val rfl rfl rfl rfl rfl _ (fun w hC => by obtain ⟨n, rfl⟩ := hC; exact exec_load (ldX _ n.h)) ?_; simp only [List.set_cons_succ, List.set_cons_zero]) | (refine wpV_look rfl rfl rfl rfl rfl (fun K hK => ?_); go_big_quiet_op; refine hK _ ?_; clear hK K))
  refine wpV_nil ?_
  intro w9 hC hF
  obtain ⟨⟨w9, hkw9, -⟩, rfl⟩ := hC
  clear hF
  exact hQ _ hkw9


set_option maxRecDepth 100000 in
set_option maxHeartbeats 1000000 in
theorem idBk24 (wo : Option Addr) (n wc i q15 q16 q18 : Nat) (hi : i < n) (hn : n ≤ 1000) (tos : List B16) (htl : tos.length = n) (x y : B16) (hy : tos[i]? = some y) {c0 c1 c2 c3 c4 c5 c6 c7 c8 c10 c11 c12 c13 c20 c21 c22 c23 c24 c25 c26 c27 c28 c29 c30 c31 c32 c33 c34 c35 c36 c37 c38 c39 c40 c41 c42 c43 c44 c45 c46 c47 c48 c49 c50 c51 c52 c53 c54 c55 c56 c57 c58 c59 c60 c61 c62 c63 c64 c65 c66 c67 c68 c69 c70 c71 c72 c73 c74 c75 c76 c77 c78 c79 c80 c81 c82 c83 c84 c85 c86 c87 c88 c89 c90 c91 c92 c93 c94 c95 c96 c97 c98 c99 c100 c101 c102 c103 c104 c105 c106 c107 c108 c109 c110 c111 c112 c113 c114 c115 c116 c117 c118 c119 c120 c121 c122 c123 c124 c125 c126 c127 c128 c129 c130 c131 c132 c133 c134 c135 c136 c137 c138 c139 c140 c141 c142 c143 c144 c145 c146 c147 c148 c149 c150 c151 c152 c153 c154 c155 c156 c157 c158 c159 c160 c161 c162 c163 c164 c165 c166 c167 c168 c169 c170 c171 : Value} (w : World) (so : Sl w 16 wo n wc (bVs tos)) (o15 : Cells w q15 0 (x.b.map B)) (o16 : Cells w q16 0 (x.b.map B)) (o18 : Cells w q18 0 (y.b.map B)) {Q : Exit → Act → World → Prop}
    (hQ : ∀ w', Keep [] w w' → ∀ {u95 u96 u97 u98 u99 u100 u101 u102 u103 u104 u105 u106 u107 u108 u109 u110 u111 u112 : Value}, Q .normal ⟨List.toArray (c0 :: c1 :: c2 :: c3 :: c4 :: c5 :: c6 :: c7 :: c8 :: .slice wo n wc :: c10 :: c11 :: c12 :: c13 :: .int .i64 (i : Int) :: .pointer (some ⟨q15, 0, none⟩) :: .pointer (some ⟨q16, 0, none⟩) :: .int .i64 0 :: .pointer (some ⟨q18, 0, none⟩) :: .int .i64 0 :: c20 :: c21 :: c22 :: c23 :: c24 :: c25 :: c26 :: c27 :: c28 :: c29 :: c30 :: c31 :: c32 :: c33 :: c34 :: c35 :: c36 :: c37 :: c38 :: c39 :: c40 :: c41 :: c42 :: c43 :: c44 :: c45 :: c46 :: c47 :: c48 :: c49 :: c50 :: c51 :: c52 :: c53 :: c54 :: c55 :: c56 :: c57 :: c58 :: c59 :: c60 :: c61 :: c62 :: c63 :: c64 :: c65 :: c66 :: c67 :: c68 :: c69 :: c70 :: c71 :: c72 :: c73 :: c74 :: c75 :: c76 :: c77 :: c78 :: c79 :: c80 :: c81 :: c82 :: c83 :: c84 :: c85 :: c86 :: c87 :: c88 :: c89 :: c90 :: c91 :: c92 :: c93 :: c94 :: u95 :: u96 :: u97 :: u98 :: u99 :: u100 :: u101 :: u102 :: u103 :: u104 :: u105 :: u106 :: u107 :: u108 :: u109 :: u110 :: u111 :: u112 :: .bool false :: c114 :: c115 :: c116 :: c117 :: c118 :: c119 :: c120 :: c121 :: c122 :: c123 :: c124 :: c125 :: c126 :: c127 :: c128 :: c129 :: c130 :: c131 :: c132 :: c133 :: c134 :: c135 :: c136 :: c137 :: c138 :: c139 :: c140 :: c141 :: c142 :: c143 :: c144 :: c145 :: c146 :: c147 :: c148 :: c149 :: c150 :: c151 :: c152 :: c153 :: c154 :: c155 :: c156 :: c157 :: c158 :: c159 :: c160 :: c161 :: c162 :: c163 :: c164 :: c165 :: c166 :: c167 :: c168 :: c169 :: c170 :: c171 :: []), []⟩ w') :
    Code.wp Try.prog (regionAt Try.f3 24) Q ⟨List.toArray (c0 :: c1 :: c2 :: c3 :: c4 :: c5 :: c6 :: c7 :: c8 :: .slice wo n wc :: c10 :: c11 :: c12 :: c13 :: .int .i64 (i : Int) :: .pointer (some ⟨q15, 0, none⟩) :: .pointer (some ⟨q16, 0, none⟩) :: .int .i64 0 :: .pointer (some ⟨q18, 0, none⟩) :: .int .i64 0 :: c20 :: c21 :: c22 :: c23 :: c24 :: c25 :: c26 :: c27 :: c28 :: c29 :: c30 :: c31 :: c32 :: c33 :: c34 :: c35 :: c36 :: c37 :: c38 :: c39 :: c40 :: c41 :: c42 :: c43 :: c44 :: c45 :: c46 :: c47 :: c48 :: c49 :: c50 :: c51 :: c52 :: c53 :: c54 :: c55 :: c56 :: c57 :: c58 :: c59 :: c60 :: c61 :: c62 :: c63 :: c64 :: c65 :: c66 :: c67 :: c68 :: c69 :: c70 :: c71 :: c72 :: c73 :: c74 :: c75 :: c76 :: c77 :: c78 :: c79 :: c80 :: c81 :: c82 :: c83 :: c84 :: c85 :: c86 :: c87 :: c88 :: c89 :: c90 :: c91 :: c92 :: c93 :: c94 :: c95 :: c96 :: c97 :: c98 :: c99 :: c100 :: c101 :: c102 :: c103 :: c104 :: c105 :: c106 :: c107 :: c108 :: c109 :: c110 :: c111 :: c112 :: c113 :: c114 :: c115 :: c116 :: c117 :: c118 :: c119 :: c120 :: c121 :: c122 :: c123 :: c124 :: c125 :: c126 :: c127 :: c128 :: c129 :: c130 :: c131 :: c132 :: c133 :: c134 :: c135 :: c136 :: c137 :: c138 :: c139 :: c140 :: c141 :: c142 :: c143 :: c144 :: c145 :: c146 :: c147 :: c148 :: c149 :: c150 :: c151 :: c152 :: c153 :: c154 :: c155 :: c156 :: c157 :: c158 :: c159 :: c160 :: c161 :: c162 :: c163 :: c164 :: c165 :: c166 :: c167 :: c168 :: c169 :: c170 :: c171 :: []), []⟩ w := by
  have hml : maxLen = 9223372036854775807 := rfl
  obtain ⟨g, off, eg, hcs⟩ := so.hat (by omega)
  subst eg
  have hci := cells_blk hcs i (by omega)
  rw [List.getElem?_eq_getElem (by omega)] at hy
  rw [Option.some.inj hy] at hci
  have hsz : ∀ x : B16, (Try.prog.info? 33).map (·.size) = some (x.b.map B).length := fun x => by rw [List.length_map, x.h]; exact i16
  have ldY : ∀ w', Keep [] w w' → (Instr.loadAt 33 (.pointer (some ⟨g, off + i * 16, none⟩))).run Try.prog w' = .ok (.agg (y.b.map B).toArray) w' := fun w' k => run_ld Try.underlying33 rfl (hsz y) (hci.keep k (by simp))
  have ldX : ∀ w', Keep [] w w' → (Instr.loadAt 33 (.pointer (some ⟨q15, 0, none⟩))).run Try.prog w' = .ok (.agg (x.b.map B).toArray) w' := fun w' k => run_ld Try.underlying33 rfl (hsz x) (o15.keep k (by simp))
  have ldZ : ∀ w', Keep [] w w' → (Instr.loadAt 33 (.pointer (some ⟨q16, 0, none⟩))).run Try.prog w' = .ok (.agg (x.b.map B).toArray) w' := fun w' k => run_ld Try.underlying33 rfl (hsz x) (o16.keep k (by simp))
  have ldV : ∀ w', Keep [] w w' → (Instr.loadAt 33 (.pointer (some ⟨q18, 0, none⟩))).run Try.prog w' = .ok (.agg (y.b.map B).toArray) w' := fun w' k => run_ld Try.underlying33 rfl (hsz y) (o18.keep k (by simp))
  have e1 : ∀ w, (Op.equalIn 10000 33 (.agg (y.b.map B).toArray) (.agg (y.b.map B).toArray)).run Try.prog w = .ok true w := fun w => by
    have := okB.eq y y w
    rw [decide_eq_true rfl] at this
    exact this
  have e2 : ∀ w, (Op.equalIn 10000 33 (.agg (x.b.map B).toArray) (.agg (x.b.map B).toArray)).run Try.prog w = .ok true w := fun w => by
    have := okB.eq x x w
    rw [decide_eq_true rfl] at this
    exact this
  obtain ⟨VY, hVY⟩ : ∃ V, V = (y.b.map B).toArray := ⟨_, rfl⟩
  obtain ⟨VX, hVX⟩ : ∃ V, V = (x.b.map B).toArray := ⟨_, rfl⟩
  simp only [← hVY, ← hVX] at ldY ldZ ldX ldV e1 e2
  have hs1 := so.hle
  have hs2 := so.hcap
  clear hVY hVX hcs hci hy so o15 o16 o18
  conv => arg 2; whnf
  refine wp_region_R (segT w []) (by kernel_rfl) segT_drew ?_
  unfold segT segK segR
  repeat (first | (refine wpV_skp rfl rfl ?_; simp only [List.set_cons_succ, List.set_cons_zero]) | (refine wpV_val rfl rfl rfl rfl rfl _ (fun w hC => by obtain ⟨n, rfl⟩ := hC; exact exec_load (ldY _ n.h)) ?_; simp only [List.set_cons_succ, List.set_cons_zero]) | (refine wpV_val rfl rfl rfl rfl rfl _ (fun w hC => by obtain ⟨n, rfl⟩ := hC; exact exec_load (ldZ _ n.h)) ?_; simp only [List.set_cons_succ, List.set_cons_zero]) | (refine wpV_val rfl rfl rfl rfl rfl _ (fun w hC => by obtain ⟨n, rfl⟩ := hC; exact exec_load (ldX _ n.h)) ?_; simp only [List.set_cons_succ, List.set_cons_zero]) | (refine wpV_val rfl rfl rfl rfl rfl _ (fun w hC => by obtain ⟨n, rfl⟩ := hC; exact exec_load (ldV _ n.h)) ?_; simp only [List.set_cons_succ, List.set_cons_zero]) | (refine wpV_look rfl rfl rfl rfl rfl (fun K hK => ?_); go_big_quiet_op; refine hK _ ?_; clear hK K))
  refine wpV_nil ?_
  intro w9 hC hF
  obtain ⟨⟨w9, hkw9, -⟩, rfl⟩ := hC
  clear hF
  exact hQ _ hkw9

theorem ci_newR {w w1 w2 : World} {p t P K : Nat} {wf rb : List Nat} {bs : List UInt8} (g1 : Grow w w1) (f1 : Fr wf w) (hC : Ci w2 p t P K wf rb bs 0 [] [] 0 0) (hp : w1.heap.size ≤ p) (hP : w1.heap.size ≤ P) (hK : w1.heap.size ≤ K) : ∃ fp, CiR w2 p t fp rb bs ⟨0, [], 0, 0⟩ [] ∧ ∀ g ∈ fp, w.heap.size ≤ g := by
  refine ⟨_, ⟨P, K, wf, [], hC, rfl, rfl⟩, fun g hg => ?_⟩
  have := g1.size
  simp only [fpI, List.flatMap_nil, List.append_nil, List.mem_cons] at hg
  rcases hg with rfl | rfl | rfl | hg
  · omega
  · omega
  · omega
  · exact f1 g hg
theorem own_cellsB {w : World} {e : TypeId} {q n c : Nat} {xs : List Value} (o : Own w e 1 (some ⟨q, 0, none⟩) n c xs) (h : 0 < n) : Cells w q 0 xs := by
  obtain ⟨g, off, eg, hcs⟩ := o.sl.hat h
  cases eg
  exact hcs

set_option maxRecDepth 100000 in
set_option maxHeartbeats 4000000 in
theorem idBkW (seed : Int) (lo : Option Addr) (cap : Nat) (ls : List (List UInt8)) (unit : Int) (w : World) (_ : (Lit.int IntKind.i64 seed).wf = true) (vs : List Value) (h : Sl w 1 lo ls.length cap vs ∧ Pt w vs ls) (_ : (Lit.int IntKind.i64 unit).wf = true)
    (R : Ending → World → Prop) (hR : ∀ w', Grow w w' → R (.returned (.bool true)) w') :
    Calls Try.prog 3 #[.int .i64 seed, .slice lo ls.length cap, .int .i64 unit] w R := by
  have hml : maxLen = 9223372036854775807 := rfl
  have haw := awake10C
  obtain ⟨s1, pt⟩ := h
  have hks := s1.hle
  have hkm := s1.hcap
  have hsc := shortC lo cap vs ls 1000 (by omega) w s1 pt
  have htc := fun w => alikeTapeC seed 4000 (by decide) w
  obtain ⟨N, hN⟩ : ∃ N, N = ls.length := ⟨_, rfl⟩
  rw [← hN] at hsc s1 hks ⊢
  have HN := Lib.hid hN
  clear hN
  go_enter Try.func3, Try.ntmps3
  go_wp2_with fail
  refine hsc _ ?_
  clear hsc
  intro b w1 hb g1
  cases b with
  | false =>
    clear htc
    go_wp2_with fail
    refine haw _ _ ?_
    intro w2 g2
    have hf := hR w2 (g1.trans g2)
    clear hR
    go_wp2_with fail
    exact hf
  | true =>
  have hN1 : N ≤ 1000 := by have := hb rfl; have := HN.out; omega
  clear hb
  go_wp2_with fail
  refine htc w1 _ ?_
  clear htc
  intro ao c bs w2 hlen s2 g2
  have hb2 : (bs.map B).length = 4000 := by rw [List.length_map]; exact hlen
  have hc := tapeNew ao c (bs.map B) w2 (by rw [hb2]; exact s2) (by rw [hb2]; decide)
  rw [hb2] at hc
  clear s2
  go_wp2_with fail
  refine hc _ ?_
  clear hc
  intro t wf rb w3 ht g3 f3 _
  have hrb3 := ht.old.2.1
  go_wp2_with fail
  refine newCi t wf rb bs w3 ht (tape_nodup ht) _ ?_
  clear ht
  intro p P K w4 hC g4 hp hP hK
  have G2 := g1.trans g2
  obtain ⟨fp, hC4, hf4⟩ := ci_newR (G2.trans g3) (fun g hg => Nat.le_trans G2.size (f3 g hg)) hC hp hP hK
  have G4 := (G2.trans g3).trans g4
  have hrb : Hid (∀ g ∈ rb, g < w4.heap.size) := Lib.hid (fun g hg => Nat.lt_of_lt_of_le (hrb3 g hg) g4.size)
  have hzw := G4.size
  clear hC hp hP hK g1 g2 g3 g4 f3 G2 hrb3
  have hb5 : bs.length ≤ 50000 := by omega
  have Hlen := Lib.hid hlen
  obtain ⟨Z4, hZ4⟩ : ∃ Z, Z = w4.heap.size := ⟨_, rfl⟩
  rw [← hZ4] at hrb hzw
  have hZ4' := Nat.le_of_eq hZ4
  clear hZ4
  go_wp2_with fail
  go_loopw [9, 10] (fun va vi wr => ∃ (i : Nat) (s : IdS) (f2 : List Nat) (wo : Option Addr) (wc : Nat) (tos : List B16) (fl bl : Prs), va = .slice wo i wc ∧ vi = .int .i64 (i : Int) ∧ i ≤ N ∧ Hid (BaI bs unit s fl bl) ∧ s.cnt ≤ i ∧ Hid (tos.length = i) ∧ Hid (Tos ls fl tos) ∧ CiR wr p t f2 rb bs s [] ∧ Grow w wr ∧ Hid (∀ g ∈ f2, w.heap.size ≤ g) ∧ Z4 ≤ wr.heap.size ∧ Own wr 33 16 wo i wc (bVs tos) ∧ Hid (∀ g ∈ blk wo, g ∉ f2 ∧ Z4 ≤ g)) (fun _ vi _ => N - (intOf vi).toNat)
  case atStart => exact ⟨0, ⟨0, [], 0, 0⟩, fp, none, 0, [], [], [], rfl, by simp, by omega, Lib.hid (ba_zero bs unit), by simp, Lib.hid rfl, Lib.hid (Tos.nil ls []), hC4, G4, Lib.hid hf4, hZ4', Own.none _ _ _, Lib.hid (by simp [blk])⟩
  case round =>
    clear hC4 G4 hf4 hZ4'
    obtain ⟨i, s, f2, wo, wc, tos, fl, bl, rfl, rfl, hi, hba, hcn, htl, htos, hC, G, hf, hsz, ow, hab⟩ := hrel
    by_cases hlt : i < N
    · obtain ⟨g1, off, eg, hcs⟩ := (s1.grow G).hat (by omega)
      subst eg
      obtain ⟨ax, cx, hvx, hsx⟩ := pt.2 i (by rw [← HN.out]; exact hlt)
      have hx0 := List.getElem?_eq_getElem (l := ls) (i := i) (by rw [← HN.out]; exact hlt)
      obtain ⟨x, hx⟩ : ∃ x, x = ls[i]'(by rw [← HN.out]; exact hlt) := ⟨_, rfl⟩
      rw [← hx] at hvx hsx hx0
      have c1 := hcs.at hvx
      have hbl := blockC ax cx x wr (hsx.grow G)
      have hag : s.ag ≤ 100000 := by have := hba.out.a; have := hba.out.g; omega
      have Hx := Lib.hid hx0
      obtain ⟨tn, htn⟩ : ∃ m, m = x.length := ⟨_, rfl⟩
      rw [← htn] at hbl c1
      clear hcs hx hvx hsx hx0 htn
      go_wp2_with fail
      refine hbl _ ?_
      clear hbl c1
      intro w5 g5
      have hC5 := hC.grow g5
      have G5 := G.trans g5
      have ow5 := ow.grow g5
      have hz5 := g5.size
      have hc := encSR hC5 hb5 (by omega) hag ⟨#[119]⟩ (bk0 unit) (b16 x)
      clear hC G g5 ow
      rcases ba_enc hba.out (b16 x) with ⟨y, s6, fl', bl', he, hba6, hlk, hmono, hcn6⟩ | ⟨s6, he⟩
      · rw [he] at hc
        have hyl : (y.b.map B).length = 16 := by rw [List.length_map]; exact y.h
        have hy1 := B_one y.b
        have Hba := Lib.hid hba6
        have Htos := Lib.hid (Tos.snoc htos.out hmono htl.out Hx.out hlk)
        have Htl : Hid ((tos ++ [y]).length = i + 1) := Lib.hid (by rw [List.length_append, htl.out]; rfl)
        obtain ⟨VY, hVY⟩ : ∃ V, V = y.b.map B := ⟨_, rfl⟩
        rw [← hVY] at hyl hy1
        have eY : ekB y = .agg VY.toArray := by rw [hVY]; rfl
        rw [eY] at hc
        have HVY := Lib.hid hVY
        clear he hba hmono hlk hba6 htos htl hVY eY
        go_wp2_with fail
        refine hc _ ?_
        clear hc
        intro fp6 w6 hC6 k6 in6
        obtain ⟨G6, hf6⟩ := ci_step G5 hf.out k6 in6
        have ow6 := ow5.keep k6 (fun g hg => (hab.out g hg).1)
        have hab6 : Hid (∀ g ∈ blk wo, g ∉ fp6 ∧ Z4 ≤ g) := Lib.hid (fun g hg => ⟨ci_out (ow5.lt g hg) (hab.out g hg).1 in6, (hab.out g hg).2⟩)
        have hz6 := k6.size
        clear hC5 G5 ow5 k6 in6 hab hf
        obtain ⟨o11, ga1, th1, al1⟩ := newvar (t := 33) w6 (.int .u8 0) rfl (by omega) hyl hy1
        have hszF : (Try.prog.info? 33).map (·.size) = some VY.toArray.size := by rw [List.size_toArray, hyl]; exact i16
        go_upto_region 12 with (refine wpList_store_mid rfl 33 _ _ rfl w6.heap.size 0 VY.toArray rfl rfl th1 hszF al1 ?_)
        change Code.wp _ _ _ ⟨_, _⟩ ((w6.alloc (.cells (List.replicate 16 (.int .u8 0)).toArray 33)).setCells w6.heap.size 0 VY)
        have G7 := G6.trans ga1
        have hC7 := hC6.grow ga1
        have ow7 := ow6.grow ga1
        obtain ⟨q11, hq⟩ : ∃ q, q = w6.heap.size := ⟨_, rfl⟩
        generalize (w6.alloc (.cells (List.replicate 16 (.int .u8 0)).toArray 33)).setCells w6.heap.size 0 VY = w7 at *
        rw [← hq] at o11 ⊢
        have hge_q11 : w6.heap.size ≤ q11 := by omega
        clear hq th1 al1 ga1 hszF G6 hC6 ow6
        have c11 : Cells w7 q11 0 (y.b.map B) := by rw [← HVY.out]; exact own_cellsB o11 (by omega)
        have hlt7 := hC7.lt
        have hz7 := o11.lt q11 (by simp [blk])
        clear o11
        go_upto_region 16 with (fail)
        refine idBk16 wo i wc q11 (by omega) tos y w7 ow7 c11 ?_
        intro wo8 wc8 w8 ow8 k8 bl8
        intros
        have hC8 := hC7.keep k8 (fun g hg hm => (hab6.out g hm).1 hg) (fun g hg hm => by have := (hab6.out g hm).2; have := hrb.out g hg; omega) (by simp)
        have G8 := G7.then k8 (fun g hg => by have := (hab6.out g hg).2; omega)
        have hz8 := k8.size
        have hab8 : Hid (∀ g ∈ blk wo8, g ∉ fp6 ∧ Z4 ≤ g) := Lib.hid (fun g hg => by
          rcases bl8 g hg with h | h
          · exact hab6.out g h
          · exact ⟨fun hm => by have := hlt7 g hm; omega, by omega⟩)
        clear hC7 G7 ow7 c11 hlt7 hab6 k8 bl8
        go_wp2_with fail
        go_roundw
        case rel => exact ⟨i + 1, s6, fp6, wo8, wc8, tos ++ [y], fl', bl', rfl, by go_num, by omega, Hba, by omega, Htl, Htos, hC8, G8, Lib.hid hf6, by omega, ow8, hab8⟩
        case measure => simp [intOf]; omega
      · rw [he] at hc
        have hyl : (b16z.b.map B).length = 16 := by rw [List.length_map]; exact b16z.h
        have hy1 := B_one b16z.b
        obtain ⟨VY, hVY⟩ : ∃ V, V = b16z.b.map B := ⟨_, rfl⟩
        rw [← hVY] at hyl hy1
        have eY : ekB b16z = .agg VY.toArray := by rw [hVY]; rfl
        rw [eY] at hc
        clear he hba htos htl hVY eY
        go_wp2_with fail
        refine hc _ ?_
        clear hc
        intro fp6 w6 hC6 k6 in6
        obtain ⟨G6, -⟩ := ci_step G5 hf.out k6 in6
        clear hC5 G5 ow5 k6 in6 hab hf
        obtain ⟨o11, ga1, th1, al1⟩ := newvar (t := 33) w6 (.int .u8 0) rfl (by omega) hyl hy1
        have hszF : (Try.prog.info? 33).map (·.size) = some VY.toArray.size := by rw [List.size_toArray, hyl]; exact i16
        go_upto_region 12 with (refine wpList_store_mid rfl 33 _ _ rfl w6.heap.size 0 VY.toArray rfl rfl th1 hszF al1 ?_)
        change Code.wp _ _ _ ⟨_, _⟩ ((w6.alloc (.cells (List.replicate 16 (.int .u8 0)).toArray 33)).setCells w6.heap.size 0 VY)
        have G7 := G6.trans ga1
        have hC7 := hC6.grow ga1
        obtain ⟨q11, hq⟩ : ∃ q, q = w6.heap.size := ⟨_, rfl⟩
        generalize (w6.alloc (.cells (List.replicate 16 (.int .u8 0)).toArray 33)).setCells w6.heap.size 0 VY = w7 at *
        rw [← hq] at o11 ⊢
        have hge_q11 : w6.heap.size ≤ q11 := by omega
        clear hq th1 al1 ga1 hszF G6 hC6
        clear o11 hC7
        go_wp2_with fail
        refine haw _ _ ?_
        intro w8 g8
        have hfin := hR _ (G7.trans g8)
        clear hR
        go_wp2_with fail
        exact hfin
    · obtain rfl : N = i := by omega
      have hl0 := leftCi hC.so hb5
      obtain ⟨A, hA⟩ : ∃ A, A = bs.length - s.a := ⟨_, rfl⟩
      rw [← hA] at hl0
      clear hlt hi hrb
      go_wp2_with fail
      refine hl0 _ ?_
      clear hl0
      intro w5 g5
      have hC5 := hC.so.grow g5
      have G5 := G.trans g5
      have so5 := ow.sl.grow g5
      have hlo := ow.lt
      have hz5 := g5.size
      have hab5 : Hid (∀ g ∈ blk wo, g ∉ f2 ∧ g < w5.heap.size) := Lib.hid (fun g hg => ⟨(hab.out g hg).1, by have := hlo g hg; omega⟩)
      have HA : Hid (bs.length - s.a = A) := Lib.hid hA.symm
      have hcn5 : s.cnt ≤ 1000 := by omega
      clear hC G ow hlo hab hA g5 hz5 hsz hcn
      go_wp2_with fail
      go_loopw [14] (fun vi wr => ∃ (i : Nat) (s' : IdS) (f3 : List Nat), vi = .int .i64 (i : Int) ∧ i ≤ N ∧ Hid (BaI bs unit s' fl bl) ∧ Hid (bs.length - s'.a = A) ∧ s'.cnt ≤ 1000 ∧ CiS wr p t f3 bs s' [] ∧ Grow w wr ∧ Hid (∀ g ∈ f3, w.heap.size ≤ g) ∧ Sl wr 16 wo N wc (bVs tos) ∧ Hid (∀ g ∈ blk wo, g ∉ f3 ∧ g < wr.heap.size)) (fun vi _ => N - (intOf vi).toNat)
      case atStart => exact ⟨0, s, f2, by simp, by omega, hba, HA, hcn5, hC5, G5, hf, so5, hab5⟩
      case round =>
        clear hC5 G5 hf so5 hab5 hba HA hcn5
        obtain ⟨i, s', f3, rfl, hi, hba, hA, hcn, hC, G, hf, so, hab⟩ := hrel
        by_cases hlt : i < N
        · obtain ⟨g1, off, eg, hcs⟩ := (s1.grow G).hat (by omega)
          subst eg
          obtain ⟨ax, cx, hvx, hsx⟩ := pt.2 i (by rw [← HN.out]; exact hlt)
          have hx0 := List.getElem?_eq_getElem (l := ls) (i := i) (by rw [← HN.out]; exact hlt)
          obtain ⟨x, hx⟩ : ∃ x, x = ls[i]'(by rw [← HN.out]; exact hlt) := ⟨_, rfl⟩
          rw [← hx] at hvx hsx hx0
          have c1 := hcs.at hvx
          have hbl := blockC ax cx x wr (hsx.grow G)
          have hag : s'.ag ≤ 100000 := by have := hba.out.a; have := hba.out.g; omega
          obtain ⟨y, hy⟩ : ∃ y, tos[i]? = some y := ⟨_, List.getElem?_eq_getElem (by rw [htl.out]; exact hlt)⟩
          have hlk := htos.out i x y hx0 hy
          obtain ⟨s6, hd, hba6, ha6, hc6⟩ := ba_back hba.out hlk
          obtain ⟨s7, he, hba7, ha7, hc7⟩ := ba_same hba6 hlk
          have hag6 : s6.ag ≤ 100000 := by have := hba6.a; have := hba6.g; omega
          have Hlk := Lib.hid hlk
          have Hba := Lib.hid hba7
          have Hy := Lib.hid hy
          have HA7 : Hid (bs.length - s7.a = A) := Lib.hid (by rw [ha7, ha6]; exact hA.out)
          have hcn6 : s6.cnt ≤ 1000 := by omega
          have hcn7 : s7.cnt ≤ 1000 := by omega
          have hYl : (y.b.map B).length = 16 := by rw [List.length_map]; exact y.h
          have hY1 := B_one y.b
          obtain ⟨VY, hVY⟩ : ∃ V, V = y.b.map B := ⟨_, rfl⟩
          have eY : ekB y = .agg VY.toArray := by rw [hVY]; rfl
          have hXl : ((b16 x).b.map B).length = 16 := by rw [List.length_map]; exact (b16 x).h
          have hX1 := B_one (b16 x).b
          obtain ⟨VX, hVX⟩ : ∃ V, V = (b16 x).b.map B := ⟨_, rfl⟩
          have eX : ekB (b16 x) = .agg VX.toArray := by rw [hVX]; rfl
          rw [← hVY] at hYl hY1
          rw [← hVX] at hXl hX1
          rw [show (blockS x).map B = VX from hVX.symm] at hbl
          have HVX := Lib.hid hVX
          have HVY := Lib.hid hVY
          have eqX : ∀ w, (Op.equalIn 10000 33 (.agg VX.toArray) (.agg VX.toArray)).run Try.prog w = .ok true w := fun w => by
            have := okB.eq (b16 x) (b16 x) w
            rw [decide_eq_true rfl, eX] at this
            exact this
          have eqY : ∀ w, (Op.equalIn 10000 33 (.agg VY.toArray) (.agg VY.toArray)).run Try.prog w = .ok true w := fun w => by
            have := okB.eq y y w
            rw [decide_eq_true rfl, eY] at this
            exact this
          have hsX : (Try.prog.info? 33).map (·.size) = some VX.length := by rw [hXl]; exact i16
          have hsY : (Try.prog.info? 33).map (·.size) = some VY.length := by rw [hYl]; exact i16
          have Hd := Lib.hid hd
          have He := Lib.hid he
          have EX := Lib.hid eX
          have EY := Lib.hid eY
          have EqX := Lib.hid eqX
          have EqY := Lib.hid eqY
          obtain ⟨tn, htn⟩ : ∃ m, m = x.length := ⟨_, rfl⟩
          rw [← htn] at hbl c1
          clear hcs hx hvx hsx hx0 htn hy hlk hd he hba hba6 hba7 ha6 ha7 hc6 hc7 hVX hVY eX eY eqX eqY hA
          go_wp2_with fail
          refine hbl _ ?_
          clear hbl c1
          intro w5 g5
          have hC5 := hC.grow g5
          have G5 := G.trans g5
          have so5 := so.grow g5
          have hz5 := g5.size
          have hab5 : Hid (∀ g ∈ blk wo, g ∉ f3 ∧ g < w5.heap.size) := Lib.hid (fun g hg => ⟨(hab.out g hg).1, by have := (hab.out g hg).2; omega⟩)
          have hlt5 := hC5.lt
          clear hC G so g5 hab hz5
          obtain ⟨o15, ga1, th1, al1⟩ := newvar (t := 33) w5 (.int .u8 0) rfl (by omega) hXl hX1
          have hszF : (Try.prog.info? 33).map (·.size) = some VX.toArray.size := by rw [List.size_toArray, hXl]; exact i16
          go_upto_region 22 with (refine wpList_store_mid rfl 33 _ _ rfl w5.heap.size 0 VX.toArray rfl rfl th1 hszF al1 ?_)
          change Code.wp _ _ _ ⟨_, _⟩ ((w5.alloc (.cells (List.replicate 16 (.int .u8 0)).toArray 33)).setCells w5.heap.size 0 VX)
          have G6 := G5.trans ga1
          have hC6 := hC5.grow ga1
          have so6 := so5.grow ga1
          obtain ⟨q15, hq⟩ : ∃ q, q = w5.heap.size := ⟨_, rfl⟩
          generalize (w5.alloc (.cells (List.replicate 16 (.int .u8 0)).toArray 33)).setCells w5.heap.size 0 VX = w6 at *
          rw [← hq] at o15 ⊢
          have hge_q15 : w5.heap.size ≤ q15 := by omega
          clear hq th1 al1 ga1 hszF G5 hC5 so5
          have n15 : q15 ∉ f3 := fun hm => by have := hlt5 q15 hm; omega
          have hc := decSC hC6 hb5 (by omega) hag ⟨#[119]⟩ (bk0 unit) y
          rw [Hd.out, EX.out, EY.out] at hc
          obtain ⟨g2, off2, eg2, hcs2⟩ := so6.hat (by omega)
          subst eg2
          have hci := cells_blk hcs2 i (by rw [htl.out]; exact hlt)
          have hyi : tos[i]'(by rw [htl.out]; exact hlt) = y := by
            have := Hy.out
            rw [List.getElem?_eq_getElem (by rw [htl.out]; exact hlt)] at this
            exact Option.some.inj this
          rw [hyi, ← HVY.out] at hci
          have hrg : w6.rangeAt g2 (off2 + i * 16) VY := fun j v hj => hci.at hj
          have hz6 := Nat.le_trans hge_q15 (Nat.le_of_lt (o15.lt q15 (by simp [blk])))
          clear hlt5 hge_q15 hcs2 hci
          go_wp2_with (refine wpList_load_mid rfl 33 _ rfl g2 (off2 + i * 16) rfl VY _ hrg Try.underlying33 rfl hsY ?_)
          refine hc _ ?_
          clear hc hrg
          intro fp7 w7 hC7 k7 in7
          obtain ⟨G7, hf7⟩ := ci_step G6 hf.out k7 in7
          have o157 := o15.keep k7 (fun g hg => by simp [blk] at hg; subst hg; exact n15)
          have so7 := so6.keep k7 (fun g hg => (hab5.out g hg).1)
          have n157 := ci_out (o15.lt q15 (by simp [blk])) n15 in7
          have hz7 := k7.size
          have hab7 : Hid (∀ g ∈ blk (some ⟨g2, off2, none⟩), g ∉ fp7 ∧ g < w7.heap.size) := Lib.hid (fun g hg => ⟨ci_out (by have := (hab5.out g hg).2; omega) (hab5.out g hg).1 in7, by have := (hab5.out g hg).2; omega⟩)
          have hlt7 := hC7.lt
          clear hC6 G6 o15 so6 k7 in7 n15 hf hab5
          obtain ⟨o16, ga1, th1, al1⟩ := newvar (t := 33) w7 (.int .u8 0) rfl (by omega) hXl hX1
          have hszF : (Try.prog.info? 33).map (·.size) = some VX.toArray.size := by rw [List.size_toArray, hXl]; exact i16
          go_upto_region 23 with (refine wpList_store_mid rfl 33 _ _ rfl w7.heap.size 0 VX.toArray rfl rfl th1 hszF al1 ?_)
          change Code.wp _ _ _ ⟨_, _⟩ ((w7.alloc (.cells (List.replicate 16 (.int .u8 0)).toArray 33)).setCells w7.heap.size 0 VX)
          have G8 := G7.trans ga1
          have hC8 := hC7.grow ga1
          have o158 := o157.grow ga1
          have so8 := so7.grow ga1
          obtain ⟨q16, hq⟩ : ∃ q, q = w7.heap.size := ⟨_, rfl⟩
          generalize (w7.alloc (.cells (List.replicate 16 (.int .u8 0)).toArray 33)).setCells w7.heap.size 0 VX = w8 at *
          rw [← hq] at o16 ⊢
          have hge_q16 : w7.heap.size ≤ q16 := by omega
          clear hq th1 al1 ga1 hszF G7 hC7 o157 so7
          have n16 : q16 ∉ fp7 := fun hm => by have := hlt7 q16 hm; omega
          have hc := encSC hC8 hb5 (by omega) hag6 ⟨#[111, 116, 104, 101, 114]⟩ (bk0 unit) (b16 x)
          rw [He.out, EX.out, EY.out] at hc
          have hrg := own_range o158 (by omega)
          have hz8 := Nat.le_trans hge_q16 (Nat.le_of_lt (o16.lt q16 (by simp [blk])))
          clear hlt7 hge_q16
          go_wp2_with (refine wpList_load_mid rfl 33 _ rfl q15 0 rfl VX _ hrg Try.underlying33 rfl hsX ?_)
          refine hc _ ?_
          clear hc hrg
          intro fp9 w9 hC9 k9 in9
          obtain ⟨G9, hf9⟩ := ci_step G8 hf7 k9 in9
          have o159 := o158.keep k9 (fun g hg => by simp [blk] at hg; subst hg; exact n157)
          have o169 := o16.keep k9 (fun g hg => by simp [blk] at hg; subst hg; exact n16)
          have so9 := so8.keep k9 (fun g hg => (hab7.out g hg).1)
          have hz9 := k9.size
          have hab9 : Hid (∀ g ∈ blk (some ⟨g2, off2, none⟩), g ∉ fp9 ∧ g < w9.heap.size) := Lib.hid (fun g hg => ⟨ci_out (by have := (hab7.out g hg).2; omega) (hab7.out g hg).1 in9, by have := (hab7.out g hg).2; omega⟩)
          have hlt9 := hC9.lt
          clear hC8 G8 o158 o16 so8 k9 in9 n157 n16 hf7 hab7
          obtain ⟨o18, ga1, th1, al1⟩ := newvar (t := 33) w9 (.int .u8 0) rfl (by omega) hYl hY1
          have hszF : (Try.prog.info? 33).map (·.size) = some VY.toArray.size := by rw [List.size_toArray, hYl]; exact i16
          go_upto_region 24 with (refine wpList_store_mid rfl 33 _ _ rfl w9.heap.size 0 VY.toArray rfl rfl th1 hszF al1 ?_)
          change Code.wp _ _ _ ⟨_, _⟩ ((w9.alloc (.cells (List.replicate 16 (.int .u8 0)).toArray 33)).setCells w9.heap.size 0 VY)
          have G10 := G9.trans ga1
          have hC10 := hC9.grow ga1
          have o1510 := o159.grow ga1
          have o1610 := o169.grow ga1
          have so10 := so9.grow ga1
          obtain ⟨q18, hq⟩ : ∃ q, q = w9.heap.size := ⟨_, rfl⟩
          generalize (w9.alloc (.cells (List.replicate 16 (.int .u8 0)).toArray 33)).setCells w9.heap.size 0 VY = w10 at *
          rw [← hq] at o18 ⊢
          have hge_q18 : w9.heap.size ≤ q18 := by omega
          clear hq th1 al1 ga1 hszF G9 hC9 o159 o169 so9
          have hz10 := Nat.le_trans hge_q18 (Nat.le_of_lt (o18.lt q18 (by simp [blk])))
          have hab10 : Hid (∀ g ∈ blk (some ⟨g2, off2, none⟩), g ∉ fp9 ∧ g < w10.heap.size) := Lib.hid (fun g hg => ⟨(hab9.out g hg).1, by have := (hab9.out g hg).2; omega⟩)
          have c15 : Cells w10 q15 0 ((b16 x).b.map B) := by rw [← HVX.out]; exact own_cellsB o1510 (by omega)
          have c16 : Cells w10 q16 0 ((b16 x).b.map B) := by rw [← HVX.out]; exact own_cellsB o1610 (by omega)
          have c18 : Cells w10 q18 0 (y.b.map B) := by rw [← HVY.out]; exact own_cellsB o18 (by omega)
          clear hab9 hge_q18 o1510 o1610 o18 hlt9 hyi EqX EqY
          go_upto_region 24 with (fail)
          refine idBk24 (some ⟨g2, off2, none⟩) N wc i q15 q16 q18 hlt hN1 tos htl.out (b16 x) y Hy.out w10 so10 c15 c16 c18 ?_
          intro w11 k11
          intros
          have c15 := c15.keep k11 (by simp)
          have hC11 := hC10.grow k11.grow
          have G11 := G10.trans k11.grow
          have so11 := so10.grow k11.grow
          have hz11 := k11.size
          have hab11 : Hid (∀ g ∈ blk (some ⟨g2, off2, none⟩), g ∉ fp9 ∧ g < w11.heap.size) := Lib.hid (fun g hg => ⟨(hab10.out g hg).1, by have := (hab10.out g hg).2; omega⟩)
          clear hC10 G10 so10 k11 hab10 c16 c18
          go_wp2_with fail
          go_loopw [20] (fun vk wr => ∃ k : Nat, vk = .int .i64 (k : Int) ∧ k ≤ i ∧ Grow w11 wr) (fun vk _ => i - (intOf vk).toNat)
          case atStart => exact ⟨0, by simp, by omega, Grow.refl _⟩
          case round =>
            obtain ⟨k, rfl, hk, gk⟩ := hrel
            by_cases hkl : k < i
            · obtain ⟨ay, cy, hvy, hsy⟩ := pt.2 k (by rw [← HN.out]; omega)
              have hu := List.getElem?_eq_getElem (l := ls) (i := k) (by rw [← HN.out]; omega)
              obtain ⟨u, hu0⟩ : ∃ x, x = ls[k]'(by rw [← HN.out]; omega) := ⟨_, rfl⟩
              rw [← hu0] at hvy hsy hu
              obtain ⟨z, hz⟩ : ∃ y, tos[k]? = some y := ⟨_, List.getElem?_eq_getElem (by rw [htl.out]; omega)⟩
              have hinj := ba_inj Hba.out Hlk.out (htos.out k u z hu hz)
              clear hu0
              go_upto_region 29 with (fail)
              refine idBk29 (some ⟨g1, off, none⟩) N cap (some ⟨g2, off2, none⟩) wc q15 i k hlt (by omega) hN1 tos htl.out (b16 x) y z Hy.out hz vs ay cy u hvy hinj wr (s1.grow (G11.trans gk)) (hsy.grow (G11.trans gk)) (so11.grow gk) (c15.keep (Keep.of_grow [] gk) (by simp)) ?_
              intro w12 k12
              intros
              have gk12 := gk.trans k12.grow
              clear hvy hsy hu hz hinj k12 gk
              go_wp2_with fail
              go_roundw
              case rel => exact ⟨k + 1, by go_num, by omega, gk12⟩
              case measure => simp [intOf]; omega
            · obtain rfl : i = k := by omega
              have hC12 := hC11.grow gk
              have G12 := G11.trans gk
              have so12 := so11.grow gk
              have hz12 := gk.size
              have hab12 : Hid (∀ g ∈ blk (some ⟨g2, off2, none⟩), g ∉ fp9 ∧ g < wr.heap.size) := Lib.hid (fun g hg => ⟨(hab11.out g hg).1, by have := (hab11.out g hg).2; omega⟩)
              clear hC11 G11 so11 gk hab11 c15
              go_wp2_with fail
              go_roundw
              case rel => exact ⟨i + 1, s7, fp9, by go_num, by omega, Hba, HA7, hcn7, hC12, G12, Lib.hid hf9, so12, hab12⟩
              case measure => simp [intOf]; omega
        · obtain rfl : N = i := by omega
          have hl1 := leftCi hC hb5
          rw [hA.out] at hl1
          clear hlt hi s1 pt so hab
          go_wp2_with fail
          refine hl1 _ ?_
          clear hl1
          intro w5 g5
          have hC5 := hC.grow g5
          have G5 := G.trans g5
          have hp := pairsC hC5
          have hag : s'.ag ≤ 100000 := by have := hba.out.a; have := hba.out.g; omega
          have hc := encSC hC5 hb5 (by omega) hag ⟨#[119]⟩ (bk1 unit) b16z
          clear hC G g5
          go_wp2_with fail
          refine hp _ ?_
          clear hp
          rcases ba_end hba.out b16z with ⟨y, s6, he, hc6, ha6, hle6⟩ | ⟨y, s6, he⟩
          · rw [he] at hc
            have hyl : (y.b.map B).length = 16 := by rw [List.length_map]; exact y.h
            have hy1 := B_one y.b
            obtain ⟨VY, hVY⟩ : ∃ V, V = y.b.map B := ⟨_, rfl⟩
            rw [← hVY] at hyl hy1
            have eY : ekB y = .agg VY.toArray := by rw [hVY]; rfl
            rw [eY] at hc
            have hL2 : ((bs.length - s6.a : Nat) : Int) = (A : Int) - 16 := by have := hA.out; omega
            have hcc : ((s6.cnt : Nat) : Int) = (s'.cnt : Int) + 1 := by omega
            have hAb : 16 ≤ A ∧ A ≤ 4000 := by have := hA.out; omega
            obtain ⟨hAb1, hAb2⟩ := hAb
            have hAle : decide ((A : Int) - 16 ≤ (A : Int) - 16) = true := by simp
            clear he hVY eY hba hA ha6 hle6 hc6
            go_wp2_with fail
            refine hc _ ?_
            clear hc
            intro fp6 w6 hC6 k6 in6
            obtain ⟨G6, -⟩ := ci_step G5 hf.out k6 in6
            clear hC5 G5 k6 in6 hf
            obtain ⟨o22, ga1, th1, al1⟩ := newvar (t := 33) w6 (.int .u8 0) rfl (by omega) hyl hy1
            have hszF : (Try.prog.info? 33).map (·.size) = some VY.toArray.size := by rw [List.size_toArray, hyl]; exact i16
            go_upto_region 35 with (refine wpList_store_mid rfl 33 _ _ rfl w6.heap.size 0 VY.toArray rfl rfl th1 hszF al1 ?_)
            change Code.wp _ _ _ ⟨_, _⟩ ((w6.alloc (.cells (List.replicate 16 (.int .u8 0)).toArray 33)).setCells w6.heap.size 0 VY)
            have G7 := G6.trans ga1
            have hC7 := hC6.grow ga1
            obtain ⟨q22, hq⟩ : ∃ q, q = w6.heap.size := ⟨_, rfl⟩
            generalize (w6.alloc (.cells (List.replicate 16 (.int .u8 0)).toArray 33)).setCells w6.heap.size 0 VY = w7 at *
            rw [← hq] at o22 ⊢
            have hge_q22 : w6.heap.size ≤ q22 := by omega
            clear hq th1 al1 ga1 hszF G6 hC6
            have hp2 := pairsC hC7
            have hl2 := leftCi hC7 hb5
            rw [hcc] at hp2
            rw [hL2] at hl2
            clear o22 hL2 hcc hge_q22
            go_wp2_with fail
            refine hp2 _ ?_
            clear hp2
            go_wp2_with fail
            refine hl2 _ ?_
            clear hl2
            intro w8 g8
            have G8 := G7.trans g8
            go_wp2_with fail
            refine haw _ _ ?_
            intro w9 g9
            have hfin := hR _ (G8.trans g9)
            clear hR
            go_wp2_with fail
            exact hfin
          · rw [he] at hc
            have hyl : (y.b.map B).length = 16 := by rw [List.length_map]; exact y.h
            have hy1 := B_one y.b
            obtain ⟨VY, hVY⟩ : ∃ V, V = y.b.map B := ⟨_, rfl⟩
            rw [← hVY] at hyl hy1
            have eY : ekB y = .agg VY.toArray := by rw [hVY]; rfl
            rw [eY] at hc
            clear he hVY eY hba hA
            go_wp2_with fail
            refine hc _ ?_
            clear hc
            intro fp6 w6 hC6 k6 in6
            obtain ⟨G6, -⟩ := ci_step G5 hf.out k6 in6
            clear hC5 G5 k6 in6 hf
            obtain ⟨o22, ga1, th1, al1⟩ := newvar (t := 33) w6 (.int .u8 0) rfl (by omega) hyl hy1
            have hszF : (Try.prog.info? 33).map (·.size) = some VY.toArray.size := by rw [List.size_toArray, hyl]; exact i16
            go_upto_region 35 with (refine wpList_store_mid rfl 33 _ _ rfl w6.heap.size 0 VY.toArray rfl rfl th1 hszF al1 ?_)
            change Code.wp _ _ _ ⟨_, _⟩ ((w6.alloc (.cells (List.replicate 16 (.int .u8 0)).toArray 33)).setCells w6.heap.size 0 VY)
            have G7 := G6.trans ga1
            have hC7 := hC6.grow ga1
            obtain ⟨q22, hq⟩ : ∃ q, q = w6.heap.size := ⟨_, rfl⟩
            generalize (w6.alloc (.cells (List.replicate 16 (.int .u8 0)).toArray 33)).setCells w6.heap.size 0 VY = w7 at *
            rw [← hq] at o22 ⊢
            have hge_q22 : w6.heap.size ≤ q22 := by omega
            clear hq th1 al1 ga1 hszF G6 hC6
            clear o22 hge_q22 hC7
            go_wp2_with fail
            refine haw _ _ ?_
            intro w9 g9
            have hfin := hR _ (G7.trans g9)
            clear hR
            go_wp2_with fail
            exact hfin
end Go.Proofs.Ytfmnkcmicbnfdaa
