/- The walk of IdealBack: its small regions. -/
import Derived.Test.YtfmnkcmicbnfdaaIdlO
import Derived.Test.YtfmnkcmicbnfdaaLIdB0
import Derived.Test.YtfmnkcmicbnfdaaTapS
namespace Go.Proofs.Ytfmnkcmicbnfdaa
open Go Go.RowKit

/-- Blocks' cells, one behind the other. -/
def bVs (l : List B16) : List Value := l.flatMap fun x => x.b.map B
theorem bVs_len (l : List B16) : (bVs l).length = l.length * 16 := by
  induction l with
  | nil => rfl
  | cons c cs ih => simp only [bVs, List.flatMap_cons, List.length_append, List.length_map, c.h, List.length_cons] at ih ⊢; omega
theorem bVs_app (a b : List B16) : bVs (a ++ b) = bVs a ++ bVs b := by simp [bVs]
theorem TBl : ST Try.prog 31 33 16 16 := ST.mk' (z := .agg (List.replicate 16 (Value.int .u8 0)).toArray) Try.underlying31 (by kernel_rfl) rfl (by decide)
theorem bVs_at (l : List B16) (i : Nat) (h : i < l.length) (j : Nat) (hj : j < 16) : (bVs l)[i * 16 + j]? = (l[i].b.map B)[j]? := by
  have h1 : bVs l = bVs (l.take i) ++ (l[i].b.map B ++ bVs (l.drop (i + 1))) := by
    conv => lhs; rw [← List.take_append_drop i l, bVs_app, List.drop_eq_getElem_cons h]
    rfl
  have h2 : (bVs (l.take i)).length = i * 16 := by rw [bVs_len, List.length_take, Nat.min_eq_left (by omega)]
  rw [h1, List.getElem?_append_right (by omega), h2, Nat.add_sub_cancel_left, List.getElem?_append_left (by rw [List.length_map, l[i].h]; exact hj)]
theorem cells_blk {w : World} {g off : Nat} {l : List B16} (h : Cells w g off (bVs l)) (i : Nat) (hi : i < l.length) : Cells w g (off + i * 16) (l[i].b.map B) :=
  h.sub fun j hj => by
    have hj16 : j < 16 := by rw [List.length_map, l[i].h] at hj; exact hj
    rw [bVs_at l i hi j hj16, List.getElem?_eq_getElem hj]

theorem fold_allB (vs : List Value) (cs : Array Value) (h : vs.length = cs.size) : List.foldl (fun (cs : Array Value) (x : Value × Nat) => cs.setIfInBounds x.snd x.fst) cs vs.zipIdx = vs.toArray := by
  have h1 := fold_splice 0 vs 0 cs (by omega)
  simp only [Nat.zero_add] at h1
  apply Array.toList_inj.1
  rw [h1]
  simp [List.drop_eq_nil_of_le, h]
theorem run_slB (x : B16) (w : World) : ∃ w', (Instr.buildSlice 31 1 #[(0, .agg (x.b.map B).toArray)]).run Try.prog w = .ok (.slice (some ⟨w.heap.size, 0, none⟩) 1 1) w' ∧ Grow w w' ∧ Sl w' 16 (some ⟨w.heap.size, 0, none⟩) 1 1 (bVs [x]) := by
  have hVl : (x.b.map B).length = 16 := by rw [List.length_map]; exact x.h
  have hV1 := B_one x.b
  have e : bVs [x] = x.b.map B := by simp [bVs]
  rw [e]
  generalize x.b.map B = V at *
  refine ⟨_, ?_, Grow.alloc w (.cells V.toArray 33), (Own.made (n := 1) (sz := 16) (alloc_new w (.cells V.toArray 33)) (by simp [hVl]) (by decide) (by simpa using hV1)).sl⟩
  go_simp
  rw [fold_allB V _ (by simp [hVl])]
theorem wpList_slB {ops : Array Oper} {rest : List Oper} {op : Oper} {a : Act} {w : World} {Q : Exit → Act → World → Prop} (hw : Region.wanted op (yielded ops a.tmps) = true) (x : Operand) (c : B16) (ho : op.op = .buildSlice 31 1 #[(0, x)])
    (hx : a.eval x = .agg (c.b.map B).toArray) (h : ∀ g w', Grow w w' → Sl w' 16 (some ⟨g, 0, none⟩) 1 1 (bVs [c]) → wpList Try.prog ops Q rest (a.put op.dst (.slice (some ⟨g, 0, none⟩) 1 1)) w') : wpList Try.prog ops Q (op :: rest) a w := by
  obtain ⟨w', hr, g, sl⟩ := run_slB c w
  refine wpList_want hw fun K hK => ?_
  unfold Oper.wp execOp
  simp only [ho, Sem.run_bind, List.map_toArray, List.map_cons, List.map_nil, hx, hr, Result.andThen_ok, Sem.run_pure]
  exact hK _ _ (h _ _ g sl)


set_option maxRecDepth 100000 in
set_option maxHeartbeats 1000000 in
theorem idBk16 (wo : Option Addr) (n wc q11 : Nat) (hn : n ≤ 2000) (l : List B16) (x : B16) {c0 c1 c2 c3 c4 c5 c6 c7 c8 c10 c12 c13 c14 c15 c16 c17 c18 c19 c20 c21 c22 c23 c24 c25 c26 c27 c28 c29 c30 c31 c32 c33 c34 c35 c36 c37 c38 c39 c40 c41 c42 c43 c44 c45 c46 c47 c48 c49 c50 c51 c52 c53 c54 c55 c56 c57 c58 c59 c60 c61 c62 c63 c64 c65 c66 c67 c68 c69 c70 c71 c72 c73 c74 c75 c76 c77 c78 c79 c80 c81 c82 c83 c84 c85 c86 c87 c88 c89 c90 c91 c92 c93 c94 c95 c96 c97 c98 c99 c100 c101 c102 c103 c104 c105 c106 c107 c108 c109 c110 c111 c112 c113 c114 c115 c116 c117 c118 c119 c120 c121 c122 c123 c124 c125 c126 c127 c128 c129 c130 c131 c132 c133 c134 c135 c136 c137 c138 c139 c140 c141 c142 c143 c144 c145 c146 c147 c148 c149 c150 c151 c152 c153 c154 c155 c156 c157 c158 c159 c160 c161 c162 c163 c164 c165 c166 c167 c168 c169 c170 c171 : Value} (w : World) (ow : Own w 33 16 wo n wc (bVs l)) (o11 : Cells w q11 0 (x.b.map B)) {Q : Exit → Act → World → Prop}
    (hQ : ∀ (wo' : Option Addr) (wc' : Nat) (w' : World), Own w' 33 16 wo' (n + 1) wc' (bVs (l ++ [x])) → Keep (blk wo) w w' → (∀ g ∈ blk wo', g ∈ blk wo ∨ w.heap.size ≤ g) → ∀ {u61 u62 u63 u64 : Value}, Q .normal ⟨List.toArray (c0 :: c1 :: c2 :: c3 :: c4 :: c5 :: c6 :: c7 :: c8 :: .slice wo' (n + 1) wc' :: c10 :: .pointer (some ⟨q11, 0, none⟩) :: c12 :: c13 :: c14 :: c15 :: c16 :: c17 :: c18 :: c19 :: c20 :: c21 :: c22 :: c23 :: c24 :: c25 :: c26 :: c27 :: c28 :: c29 :: c30 :: c31 :: c32 :: c33 :: c34 :: c35 :: c36 :: c37 :: c38 :: c39 :: c40 :: c41 :: c42 :: c43 :: c44 :: c45 :: c46 :: c47 :: c48 :: c49 :: c50 :: c51 :: c52 :: c53 :: c54 :: c55 :: c56 :: c57 :: c58 :: c59 :: c60 :: u61 :: u62 :: u63 :: u64 :: c65 :: c66 :: c67 :: c68 :: c69 :: c70 :: c71 :: c72 :: c73 :: c74 :: c75 :: c76 :: c77 :: c78 :: c79 :: c80 :: c81 :: c82 :: c83 :: c84 :: c85 :: c86 :: c87 :: c88 :: c89 :: c90 :: c91 :: c92 :: c93 :: c94 :: c95 :: c96 :: c97 :: c98 :: c99 :: c100 :: c101 :: c102 :: c103 :: c104 :: c105 :: c106 :: c107 :: c108 :: c109 :: c110 :: c111 :: c112 :: c113 :: c114 :: c115 :: c116 :: c117 :: c118 :: c119 :: c120 :: c121 :: c122 :: c123 :: c124 :: c125 :: c126 :: c127 :: c128 :: c129 :: c130 :: c131 :: c132 :: c133 :: c134 :: c135 :: c136 :: c137 :: c138 :: c139 :: c140 :: c141 :: c142 :: c143 :: c144 :: c145 :: c146 :: c147 :: c148 :: c149 :: c150 :: c151 :: c152 :: c153 :: c154 :: c155 :: c156 :: c157 :: c158 :: c159 :: c160 :: c161 :: c162 :: c163 :: c164 :: c165 :: c166 :: c167 :: c168 :: c169 :: c170 :: c171 :: []), []⟩ w') :
    Code.wp Try.prog (regionAt Try.f3 16) Q ⟨List.toArray (c0 :: c1 :: c2 :: c3 :: c4 :: c5 :: c6 :: c7 :: c8 :: .slice wo n wc :: c10 :: .pointer (some ⟨q11, 0, none⟩) :: c12 :: c13 :: c14 :: c15 :: c16 :: c17 :: c18 :: c19 :: c20 :: c21 :: c22 :: c23 :: c24 :: c25 :: c26 :: c27 :: c28 :: c29 :: c30 :: c31 :: c32 :: c33 :: c34 :: c35 :: c36 :: c37 :: c38 :: c39 :: c40 :: c41 :: c42 :: c43 :: c44 :: c45 :: c46 :: c47 :: c48 :: c49 :: c50 :: c51 :: c52 :: c53 :: c54 :: c55 :: c56 :: c57 :: c58 :: c59 :: c60 :: c61 :: c62 :: c63 :: c64 :: c65 :: c66 :: c67 :: c68 :: c69 :: c70 :: c71 :: c72 :: c73 :: c74 :: c75 :: c76 :: c77 :: c78 :: c79 :: c80 :: c81 :: c82 :: c83 :: c84 :: c85 :: c86 :: c87 :: c88 :: c89 :: c90 :: c91 :: c92 :: c93 :: c94 :: c95 :: c96 :: c97 :: c98 :: c99 :: c100 :: c101 :: c102 :: c103 :: c104 :: c105 :: c106 :: c107 :: c108 :: c109 :: c110 :: c111 :: c112 :: c113 :: c114 :: c115 :: c116 :: c117 :: c118 :: c119 :: c120 :: c121 :: c122 :: c123 :: c124 :: c125 :: c126 :: c127 :: c128 :: c129 :: c130 :: c131 :: c132 :: c133 :: c134 :: c135 :: c136 :: c137 :: c138 :: c139 :: c140 :: c141 :: c142 :: c143 :: c144 :: c145 :: c146 :: c147 :: c148 :: c149 :: c150 :: c151 :: c152 :: c153 :: c154 :: c155 :: c156 :: c157 :: c158 :: c159 :: c160 :: c161 :: c162 :: c163 :: c164 :: c165 :: c166 :: c167 :: c168 :: c169 :: c170 :: c171 :: []), []⟩ w := by
  have hml : maxLen = 9223372036854775807 := rfl
  have hsz : (Try.prog.info? 33).map (·.size) = some (x.b.map B).length := by rw [List.length_map, x.h]; exact i16
  have hrg : w.rangeAt q11 0 (x.b.map B) := fun j v hj => o11.at hj
  have hca : bVs l ++ bVs [x] = bVs (l ++ [x]) := (bVs_app _ _).symm
  conv => arg 2; whnf
  go_wp2_with (first | refine wpList_load_mid rfl 33 _ rfl q11 0 rfl (x.b.map B) _ hrg Try.underlying33 rfl hsz ?_ | (refine wpList_slB rfl _ x rfl rfl ?_; intro g1 w1 gs1 sl1; have ow1 := ow.grow gs1; clear ow hrg o11) | (at_builtin; refine wpList_app TBl rfl rfl ow1 sl1 (by omega) (by omega) ?_; intro wo' wc' w2 ow2 _ kp2 bl2; rw [hca] at ow2; have K2 := (Keep.of_grow (blk wo) gs1).trans kp2; have B2 := fun g hg => (bl2 g hg).imp id (Nat.le_trans gs1.size); have hf := @hQ wo' wc' w2 ow2 K2 B2; clear hQ))
  exact hf
end Go.Proofs.Ytfmnkcmicbnfdaa
