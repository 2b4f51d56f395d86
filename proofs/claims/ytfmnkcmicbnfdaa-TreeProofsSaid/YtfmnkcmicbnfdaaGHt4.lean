/- The document's tags: a node's. · The document's tags: a node's, the walk. · The document's tags: the top's, and those beside a way. -/
import Derived.Test.YtfmnkcmicbnfdaaGHt3
import Derived.Test.YtfmnkcmicbnfdaaGPaths

namespace Go.Proofs.Ytfmnkcmicbnfdaa
open Go Go.RowKit

theorem TStr : ST Try.prog 58 9 1 16 := ST.mk' (z := .string .empty) Try.underlying58 (by kernel_rfl) rfl (by decide)
/-- Where the document's tags lie. -/
structure Tgs where
  p : Nat
  ph : Nat
  ko : Option Addr
  kc : Nat
  xo : Option Addr
  xc : Nat
  ho : Option Addr
  hc : Nat
  n : Nat
def Tgs.all (g : Tgs) : List Nat := g.p :: g.ph :: (blk g.ko ++ (blk g.xo ++ blk g.ho))
structure Tg (w : World) (g : Tgs) (key : List UInt8) (tx : Nat → List UInt8) (hs : Nat → Bool) : Prop where
  obj : w.heap[g.p]? = some (.cells #[.pointer (some ⟨g.ph, 0, none⟩), .slice g.ko 32 g.kc, .slice g.xo g.n g.xc, .slice g.ho g.n g.hc] 61 (0, 0))
  sm : Sm w g.ph Hs Ks
  key : Sl w 1 g.ko 32 g.kc (key.map B)
  txt : Own w 9 1 g.xo g.n g.xc ((List.range g.n).map fun i => .string (str (tx i)))
  has : Own w 4 1 g.ho g.n g.hc ((List.range g.n).map fun i => .bool (hs i))
  lt : ∀ y ∈ g.all, y < w.heap.size
  nd : ∀ y ∈ blk g.xo ++ blk g.ho, y ∉ g.p :: g.ph :: blk g.ko
  nx : ∀ y ∈ blk g.xo, y ∉ blk g.ho
theorem Tg.keep {fp : List Nat} {w w' : World} {g : Tgs} {key : List UInt8} {tx : Nat → List UInt8} {hs : Nat → Bool} (a : Tg w g key tx hs) (k : Keep fp w w') (h : ∀ y ∈ g.all, y ∉ fp) : Tg w' g key tx hs where
  obj := k.obj a.obj (h _ (by simp [Tgs.all]))
  sm := ⟨a.sm.1.keep k (h _ (by simp [Tgs.all])), a.sm.2⟩
  key := a.key.keep k fun y hy => h y (by simp [Tgs.all, hy])
  txt := a.txt.keep k fun y hy => h y (by simp [Tgs.all, hy])
  has := a.has.keep k fun y hy => h y (by simp [Tgs.all, hy])
  lt := fun y hy => Nat.lt_of_lt_of_le (a.lt y hy) k.size
  nd := a.nd
  nx := a.nx
theorem Tg.grow {w w' : World} {g : Tgs} {key : List UInt8} {tx : Nat → List UInt8} {hs : Nat → Bool} (a : Tg w g key tx hs) (gr : Grow w w') : Tg w' g key tx hs := a.keep (Keep.of_grow [] gr) (by simp)
/-- What the leaves' tags are. -/
def lvD (key : List UInt8) (tx : Nat → List UInt8) (hs : Nat → Bool) : Nat → B16 := fun i => if hs i then leafT key i (tx i) else B0


set_option maxRecDepth 100000 in
set_option maxHeartbeats 1000000 in
theorem rnode2a (q3 n : Nat) (level i : Int) (hl : level < 0) {c0 c1 c2 c4 c6 c7 c8 c9 c10 c11 c12 c13 c14 c15 c16 c17 c18 c19 c20 c21 c22 c23 c24 c25 c26 c27 c28 c29 c30 c31 c32 c33 c34 c35 c36 c37 c38 c39 c40 c41 c42 c43 c44 c45 c46 c47 c48 c49 c50 c51 c52 c53 c54 c55 c56 c57 c58 c59 c60 c61 c62 c63 c64 c65 c66 c67 c68 c69 c70 c71 c72 c73 c74 c75 c76 c77 c78 c79 c80 c81 c82 c83 c84 c85 c86 c87 c88 : Value} (w : World) (o3 : w.heap[q3]? = some (.cells #[.int .i64 level, .int .i64 i] 78 (0, 0))) {Q : Exit → Act → World → Prop}
    (hQ : ∀ (w' : World), Grow w w' → ∀ {u15 u16 u17 u18 u19 u20 u21 u22 u23 u24 u25 u26 u27 u28 u29 u30 : Value}, Q .normal ⟨List.toArray (c0 :: c1 :: c2 :: .pointer (some ⟨q3, 0, none⟩) :: c4 :: .int .i64 (n : Int) :: c6 :: c7 :: c8 :: c9 :: c10 :: c11 :: c12 :: c13 :: c14 :: u15 :: u16 :: u17 :: u18 :: u19 :: u20 :: u21 :: u22 :: u23 :: u24 :: u25 :: u26 :: u27 :: u28 :: u29 :: u30 :: .bool true :: c32 :: c33 :: c34 :: c35 :: c36 :: c37 :: c38 :: c39 :: c40 :: c41 :: c42 :: c43 :: c44 :: c45 :: c46 :: c47 :: c48 :: c49 :: c50 :: c51 :: c52 :: c53 :: c54 :: c55 :: c56 :: c57 :: c58 :: c59 :: c60 :: c61 :: c62 :: c63 :: c64 :: c65 :: c66 :: c67 :: c68 :: c69 :: c70 :: c71 :: c72 :: c73 :: c74 :: c75 :: c76 :: c77 :: c78 :: c79 :: c80 :: c81 :: c82 :: c83 :: c84 :: c85 :: c86 :: c87 :: c88 :: []), []⟩ w') :
    Code.wp Try.prog (regionAt Try.f46 2) Q ⟨List.toArray (c0 :: c1 :: c2 :: .pointer (some ⟨q3, 0, none⟩) :: c4 :: .int .i64 (n : Int) :: c6 :: c7 :: c8 :: c9 :: c10 :: c11 :: c12 :: c13 :: c14 :: c15 :: c16 :: c17 :: c18 :: c19 :: c20 :: c21 :: c22 :: c23 :: c24 :: c25 :: c26 :: c27 :: c28 :: c29 :: c30 :: c31 :: c32 :: c33 :: c34 :: c35 :: c36 :: c37 :: c38 :: c39 :: c40 :: c41 :: c42 :: c43 :: c44 :: c45 :: c46 :: c47 :: c48 :: c49 :: c50 :: c51 :: c52 :: c53 :: c54 :: c55 :: c56 :: c57 :: c58 :: c59 :: c60 :: c61 :: c62 :: c63 :: c64 :: c65 :: c66 :: c67 :: c68 :: c69 :: c70 :: c71 :: c72 :: c73 :: c74 :: c75 :: c76 :: c77 :: c78 :: c79 :: c80 :: c81 :: c82 :: c83 :: c84 :: c85 :: c86 :: c87 :: c88 :: []), []⟩ w := by
  have q0 := KW.cell (fp := []) (p0 := tt) (obj_cell o3 0 rfl) (by simp)
  have q1 := KW.cell (fp := []) (p0 := tt) (obj_cell o3 1 rfl) (by simp)
  have hd : decide (level < 0) = true := decide_eq_true hl
  clear hl o3
  conv => arg 2; whnf
  refine wp_region_R (segT w []) (by kernel_rfl) segT_drew ?_
  unfold segT segK segR
  repeat (first | (refine wpV_skp rfl rfl ?_; simp only [List.set_cons_succ, List.set_cons_zero]) | (refine wpV_look rfl rfl rfl rfl rfl (fun K hK => ?_); go_big_quiet_op; refine hK _ ?_; clear hK K))
  refine wpV_nil ?_
  intro w2 hC hF
  obtain ⟨⟨w2, hkw2, -⟩, rfl⟩ := hC
  clear hF
  exact hQ _ hkw2.grow
set_option maxRecDepth 100000 in
set_option maxHeartbeats 1000000 in
theorem rnode2b (q3 n : Nat) (level i : Int) (hl : 0 ≤ level) (hi : i < 0) {c0 c1 c2 c4 c6 c7 c8 c9 c10 c11 c12 c13 c14 c15 c16 c17 c18 c19 c20 c21 c22 c23 c24 c25 c26 c27 c28 c29 c30 c31 c32 c33 c34 c35 c36 c37 c38 c39 c40 c41 c42 c43 c44 c45 c46 c47 c48 c49 c50 c51 c52 c53 c54 c55 c56 c57 c58 c59 c60 c61 c62 c63 c64 c65 c66 c67 c68 c69 c70 c71 c72 c73 c74 c75 c76 c77 c78 c79 c80 c81 c82 c83 c84 c85 c86 c87 c88 : Value} (w : World) (o3 : w.heap[q3]? = some (.cells #[.int .i64 level, .int .i64 i] 78 (0, 0))) {Q : Exit → Act → World → Prop}
    (hQ : ∀ (w' : World), Grow w w' → ∀ {u15 u16 u17 u18 u19 u20 u21 u22 u23 u24 u25 u26 u27 u28 u29 u30 : Value}, Q .normal ⟨List.toArray (c0 :: c1 :: c2 :: .pointer (some ⟨q3, 0, none⟩) :: c4 :: .int .i64 (n : Int) :: c6 :: c7 :: c8 :: c9 :: c10 :: c11 :: c12 :: c13 :: c14 :: u15 :: u16 :: u17 :: u18 :: u19 :: u20 :: u21 :: u22 :: u23 :: u24 :: u25 :: u26 :: u27 :: u28 :: u29 :: u30 :: .bool true :: c32 :: c33 :: c34 :: c35 :: c36 :: c37 :: c38 :: c39 :: c40 :: c41 :: c42 :: c43 :: c44 :: c45 :: c46 :: c47 :: c48 :: c49 :: c50 :: c51 :: c52 :: c53 :: c54 :: c55 :: c56 :: c57 :: c58 :: c59 :: c60 :: c61 :: c62 :: c63 :: c64 :: c65 :: c66 :: c67 :: c68 :: c69 :: c70 :: c71 :: c72 :: c73 :: c74 :: c75 :: c76 :: c77 :: c78 :: c79 :: c80 :: c81 :: c82 :: c83 :: c84 :: c85 :: c86 :: c87 :: c88 :: []), []⟩ w') :
    Code.wp Try.prog (regionAt Try.f46 2) Q ⟨List.toArray (c0 :: c1 :: c2 :: .pointer (some ⟨q3, 0, none⟩) :: c4 :: .int .i64 (n : Int) :: c6 :: c7 :: c8 :: c9 :: c10 :: c11 :: c12 :: c13 :: c14 :: c15 :: c16 :: c17 :: c18 :: c19 :: c20 :: c21 :: c22 :: c23 :: c24 :: c25 :: c26 :: c27 :: c28 :: c29 :: c30 :: c31 :: c32 :: c33 :: c34 :: c35 :: c36 :: c37 :: c38 :: c39 :: c40 :: c41 :: c42 :: c43 :: c44 :: c45 :: c46 :: c47 :: c48 :: c49 :: c50 :: c51 :: c52 :: c53 :: c54 :: c55 :: c56 :: c57 :: c58 :: c59 :: c60 :: c61 :: c62 :: c63 :: c64 :: c65 :: c66 :: c67 :: c68 :: c69 :: c70 :: c71 :: c72 :: c73 :: c74 :: c75 :: c76 :: c77 :: c78 :: c79 :: c80 :: c81 :: c82 :: c83 :: c84 :: c85 :: c86 :: c87 :: c88 :: []), []⟩ w := by
  have q0 := KW.cell (fp := []) (p0 := tt) (obj_cell o3 0 rfl) (by simp)
  have q1 := KW.cell (fp := []) (p0 := tt) (obj_cell o3 1 rfl) (by simp)
  have hd : decide (level < 0) = false := decide_eq_false (by omega)
  have hd2 : decide (i < 0) = true := decide_eq_true hi
  clear hl hi o3
  conv => arg 2; whnf
  refine wp_region_R (segT w []) (by kernel_rfl) segT_drew ?_
  unfold segT segK segR
  repeat (first | (refine wpV_skp rfl rfl ?_; simp only [List.set_cons_succ, List.set_cons_zero]) | (refine wpV_look rfl rfl rfl rfl rfl (fun K hK => ?_); go_big_quiet_op; refine hK _ ?_; clear hK K))
  refine wpV_nil ?_
  intro w2 hC hF
  obtain ⟨⟨w2, hkw2, -⟩, rfl⟩ := hC
  clear hF
  exact hQ _ hkw2.grow
set_option maxRecDepth 100000 in
set_option maxHeartbeats 1000000 in
theorem rnode2c (q3 n wd : Nat) (level i : Int) (b : Bool) (hl : 0 ≤ level) (hi : 0 ≤ i) (hd : decide ((wd : Int) ≤ i) = b) {c0 c1 c2 c4 c6 c7 c8 c9 c10 c11 c12 c13 c14 c15 c16 c17 c18 c19 c20 c21 c22 c23 c24 c25 c26 c27 c28 c29 c30 c31 c32 c33 c34 c35 c36 c37 c38 c39 c40 c41 c42 c43 c44 c45 c46 c47 c48 c49 c50 c51 c52 c53 c54 c55 c56 c57 c58 c59 c60 c61 c62 c63 c64 c65 c66 c67 c68 c69 c70 c71 c72 c73 c74 c75 c76 c77 c78 c79 c80 c81 c82 c83 c84 c85 c86 c87 c88 : Value} (w : World) (o3 : w.heap[q3]? = some (.cells #[.int .i64 level, .int .i64 i] 78 (0, 0)))
    (hwid : ∀ (w : World) (R : Ending → World → Prop), (∀ w', Grow w w' → R (.returned (.int .i64 (wd : Int))) w') → Calls Try.prog 77 #[.int .i64 (n : Int), .int .i64 level] w R) {Q : Exit → Act → World → Prop}
    (hQ : ∀ (w' : World), Grow w w' → ∀ {u15 u16 u17 u18 u19 u20 u21 u22 u23 u24 u25 u26 u27 u28 u29 u30 : Value}, Q .normal ⟨List.toArray (c0 :: c1 :: c2 :: .pointer (some ⟨q3, 0, none⟩) :: c4 :: .int .i64 (n : Int) :: c6 :: c7 :: c8 :: c9 :: c10 :: c11 :: c12 :: c13 :: c14 :: u15 :: u16 :: u17 :: u18 :: u19 :: u20 :: u21 :: u22 :: u23 :: u24 :: u25 :: u26 :: u27 :: u28 :: u29 :: u30 :: .bool b :: c32 :: c33 :: c34 :: c35 :: c36 :: c37 :: c38 :: c39 :: c40 :: c41 :: c42 :: c43 :: c44 :: c45 :: c46 :: c47 :: c48 :: c49 :: c50 :: c51 :: c52 :: c53 :: c54 :: c55 :: c56 :: c57 :: c58 :: c59 :: c60 :: c61 :: c62 :: c63 :: c64 :: c65 :: c66 :: c67 :: c68 :: c69 :: c70 :: c71 :: c72 :: c73 :: c74 :: c75 :: c76 :: c77 :: c78 :: c79 :: c80 :: c81 :: c82 :: c83 :: c84 :: c85 :: c86 :: c87 :: c88 :: []), []⟩ w') :
    Code.wp Try.prog (regionAt Try.f46 2) Q ⟨List.toArray (c0 :: c1 :: c2 :: .pointer (some ⟨q3, 0, none⟩) :: c4 :: .int .i64 (n : Int) :: c6 :: c7 :: c8 :: c9 :: c10 :: c11 :: c12 :: c13 :: c14 :: c15 :: c16 :: c17 :: c18 :: c19 :: c20 :: c21 :: c22 :: c23 :: c24 :: c25 :: c26 :: c27 :: c28 :: c29 :: c30 :: c31 :: c32 :: c33 :: c34 :: c35 :: c36 :: c37 :: c38 :: c39 :: c40 :: c41 :: c42 :: c43 :: c44 :: c45 :: c46 :: c47 :: c48 :: c49 :: c50 :: c51 :: c52 :: c53 :: c54 :: c55 :: c56 :: c57 :: c58 :: c59 :: c60 :: c61 :: c62 :: c63 :: c64 :: c65 :: c66 :: c67 :: c68 :: c69 :: c70 :: c71 :: c72 :: c73 :: c74 :: c75 :: c76 :: c77 :: c78 :: c79 :: c80 :: c81 :: c82 :: c83 :: c84 :: c85 :: c86 :: c87 :: c88 :: []), []⟩ w := by
  have q0 := KW.cell (fp := []) (p0 := tt) (obj_cell o3 0 rfl) (by simp)
  have q1 := KW.cell (fp := []) (p0 := tt) (obj_cell o3 1 rfl) (by simp)
  have hd1 : decide (level < 0) = false := decide_eq_false (by omega)
  have hd2 : decide (i < 0) = false := decide_eq_false (by omega)
  clear hl hi o3
  conv => arg 2; whnf
  refine wp_region_R (segT w [(14, pIs (.int .i64 (wd : Int)))]) (by kernel_rfl) segT_drew ?_
  unfold segT segK segR
  repeat (first | (refine wpV_skp rfl rfl ?_; simp only [List.set_cons_succ, List.set_cons_zero]) | (refine wpV_look rfl rfl rfl rfl rfl (fun K hK => ?_); go_big_quiet_op; refine hK _ ?_; clear hK K))
  refine wpV_mk rfl rfl rfl [] rfl (fun vs w7 hC _ => yields_call (by kernel_rfl) ?_) (fun vs v w7 hC hV hF => ?_)
  · obtain ⟨⟨w7, hk, -⟩, rfl⟩ := hC
    exact hwid w7 _ (fun w8 g8 => ⟨_, rfl, ⟨Keep.of_grow [] g8, trivial⟩, rfl⟩)
  obtain rfl := hV
  clear hC hF w7
  simp only [List.set_cons_succ, List.set_cons_zero]
  repeat (first | (refine wpV_skp rfl rfl ?_; simp only [List.set_cons_succ, List.set_cons_zero]) | (refine wpV_look rfl rfl rfl rfl rfl (fun K hK => ?_); go_big_quiet_op; refine hK _ ?_; clear hK K))
  refine wpV_nil ?_
  intro w2 hC hF
  obtain ⟨⟨w2, hkw2, -⟩, rfl⟩ := hC
  clear hF
  exact hQ _ hkw2.grow


set_option maxRecDepth 100000 in
set_option maxHeartbeats 1000000 in
theorem rnode5 (g : Tgs) (q3 k : Nat) (level : Int) (hk : k < g.n) (hn : g.n ≤ 1000) {key : List UInt8} {tx : Nat → List UInt8} {hs : Nat → Bool} {c1 c2 c4 c5 c6 c7 c8 c9 c10 c11 c12 c13 c14 c15 c16 c17 c18 c19 c20 c21 c22 c23 c24 c25 c26 c27 c28 c29 c30 c31 c32 c33 c34 c35 c36 c37 c38 c39 c40 c41 c42 c43 c44 c45 c46 c47 c48 c49 c50 c51 c52 c53 c54 c55 c56 c57 c58 c59 c60 c61 c62 c63 c64 c65 c66 c67 c68 c69 c70 c71 c72 c73 c74 c75 c76 c77 c78 c79 c80 c81 c82 c83 c84 c85 c86 c87 c88 : Value} (w : World) (a : Tg w g key tx hs) (o3 : w.heap[q3]? = some (.cells #[.int .i64 level, .int .i64 (k : Int)] 78 (0, 0))) {Q : Exit → Act → World → Prop}
    (hQ : ∀ (w' : World), Grow w w' → ∀ {u36 u37 u38 u39 u40 u41 u42 u43 : Value}, Q .normal ⟨List.toArray (.pointer (some ⟨g.p, 0, none⟩) :: c1 :: c2 :: .pointer (some ⟨q3, 0, none⟩) :: c4 :: c5 :: c6 :: c7 :: c8 :: c9 :: c10 :: c11 :: c12 :: c13 :: c14 :: c15 :: c16 :: c17 :: c18 :: c19 :: c20 :: c21 :: c22 :: c23 :: c24 :: c25 :: c26 :: c27 :: c28 :: c29 :: c30 :: c31 :: c32 :: c33 :: c34 :: c35 :: u36 :: u37 :: u38 :: u39 :: u40 :: u41 :: u42 :: u43 :: .bool (!hs k) :: c45 :: c46 :: c47 :: c48 :: c49 :: c50 :: c51 :: c52 :: c53 :: c54 :: c55 :: c56 :: c57 :: c58 :: c59 :: c60 :: c61 :: c62 :: c63 :: c64 :: c65 :: c66 :: c67 :: c68 :: c69 :: c70 :: c71 :: c72 :: c73 :: c74 :: c75 :: c76 :: c77 :: c78 :: c79 :: c80 :: c81 :: c82 :: c83 :: c84 :: c85 :: c86 :: c87 :: c88 :: []), []⟩ w') :
    Code.wp Try.prog (regionAt Try.f46 5) Q ⟨List.toArray (.pointer (some ⟨g.p, 0, none⟩) :: c1 :: c2 :: .pointer (some ⟨q3, 0, none⟩) :: c4 :: c5 :: c6 :: c7 :: c8 :: c9 :: c10 :: c11 :: c12 :: c13 :: c14 :: c15 :: c16 :: c17 :: c18 :: c19 :: c20 :: c21 :: c22 :: c23 :: c24 :: c25 :: c26 :: c27 :: c28 :: c29 :: c30 :: c31 :: c32 :: c33 :: c34 :: c35 :: c36 :: c37 :: c38 :: c39 :: c40 :: c41 :: c42 :: c43 :: c44 :: c45 :: c46 :: c47 :: c48 :: c49 :: c50 :: c51 :: c52 :: c53 :: c54 :: c55 :: c56 :: c57 :: c58 :: c59 :: c60 :: c61 :: c62 :: c63 :: c64 :: c65 :: c66 :: c67 :: c68 :: c69 :: c70 :: c71 :: c72 :: c73 :: c74 :: c75 :: c76 :: c77 :: c78 :: c79 :: c80 :: c81 :: c82 :: c83 :: c84 :: c85 :: c86 :: c87 :: c88 :: []), []⟩ w := by
  have hml : maxLen = 9223372036854775807 := rfl
  obtain ⟨gh, off, hho, hcl⟩ := a.has.sl.hat (by omega)
  have ob := a.obj
  rw [hho] at ob
  have h1 := hcl.at (i := k) (v := .bool (hs k)) (by simp [hk])
  have hs1 := a.has.sl.hle
  have hs2 := a.has.sl.hcap
  have q0 := KW.cell (fp := []) (p0 := tt) (obj_cell o3 1 rfl) (by simp)
  have q1 := KW.cell (fp := []) (p0 := tt) (obj_cell ob 3 rfl) (by simp)
  have q2 := KW.cell (fp := []) (p0 := tt) h1 (by simp)
  clear ob h1 hcl o3 a
  conv => arg 2; whnf
  refine wp_region_R (segT w []) (by kernel_rfl) segT_drew ?_
  unfold segT segK segR
  repeat (first | (refine wpV_skp rfl rfl ?_; simp only [List.set_cons_succ, List.set_cons_zero]) | (refine wpV_look rfl rfl rfl rfl rfl (fun K hK => ?_); go_big_quiet_op; refine hK _ ?_; clear hK K))
  refine wpV_nil ?_
  intro w2 hC hF
  obtain ⟨⟨w2, hkw2, -⟩, rfl⟩ := hC
  clear hF
  exact hQ _ hkw2.grow


set_option maxRecDepth 100000 in
set_option maxHeartbeats 1000000 in
theorem rnode7 (g : Tgs) (q3 q4 k : Nat) (level : Int) (hk : k < g.n) (hn : g.n ≤ 1000) {key : List UInt8} (hkey : key.length = 32) {tx : Nat → List UInt8} (htx : ∀ i, (tx i).length ≤ 1000) {hs : Nat → Bool} {c1 c2 c5 c6 c7 c8 c9 c10 c11 c12 c13 c14 c15 c16 c17 c18 c19 c20 c21 c22 c23 c24 c25 c26 c27 c28 c29 c30 c31 c32 c33 c34 c35 c36 c37 c38 c39 c40 c41 c42 c43 c44 c45 c46 c47 c48 c49 c50 c51 c52 c53 c54 c55 c56 c57 c58 c59 c60 c61 c62 c63 c64 c65 c66 c67 c68 c69 c70 c71 c72 c73 c74 c75 c76 c77 c78 c79 c80 c81 c82 c83 c84 c85 c86 c87 c88 : Value} (w : World) (a : Tg w g key tx hs) (o3 : w.heap[q3]? = some (.cells #[.int .i64 level, .int .i64 (k : Int)] 78 (0, 0))) (o4 : Own w 33 1 (some ⟨q4, 0, none⟩) 16 16 (List.replicate 16 (.int .u8 0))) {Q : Exit → Act → World → Prop}
    (hQ : ∀ (w' : World), Own w' 33 1 (some ⟨q4, 0, none⟩) 16 16 ((leafT key k (tx k)).b.map B) → Keep [q4] w w' → ∀ {u46 u47 u48 u49 u50 u51 u52 u53 u54 u55 u56 u57 u58 : Value}, Q .normal ⟨List.toArray (.pointer (some ⟨g.p, 0, none⟩) :: c1 :: c2 :: .pointer (some ⟨q3, 0, none⟩) :: .pointer (some ⟨q4, 0, none⟩) :: c5 :: c6 :: c7 :: c8 :: c9 :: c10 :: c11 :: c12 :: c13 :: c14 :: c15 :: c16 :: c17 :: c18 :: c19 :: c20 :: c21 :: c22 :: c23 :: c24 :: c25 :: c26 :: c27 :: c28 :: c29 :: c30 :: c31 :: c32 :: c33 :: c34 :: c35 :: c36 :: c37 :: c38 :: c39 :: c40 :: c41 :: c42 :: c43 :: c44 :: c45 :: u46 :: u47 :: u48 :: u49 :: u50 :: u51 :: u52 :: u53 :: u54 :: u55 :: u56 :: u57 :: u58 :: c59 :: c60 :: c61 :: c62 :: c63 :: c64 :: c65 :: c66 :: c67 :: c68 :: c69 :: c70 :: c71 :: c72 :: c73 :: c74 :: c75 :: c76 :: c77 :: c78 :: c79 :: c80 :: c81 :: c82 :: c83 :: c84 :: c85 :: c86 :: c87 :: c88 :: []), []⟩ w') :
    Code.wp Try.prog (regionAt Try.f46 7) Q ⟨List.toArray (.pointer (some ⟨g.p, 0, none⟩) :: c1 :: c2 :: .pointer (some ⟨q3, 0, none⟩) :: .pointer (some ⟨q4, 0, none⟩) :: c5 :: c6 :: c7 :: c8 :: c9 :: c10 :: c11 :: c12 :: c13 :: c14 :: c15 :: c16 :: c17 :: c18 :: c19 :: c20 :: c21 :: c22 :: c23 :: c24 :: c25 :: c26 :: c27 :: c28 :: c29 :: c30 :: c31 :: c32 :: c33 :: c34 :: c35 :: c36 :: c37 :: c38 :: c39 :: c40 :: c41 :: c42 :: c43 :: c44 :: c45 :: c46 :: c47 :: c48 :: c49 :: c50 :: c51 :: c52 :: c53 :: c54 :: c55 :: c56 :: c57 :: c58 :: c59 :: c60 :: c61 :: c62 :: c63 :: c64 :: c65 :: c66 :: c67 :: c68 :: c69 :: c70 :: c71 :: c72 :: c73 :: c74 :: c75 :: c76 :: c77 :: c78 :: c79 :: c80 :: c81 :: c82 :: c83 :: c84 :: c85 :: c86 :: c87 :: c88 :: []), []⟩ w := by
  have hml : maxLen = 9223372036854775807 := rfl
  obtain ⟨gx, off, hxo, hcl⟩ := a.txt.sl.hat (by omega)
  have ob := a.obj
  rw [hxo] at ob
  have h1 := hcl.at (i := k) (v := .string (str (tx k))) (by simp [hk])
  have hs1 := a.txt.sl.hle
  have hs2 := a.txt.sl.hcap
  have q0 := KW.cell (fp := []) (p0 := tt) (obj_cell o3 1 rfl) (by simp)
  have q1 := KW.cell (fp := []) (p0 := tt) (obj_cell ob 2 rfl) (by simp)
  have q2 := KW.cell (fp := []) (p0 := tt) h1 (by simp)
  have htl := htx k
  have hlt := fun w' (gr : Grow w w') n0 c0 ao s => leafTextC g.p g.ph g.ko g.kc key hkey k (by omega) ao n0 c0 (tx k) (by omega) w' (gr.cell (obj_cell a.obj 0 rfl)) (gr.cell (obj_cell a.obj 1 rfl)) (a.sm.grow gr) (a.key.grow gr) s
  have hcv := fun w' => conv_str (P := Try.prog) (src := 9) (dst := 27) (e := 5) Try.underlying9 Try.underlying27 Try.underlying5 (str (tx k)) (tx k) rfl (by omega) w'
  have hVl := bV_len (leafT key k (tx k))
  have hV1 := B_one (leafT key k (tx k)).b
  obtain ⟨V, hV⟩ : ∃ V, V = (leafT key k (tx k)).b.map B := ⟨_, rfl⟩
  rw [← hV] at hVl hV1 hQ
  simp only [← hV] at hlt
  obtain ⟨X, hX⟩ : ∃ X, X = tx k := ⟨_, rfl⟩
  simp only [← hX] at hlt hcv q2
  clear hV hX ob h1 hcl o3 a htx htl
  conv => arg 2; whnf
  refine wp_region_R (segT w [(11, pBy X), (12, pIs (.agg V.toArray))]) (by kernel_rfl) segT_drew ?_
  unfold segT segK segR
  repeat (first | (refine wpV_skp rfl rfl ?_; simp only [List.set_cons_succ, List.set_cons_zero]) | (refine wpV_look rfl rfl rfl rfl rfl (fun K hK => ?_); go_big_quiet_op; refine hK _ ?_; clear hK K))
  refine wpV_mk rfl rfl rfl [] (by kernel_rfl) (fun vs w7 hC hF => ?_) (fun vs v w7 hC hV hF => ?_)
  · obtain ⟨⟨w7, hk7, -⟩, rfl⟩ := hC
    obtain ⟨c, w8, hr, s8, g8⟩ := hcv w7
    exact yields_run (exec_conv hr) ⟨⟨Keep.of_grow [] g8, trivial⟩, ⟨_, _, rfl, s8⟩⟩
  obtain ⟨b11, d11, rfl, -⟩ := hV
  clear hC hF w7
  simp only [List.set_cons_succ, List.set_cons_zero]
  refine wpV_mk rfl rfl rfl [11] (by kernel_rfl) (fun vs w7 hC hF => yields_call (by kernel_rfl) ?_) (fun vs v w7 hC hV hF => ?_)
  · obtain ⟨⟨w7, hk7, -⟩, rfl⟩ := hC
    obtain ⟨bo, d, e, hs⟩ := (hF 11 (by simp)).2 rfl
    cases e
    exact hlt w7 hk7.grow _ _ _ hs _ (fun w8 g8 => ⟨_, rfl, ⟨Keep.of_grow [] g8, trivial⟩, rfl⟩)
  obtain rfl := hV
  clear hC hF w7
  simp only [List.set_cons_succ, List.set_cons_zero]
  refine wpV_end0 rfl rfl (by kernel_rfl) (fun w7 hC hF => ?_)
  obtain ⟨⟨w7, hk7, -⟩, rfl⟩ := hC
  obtain ⟨r1, r3, r4⟩ := store_arr (P := Try.prog) hVl hV1 (o4.keep hk7 (by simp)) i16
  unfold yields
  rw [exec_store r1]
  simp only [yUpon]
  exact hQ _ r3 ((Keep.of_nil hk7).trans r4)


set_option maxRecDepth 100000 in
set_option maxHeartbeats 1000000 in
theorem rnode15 (p ph q3 q4 : Nat) (ko : Option Addr) (kc : Nat) (key : List UInt8) (hkey : key.length = 32) (lv i : Nat) (h1 : lv ≤ 2147483647) (h2 : i ≤ 2147483647) (ao : Option Addr) (na ca : Nat) (bs : List B16) (hbl : bs.length ≤ 100) {c1 c2 c5 c7 c8 c9 c10 c11 c12 c13 c14 c15 c16 c17 c18 c19 c20 c21 c22 c23 c24 c25 c26 c27 c28 c29 c30 c31 c32 c33 c34 c35 c36 c37 c38 c39 c40 c41 c42 c43 c44 c45 c46 c47 c48 c49 c50 c51 c52 c53 c54 c55 c56 c57 c58 c59 c60 c61 c62 c63 c64 c65 c66 c67 c68 c69 c70 c71 c72 c73 c74 c75 c76 c77 c78 c79 c80 c81 c82 c83 c84 c85 c86 c87 c88 : Value} (w : World) (o3 : w.heap[q3]? = some (.cells #[.int .i64 (lv : Int), .int .i64 (i : Int)] 78 (0, 0))) (c0' : w.cell? ⟨p, 0, none⟩ = some (.pointer (some ⟨ph, 0, none⟩))) (c1' : w.cell? ⟨p, 1, none⟩ = some (.slice ko 32 kc)) (sm : Sm w ph Hs Ks) (sk : Sl w 1 ko 32 kc (key.map B)) (sa : Sl w 1 ao na ca ((bs.flatMap (·.b)).map B)) (o4 : Own w 33 1 (some ⟨q4, 0, none⟩) 16 16 (List.replicate 16 (.int .u8 0))) {Q : Exit → Act → World → Prop}
    (hQ : ∀ (w' : World), Own w' 33 1 (some ⟨q4, 0, none⟩) 16 16 ((nodeT key lv i bs).b.map B) → Keep [q4] w w' → ∀ {u77 u78 u79 u80 u81 u82 u83 u84 u85 u86 u87 u88 : Value}, Q .normal ⟨List.toArray (.pointer (some ⟨p, 0, none⟩) :: c1 :: c2 :: .pointer (some ⟨q3, 0, none⟩) :: .pointer (some ⟨q4, 0, none⟩) :: c5 :: .slice ao na ca :: c7 :: c8 :: c9 :: c10 :: c11 :: c12 :: c13 :: c14 :: c15 :: c16 :: c17 :: c18 :: c19 :: c20 :: c21 :: c22 :: c23 :: c24 :: c25 :: c26 :: c27 :: c28 :: c29 :: c30 :: c31 :: c32 :: c33 :: c34 :: c35 :: c36 :: c37 :: c38 :: c39 :: c40 :: c41 :: c42 :: c43 :: c44 :: c45 :: c46 :: c47 :: c48 :: c49 :: c50 :: c51 :: c52 :: c53 :: c54 :: c55 :: c56 :: c57 :: c58 :: c59 :: c60 :: c61 :: c62 :: c63 :: c64 :: c65 :: c66 :: c67 :: c68 :: c69 :: c70 :: c71 :: c72 :: c73 :: c74 :: c75 :: c76 :: u77 :: u78 :: u79 :: u80 :: u81 :: u82 :: u83 :: u84 :: u85 :: u86 :: u87 :: u88 :: []), []⟩ w') :
    Code.wp Try.prog (regionAt Try.f46 15) Q ⟨List.toArray (.pointer (some ⟨p, 0, none⟩) :: c1 :: c2 :: .pointer (some ⟨q3, 0, none⟩) :: .pointer (some ⟨q4, 0, none⟩) :: c5 :: .slice ao na ca :: c7 :: c8 :: c9 :: c10 :: c11 :: c12 :: c13 :: c14 :: c15 :: c16 :: c17 :: c18 :: c19 :: c20 :: c21 :: c22 :: c23 :: c24 :: c25 :: c26 :: c27 :: c28 :: c29 :: c30 :: c31 :: c32 :: c33 :: c34 :: c35 :: c36 :: c37 :: c38 :: c39 :: c40 :: c41 :: c42 :: c43 :: c44 :: c45 :: c46 :: c47 :: c48 :: c49 :: c50 :: c51 :: c52 :: c53 :: c54 :: c55 :: c56 :: c57 :: c58 :: c59 :: c60 :: c61 :: c62 :: c63 :: c64 :: c65 :: c66 :: c67 :: c68 :: c69 :: c70 :: c71 :: c72 :: c73 :: c74 :: c75 :: c76 :: c77 :: c78 :: c79 :: c80 :: c81 :: c82 :: c83 :: c84 :: c85 :: c86 :: c87 :: c88 :: []), []⟩ w := by
  have hml : maxLen = 9223372036854775807 := rfl
  have hn1 := eightC lv h1
  have hn2 := eightC i h2
  have q0 := KW.cell (fp := []) (p0 := tt) (obj_cell o3 0 rfl) (by simp)
  have q1 := KW.cell (fp := []) (p0 := tt) (obj_cell o3 1 rfl) (by simp)
  have hfl : (nodeP lv i bs).flatten.length ≤ 100000 := by
    have := flatB_len bs
    simp [nodeP, numS_len] at this ⊢
    omega
  have hmd : ∀ w', Grow w w' → ∀ lo vs, Sl w' 1 lo 4 4 vs → Pt w' vs (nodeP lv i bs) → ∀ R : Ending → World → Prop, (∀ w2, Grow w' w2 → R (.returned (.agg ((nodeT key lv i bs).b.map B).toArray)) w2) → Calls Try.prog 66 #[.pointer (some ⟨p, 0, none⟩), .slice lo 4 4] w' R :=
    fun w' g lo vs s pt R hR => madeC p ph ko kc key hkey lo 4 4 vs (nodeP lv i bs) rfl (by omega) hfl w' (g.cell c0') (g.cell c1') (sm.grow g) (sk.grow g) s pt R hR
  have hVl := bV_len (nodeT key lv i bs)
  have hV1 := B_one (nodeT key lv i bs).b
  obtain ⟨V, hV⟩ : ∃ V, V = (nodeT key lv i bs).b.map B := ⟨_, rfl⟩
  rw [← hV] at hVl hV1 hQ
  simp only [← hV] at hmd
  have hnp : nodeP lv i bs = [[110, 111, 100, 101], numS lv, numS i, bs.flatMap (·.b)] := rfl
  rw [hnp] at hmd
  obtain ⟨all, hall⟩ : ∃ all, all = bs.flatMap (·.b) := ⟨_, rfl⟩
  rw [← hall] at hmd sa
  clear hV hnp hall hfl o3 c0' c1'
  conv => arg 2; whnf
  refine wp_region_R (segF w [(1, fLit w.heap.size [110, 111, 100, 101]), (2, fBy [110, 111, 100, 101]), (5, fSl 1 8 ((numS lv).map B)), (8, fSl 1 8 ((numS i).map B)), (10, fPt4 w.heap.size [[110, 111, 100, 101], numS lv, numS i, all]), (11, fIs (.agg V.toArray))]) (by kernel_rfl) segF_drew ?_
  unfold segF
  repeat (first | (refine wpV_skp rfl rfl ?_; simp only [List.set_cons_succ, List.set_cons_zero]) | (refine wpV_look rfl rfl rfl rfl rfl (fun K hK => ?_); go_big_quiet_op; refine hK _ ?_; clear hK K))
  refine wpV_mk rfl rfl rfl [] (by kernel_rfl) (fun vs w7 hC hF => ?_) (fun vs v w7 hC hV hF => ?_)
  · obtain ⟨⟨w7, hk, -⟩, rfl⟩ := hC
    unfold yields
    go_simp
    exact ⟨growF (Grow.alloc w7 _), fLit_new w7 _ [110, 111, 100, 101] 4 rfl hk.size⟩
  obtain ⟨g1, r1, rfl, -, -⟩ := hV
  clear hC hF w7
  simp only [List.set_cons_succ, List.set_cons_zero]
  refine wpV_mk rfl rfl rfl [1] (by kernel_rfl) (fun vs w7 hC hF => ?_) (fun vs v w7 hC hV hF => ?_)
  · obtain ⟨⟨w7, hk, -⟩, rfl⟩ := hC
    obtain ⟨g, fr, e, hh, hg⟩ := (hF 1 (by simp)).2 rfl
    cases e
    obtain ⟨w8, hr, kf, kp⟩ := conv_lit 4 4 hh
    exact yields_run (exec_conv hr) ⟨⟨kf, _, kp, by simpa using hg⟩, fBy_lit hh (by decide) kf⟩
  obtain ⟨b1, d1, rfl, -⟩ := hV
  clear hC hF w7
  simp only [List.set_cons_succ, List.set_cons_zero]
  repeat (first | (refine wpV_skp rfl rfl ?_; simp only [List.set_cons_succ, List.set_cons_zero]) | (refine wpV_look rfl rfl rfl rfl rfl (fun K hK => ?_); go_big_quiet_op; refine hK _ ?_; clear hK K))
  refine wpV_mk rfl rfl rfl [] (by kernel_rfl) (fun vs w7 hC hF => yields_call (by kernel_rfl) ?_) (fun vs v w7 hC hV hF => ?_)
  · obtain ⟨⟨w7, hk, -⟩, rfl⟩ := hC
    exact hn1 w7 _ (fun ao c w8 o8 g8 _ => ⟨_, rfl, growF g8, ⟨_, _, rfl, o8.sl⟩⟩)
  obtain ⟨b4, d4, rfl, -⟩ := hV
  clear hC hF w7
  simp only [List.set_cons_succ, List.set_cons_zero]
  repeat (first | (refine wpV_skp rfl rfl ?_; simp only [List.set_cons_succ, List.set_cons_zero]) | (refine wpV_look rfl rfl rfl rfl rfl (fun K hK => ?_); go_big_quiet_op; refine hK _ ?_; clear hK K))
  refine wpV_mk rfl rfl rfl [] (by kernel_rfl) (fun vs w7 hC hF => yields_call (by kernel_rfl) ?_) (fun vs v w7 hC hV hF => ?_)
  · obtain ⟨⟨w7, hk, -⟩, rfl⟩ := hC
    exact hn2 w7 _ (fun ao c w8 o8 g8 _ => ⟨_, rfl, growF g8, ⟨_, _, rfl, o8.sl⟩⟩)
  obtain ⟨b7, d7, rfl, -⟩ := hV
  clear hC hF w7
  simp only [List.set_cons_succ, List.set_cons_zero]
  repeat (first | (refine wpV_skp rfl rfl ?_; simp only [List.set_cons_succ, List.set_cons_zero]) | (refine wpV_look rfl rfl rfl rfl rfl (fun K hK => ?_); go_big_quiet_op; refine hK _ ?_; clear hK K))
  refine wpV_mk rfl rfl rfl [2, 5, 8] (by kernel_rfl) (fun vs w7 hC hF => ?_) (fun vs v w7 hC hV hF => ?_)
  · obtain ⟨⟨w7, hk, -⟩, rfl⟩ := hC
    obtain ⟨bo, d, e, hs⟩ := (hF 2 (by simp)).1.1.2 rfl
    obtain ⟨bo2, d2, e2, hs2⟩ := (hF 5 (by simp)).1.2 rfl
    obtain ⟨bo3, d3, e3, hs3⟩ := (hF 8 (by simp)).2 rfl
    cases e
    cases e2
    cases e3
    have g := Grow.alloc w7 (.cells #[.slice b1 4 d1, .slice b4 8 d4, .slice b7 8 d7, .slice ao na ca] 27)
    obtain ⟨s9, p9⟩ := four_parts (alloc_new w7 (.cells #[.slice b1 4 d1, .slice b4 8 d4, .slice b7 8 d7, .slice ao na ca] 27)) (hs.grow g) (hs2.grow g) (hs3.grow g) ((sa.keep hk (by simp)).grow g)
    unfold yields
    go_simp
    exact ⟨growF g, _, _, rfl, s9, p9, hk.size⟩
  obtain ⟨g9, vs9, rfl, -⟩ := hV
  clear hC hF w7
  simp only [List.set_cons_succ, List.set_cons_zero]
  refine wpV_mk rfl rfl rfl [10] (by kernel_rfl) (fun vs w7 hC hF => yields_call (by kernel_rfl) ?_) (fun vs v w7 hC hV hF => ?_)
  · obtain ⟨⟨w7, hk7, -⟩, rfl⟩ := hC
    obtain ⟨g, vs, e, s9, p9, -⟩ := (hF 10 (by simp)).2 rfl
    cases e
    exact hmd w7 hk7.grow _ _ s9 p9 _ (fun w8 g8 => ⟨_, rfl, growF g8, rfl⟩)
  obtain rfl := hV
  clear hC hF w7
  simp only [List.set_cons_succ, List.set_cons_zero]
  refine wpV_end0 rfl rfl (by kernel_rfl) (fun w7 hC hF => ?_)
  obtain ⟨⟨w7, hk7, -⟩, rfl⟩ := hC
  obtain ⟨r1, r3, r4⟩ := store_arr (P := Try.prog) hVl hV1 (o4.keep hk7 (by simp)) i16
  unfold yields
  rw [exec_store r1]
  simp only [yUpon]
  exact hQ _ r3 ((Keep.of_nil hk7).trans r4)
end Go.Proofs.Ytfmnkcmicbnfdaa

namespace Go.Proofs.Ytfmnkcmicbnfdaa
open Go Go.RowKit

theorem wid0 (n : Nat) (h1 : 1 ≤ n) (h2 : n ≤ 65536) : wid n 0 = n := by
  rw [show (0 : Int) = ((0 : Nat) : Int) from rfl, wid_lw n 0 h1 h2, lw_zero]

/-- Where there is none. -/
theorem rNodeOut {w : World} {g : Tgs} {key : List UInt8} {tx : Nat → List UInt8} {hs : Nat → Bool} (a : Tg w g key tx hs) (hn2 : g.n ≤ 1000) (level i : Int) (ho : level < 0 ∨ i < 0 ∨ (wid g.n level : Int) ≤ i) (R : Ending → World → Prop) (hR : ∀ w', Grow w w' → R (.returned (.agg (B0.b.map B).toArray)) w') :
    Calls Try.prog 46 #[.pointer (some ⟨g.p, 0, none⟩), .agg #[.int .i64 level, .int .i64 i]] w R := by
  have hml : maxLen = 9223372036854775807 := rfl
  have hwf : (Lit.int .i64 (g.n : Int)).wf = true := by simp [Lit.wf, IntKind.min, IntKind.max, IntKind.signed, IntKind.bits]; omega
  have o3 := alloc_new w (.cells #[.int .i64 level, .int .i64 i] 78)
  have g3 := Grow.alloc w (.cells #[.int .i64 level, .int .i64 i] 78)
  have z3 : (w.alloc (.cells #[.int .i64 level, .int .i64 i] 78)).heap.size = w.heap.size + 1 := by simp
  have o4 : Own ((w.alloc (.cells #[.int .i64 level, .int .i64 i] 78)).alloc (.cells (List.replicate 16 (.int .u8 0)).toArray 33)) 33 1 (some ⟨(w.alloc (.cells #[.int .i64 level, .int .i64 i] 78)).heap.size, 0, none⟩) 16 16 (List.replicate 16 (.int .u8 0)) := own_new _ _ rfl (by omega)
  have g4 := Grow.alloc (w.alloc (.cells #[.int .i64 level, .int .i64 i] 78)) (.cells (List.replicate 16 (.int .u8 0)).toArray 33)
  have o34 := g4.block o3
  rw [z3] at o4
  have G := g3.trans g4
  have a4 := a.grow G
  have hsz : (Try.prog.info? 33).map (·.size) = some (B0.b.map B).toArray.size := by rw [List.size_toArray, bV_len]; exact i16
  go_enter Try.func46, Try.ntmps46
  go_upto_region 1 with (fail)
  change Code.wp _ _ _ ⟨_, _⟩ ((w.alloc (.cells #[.int .i64 level, .int .i64 i] 78)).alloc (.cells (List.replicate 16 (.int .u8 0)).toArray 33))
  generalize (w.alloc (.cells #[.int .i64 level, .int .i64 i] 78)).alloc (.cells (List.replicate 16 (.int .u8 0)).toArray 33) = w4 at *
  obtain ⟨q3, hq3⟩ : ∃ q, q = w.heap.size := ⟨_, rfl⟩
  obtain ⟨q4, hq4⟩ : ∃ q, q = w.heap.size + 1 := ⟨_, rfl⟩
  rw [← hq4] at o4
  rw [← hq3] at o34
  rw [show w.heap.size = q3 from hq3.symm, show q3 + 1 = q4 by omega]
  have hz4 : w.heap.size ≤ q4 := by omega
  have ct := obj_cell a4.obj 2 rfl
  clear o3 g3 z3 g4 hq3 hq4
  go_upto_region 2 with (fail)
  clear ct
  have hz : B0.b.map B = List.replicate 16 (.int .u8 0) := rfl
  rw [hz] at hR hsz
  have fin : ∀ w5, Grow w4 w5 → Own w5 33 1 (some ⟨q4, 0, none⟩) 16 16 (List.replicate 16 (.int .u8 0)) ∧ w5.there q4 0 (List.replicate 16 (Value.int .u8 0)).toArray.size ∧ (List.replicate 16 (Value.int .u8 0)).toArray.all (·.oneCell') = true ∧ Own (w5.setCells q4 0 (List.replicate 16 (.int .u8 0))) 33 1 (some ⟨q4, 0, none⟩) 16 16 (List.replicate 16 (.int .u8 0)) ∧ R (.returned (.agg (List.replicate 16 (Value.int .u8 0)).toArray)) (w5.setCells q4 0 (List.replicate 16 (.int .u8 0))) := fun w5 g5 => by
    have o5 := o4.grow g5
    obtain ⟨r1, r3, r4⟩ := store_arr (P := Try.prog) (X := List.replicate 16 (.int .u8 0)) (by simp) (by simp [Value.oneCell']) o5 i16
    exact ⟨o5, own_there o5 _ (by simp), one_all (by simp [Value.oneCell']), r3, hR _ ((G.trans g5).then r4 (fun x hx => by simp at hx; omega))⟩
  clear hR
  by_cases hl : level < 0
  · refine rnode2a q3 g.n level i hl w4 o34 ?_
    intro w5 g5
    intros
    obtain ⟨-, th, hal, r3, hf⟩ := fin w5 g5
    clear fin
    go_wp2_with (refine wpList_store_mid rfl 33 _ _ rfl q4 0 (List.replicate 16 (.int .u8 0)).toArray rfl rfl th hsz hal ?_)
    simp only [List.replicate] at r3 hf
    exact bodyPost_ret (ret_bytes Try.results46 _ _ q4 _ _ _ 16 rfl r3 (by decide) Try.underlying33 rfl i16) rfl hf
  · by_cases hi : i < 0
    · refine rnode2b q3 g.n level i (by omega) hi w4 o34 ?_
      intro w5 g5
      intros
      obtain ⟨-, th, hal, r3, hf⟩ := fin w5 g5
      clear fin
      go_wp2_with (refine wpList_store_mid rfl 33 _ _ rfl q4 0 (List.replicate 16 (.int .u8 0)).toArray rfl rfl th hsz hal ?_)
      simp only [List.replicate] at r3 hf
      exact bodyPost_ret (ret_bytes Try.results46 _ _ q4 _ _ _ 16 rfl r3 (by decide) Try.underlying33 rfl i16) rfl hf
    · refine rnode2c q3 g.n (wid g.n level) level i true (by omega) (by omega) (decide_eq_true (by omega)) w4 o34 (fun w R hR => rWidthC g.n level hwf w R hR) ?_
      intro w5 g5
      intros
      obtain ⟨-, th, hal, r3, hf⟩ := fin w5 g5
      clear fin
      go_wp2_with (refine wpList_store_mid rfl 33 _ _ rfl q4 0 (List.replicate 16 (.int .u8 0)).toArray rfl rfl th hsz hal ?_)
      simp only [List.replicate] at r3 hf
      exact bodyPost_ret (ret_bytes Try.results46 _ _ q4 _ _ _ 16 rfl r3 (by decide) Try.underlying33 rfl i16) rfl hf

set_option maxRecDepth 100000 in
set_option maxHeartbeats 2000000 in
theorem rNodeIn (g : Tgs) (key : List UInt8) (hkey : key.length = 32) (tx : Nat → List UInt8) (htx : ∀ i, (tx i).length ≤ 1000) (hs : Nat → Bool) (hn1 : 1 ≤ g.n) (hn2 : g.n ≤ 1000) : ∀ (l i : Nat), i < lw g.n l → ∀ (w : World), Tg w g key tx hs → ∀ R : Ending → World → Prop, (∀ w', Grow w w' → R (.returned (.agg ((nd key g.n (lvD key tx hs) l i).b.map B).toArray)) w') →
    Calls Try.prog 46 #[.pointer (some ⟨g.p, 0, none⟩), .agg #[.int .i64 (l : Int), .int .i64 (i : Int)]] w R := by
  intro l
  have hml : maxLen = 9223372036854775807 := rfl
  have hwf : (Lit.int .i64 (g.n : Int)).wf = true := by simp [Lit.wf, IntKind.min, IntKind.max, IntKind.signed, IntKind.bits]; omega
  induction l with
  | zero =>
    intro i hi w a R hR
    rw [lw_zero] at hi
    rw [nd_zero] at hR
    show Calls Try.prog 46 #[.pointer (some ⟨g.p, 0, none⟩), .agg #[.int .i64 0, .int .i64 (i : Int)]] w R
    have o3 := alloc_new w (.cells #[.int .i64 0, .int .i64 (i : Int)] 78)
    have g3 := Grow.alloc w (.cells #[.int .i64 0, .int .i64 (i : Int)] 78)
    have z3 : (w.alloc (.cells #[.int .i64 0, .int .i64 (i : Int)] 78)).heap.size = w.heap.size + 1 := by simp
    have o4 : Own ((w.alloc (.cells #[.int .i64 0, .int .i64 (i : Int)] 78)).alloc (.cells (List.replicate 16 (.int .u8 0)).toArray 33)) 33 1 (some ⟨(w.alloc (.cells #[.int .i64 0, .int .i64 (i : Int)] 78)).heap.size, 0, none⟩) 16 16 (List.replicate 16 (.int .u8 0)) := own_new _ _ rfl (by omega)
    have g4 := Grow.alloc (w.alloc (.cells #[.int .i64 0, .int .i64 (i : Int)] 78)) (.cells (List.replicate 16 (.int .u8 0)).toArray 33)
    have o34 := g4.block o3
    rw [z3] at o4
    have G := g3.trans g4
    have a4 := a.grow G
    go_enter Try.func46, Try.ntmps46
    go_upto_region 1 with (fail)
    change Code.wp _ _ _ ⟨_, _⟩ ((w.alloc (.cells #[.int .i64 0, .int .i64 (i : Int)] 78)).alloc (.cells (List.replicate 16 (.int .u8 0)).toArray 33))
    generalize (w.alloc (.cells #[.int .i64 0, .int .i64 (i : Int)] 78)).alloc (.cells (List.replicate 16 (.int .u8 0)).toArray 33) = w4 at *
    obtain ⟨q3, hq3⟩ : ∃ q, q = w.heap.size := ⟨_, rfl⟩
    obtain ⟨q4, hq4⟩ : ∃ q, q = w.heap.size + 1 := ⟨_, rfl⟩
    rw [← hq4] at o4
    rw [← hq3] at o34
    rw [show w.heap.size = q3 from hq3.symm, show q3 + 1 = q4 by omega]
    have hz4 : w.heap.size ≤ q4 := by omega
    have ct := obj_cell a4.obj 2 rfl
    have cp := obj_cell o34 0 rfl
    clear o3 g3 z3 g4 hq3 hq4
    go_upto_region 2 with (fail)
    clear ct
    refine rnode2c q3 g.n (wid g.n 0) 0 i false (by omega) (by omega) (decide_eq_false (by rw [wid0 g.n hn1 (by omega)]; omega)) w4 o34 (fun w R hR => rWidthC g.n 0 hwf w R hR) ?_
    intro w5 g5
    intros
    have cp5 := g5.cell cp
    clear cp
    go_upto_region 5 with (fail)
    refine rnode5 g q3 i 0 hi hn2 w5 (a4.grow g5) (g5.block o34) ?_
    intro w6 g6
    intros
    have g56 := g5.trans g6
    by_cases hh : hs i = true
    · have e : lvD key tx hs i = leafT key i (tx i) := if_pos hh
      rw [e] at hR
      rw [hh]
      simp only [Bool.not_true]
      go_upto_region 7 with (fail)
      refine rnode7 g q3 q4 i 0 hi hn2 hkey htx w6 (a4.grow g56) (g56.block o34) (o4.grow g56) ?_
      intro w7 o7 k7
      intros
      have hf := hR _ ((G.trans g56).then k7 (fun x hx => by simp at hx; omega))
      obtain ⟨V, hV⟩ : ∃ V, V = (leafT key i (tx i)).b.map B := ⟨_, rfl⟩
      rw [← hV] at o7 hf
      clear hR hV e hh
      go_wp2_with fail
      exact bodyPost_ret (v := .agg V.toArray) (ret_bytes Try.results46 _ _ q4 V _ _ 16 rfl o7 (by decide) Try.underlying33 rfl i16) rfl hf
    · have e : lvD key tx hs i = B0 := if_neg hh
      have hh' : hs i = false := by simpa using hh
      rw [e] at hR
      rw [hh']
      simp only [Bool.not_false]
      have hz : B0.b.map B = List.replicate 16 (.int .u8 0) := rfl
      have hsz : (Try.prog.info? 33).map (·.size) = some (B0.b.map B).toArray.size := by rw [List.size_toArray, bV_len]; exact i16
      rw [hz] at hR hsz
      have o6 := o4.grow g56
      obtain ⟨r1, r3, r4⟩ := store_arr (P := Try.prog) (X := List.replicate 16 (.int .u8 0)) (by simp) (by simp [Value.oneCell']) o6 i16
      have th := own_there o6 (List.replicate 16 (Value.int .u8 0)).toArray.size (by simp)
      have hal : (List.replicate 16 (Value.int .u8 0)).toArray.all (·.oneCell') = true := one_all (by simp [Value.oneCell'])
      have hf := hR _ ((G.trans g56).then r4 (fun x hx => by simp at hx; omega))
      clear hR r1 r4 hh hh' e o6 cp5
      go_wp2_with (refine wpList_store_mid rfl 33 _ _ rfl q4 0 (List.replicate 16 (.int .u8 0)).toArray rfl rfl th hsz hal ?_)
      simp only [List.replicate] at r3 hf
      exact bodyPost_ret (ret_bytes Try.results46 _ _ q4 _ _ _ 16 rfl r3 (by decide) Try.underlying33 rfl i16) rfl hf
  | succ l ih =>
    intro i hi w a R hR
    rw [nd_succ] at hR
    obtain ⟨lv, hlv⟩ : ∃ lv, lv = l + 1 := ⟨_, rfl⟩
    rw [← hlv] at hi hR ⊢
    have Hlv := Lib.hid hlv
    have hl0 : ((lv : Int) == 0) = false := by simp; omega
    have hwle := lw_le g.n lv
    have hwle2 := lw_le g.n l
    have hlvL : lv ≤ 1001 := by
      rcases Nat.lt_or_ge lv (wl g.n).length with h | h
      · have := wl_len g.n; omega
      · exfalso
        have : lw g.n lv = 0 := by
          unfold lw
          rw [List.getD_eq_getElem?_getD, List.getElem?_eq_none h]
          rfl
        omega
    have hk : ∀ w' (R : Ending → World → Prop), (∀ ao c w2, Sl w2 2 ao (kn g.n l i) c (plV l i (kn g.n l i)) → Grow w' w2 → R (.returned (.slice ao (kn g.n l i) c)) w2) → Calls Try.prog 78 #[.int .i64 (g.n : Int), .agg #[.int .i64 (lv : Int), .int .i64 (i : Int)]] w' R := fun w' R hR => by
      rw [hlv] at hi ⊢
      refine rKidsC g.n ((l + 1 : Nat) : Int) i hwf w' R ?_
      rw [kids_eq g.n l i hn1 (by omega) hi]
      intro ao c w2 o g _
      have := o.sl
      rw [List.length_map, List.length_range] at this ⊢
      exact hR ao c w2 this g
    have hK := kn_le g.n l i
    have hkn : ∀ j, j < kn g.n l i → 4 * i + j < lw g.n l := fun j hj => by unfold kn at hj; omega
    obtain ⟨K, hKK⟩ : ∃ K, K = kn g.n l i := ⟨_, rfl⟩
    obtain ⟨T, hT⟩ : ∃ T, T = nd key g.n (lvD key tx hs) l := ⟨_, rfl⟩
    have hkB : kidsB g.n (nd key g.n (lvD key tx hs)) l i = (List.range K).map fun j => T (4 * i + j) := by rw [hKK, hT]; rfl
    rw [hkB] at hR
    rw [← hT] at ih
    rw [← hKK] at hK hkn
    simp only [← hKK] at hk
    clear hkB hKK hT hlv
    have o3 := alloc_new w (.cells #[.int .i64 (lv : Int), .int .i64 (i : Int)] 78)
    have g3 := Grow.alloc w (.cells #[.int .i64 (lv : Int), .int .i64 (i : Int)] 78)
    have z3 : (w.alloc (.cells #[.int .i64 (lv : Int), .int .i64 (i : Int)] 78)).heap.size = w.heap.size + 1 := by simp
    have o4 : Own ((w.alloc (.cells #[.int .i64 (lv : Int), .int .i64 (i : Int)] 78)).alloc (.cells (List.replicate 16 (.int .u8 0)).toArray 33)) 33 1 (some ⟨(w.alloc (.cells #[.int .i64 (lv : Int), .int .i64 (i : Int)] 78)).heap.size, 0, none⟩) 16 16 (List.replicate 16 (.int .u8 0)) := own_new _ _ rfl (by omega)
    have g4 := Grow.alloc (w.alloc (.cells #[.int .i64 (lv : Int), .int .i64 (i : Int)] 78)) (.cells (List.replicate 16 (.int .u8 0)).toArray 33)
    have o34 := g4.block o3
    rw [z3] at o4
    have G := g3.trans g4
    have a4 := a.grow G
    go_enter Try.func46, Try.ntmps46
    go_upto_region 1 with (fail)
    change Code.wp _ _ _ ⟨_, _⟩ ((w.alloc (.cells #[.int .i64 (lv : Int), .int .i64 (i : Int)] 78)).alloc (.cells (List.replicate 16 (.int .u8 0)).toArray 33))
    generalize (w.alloc (.cells #[.int .i64 (lv : Int), .int .i64 (i : Int)] 78)).alloc (.cells (List.replicate 16 (.int .u8 0)).toArray 33) = w4 at *
    obtain ⟨q3, hq3⟩ : ∃ q, q = w.heap.size := ⟨_, rfl⟩
    obtain ⟨q4, hq4⟩ : ∃ q, q = w.heap.size + 1 := ⟨_, rfl⟩
    rw [← hq4] at o4
    rw [← hq3] at o34
    rw [show w.heap.size = q3 from hq3.symm, show q3 + 1 = q4 by omega]
    have hz4 : w.heap.size ≤ q4 := by omega
    have ct := obj_cell a4.obj 2 rfl
    have cp := obj_cell o34 0 rfl
    have cp1 := obj_cell o34 1 rfl
    clear o3 g3 z3 g4 hq3 hq4
    go_upto_region 2 with (fail)
    clear ct
    refine rnode2c q3 g.n (wid g.n lv) lv i false (by omega) (by omega) (decide_eq_false (by rw [wid_lw g.n lv hn1 (by omega)]; omega)) w4 o34 (fun w R hR => rWidthC g.n lv hwf w R hR) ?_
    intro w5 g5
    intros
    have cp5 := g5.cell cp
    have cp6 := g5.cell cp1
    clear cp cp1
    go_wp2_with fail
    refine hk w5 _ ?_
    clear hk cp5 cp6
    intro ko kc w6 sk6 g6
    have g56 := g5.trans g6
    have hks := sk6.hle
    have hks2 := sk6.hcap
    go_wp2_with fail
    go_loopw [6, 8] (fun o vi wr => ∃ (j : Nat) (ao : Option Addr) (na cap : Nat), vi = .int .i64 (j : Int) ∧ j ≤ K ∧ o = .slice ao na cap ∧ Hid (na = 16 * j) ∧ na ≤ 64 ∧ Own wr 5 1 ao na cap ((((List.range j).map fun j => T (4 * i + j)).flatMap (·.b)).map B) ∧ Grow w6 wr ∧ Fr (blk ao) w6) (fun _ vi _ => K - (intOf vi).toNat)
    case atStart => exact ⟨0, none, 0, 0, rfl, by omega, rfl, Lib.hid rfl, by omega, Own.none _ _ _, Grow.refl _, by simp [Fr, blk]⟩
    case round =>
      obtain ⟨j, ao, na, cap, rfl, hj, rfl, hna, hna2, ho, hg, hf⟩ := hrel
      have g6r := g56.trans hg
      by_cases hlt : j < K
      · obtain ⟨gk, offk, ek, hck⟩ := (sk6.grow hg).hat (by omega)
        subst ek
        obtain ⟨d0, d1⟩ := plV_at hck j hlt
        have hixl := hkn j hlt
        have htk : (((List.range (j + 1)).map fun j => T (4 * i + j)).flatMap (·.b)) = (((List.range j).map fun j => T (4 * i + j)).flatMap (·.b)) ++ (T (4 * i + j)).b := by
          rw [List.range_succ, List.map_append, List.flatMap_append]
          simp
        obtain ⟨ix, hix⟩ : ∃ ix, ix = 4 * i + j := ⟨_, rfl⟩
        rw [← hix] at d1 hixl htk
        have hn := ih ix hixl wr (a4.grow g6r)
        have hVl := bV_len (T ix)
        have hV1 := B_one (T ix).b
        obtain ⟨V, hV⟩ : ∃ V, V = (T ix).b.map B := ⟨_, rfl⟩
        rw [← hV] at hVl hV1
        simp only [← hV] at hn
        have HV := Lib.hid hV
        clear hV hix hck
        go_wp2_with fail
        refine hn _ ?_
        clear hn d0 d1
        intro w7 g7
        obtain ⟨o9, ga1, th1, al1⟩ := newvar (t := 33) w7 (.int .u8 0) rfl (by omega) hVl hV1
        have hszF : (Try.prog.info? 33).map (·.size) = some V.toArray.size := by rw [List.size_toArray, hVl]; exact i16
        go_upto_region 14 with (refine wpList_store_mid rfl 33 _ _ rfl w7.heap.size 0 V.toArray rfl rfl th1 hszF al1 ?_)
        change Code.wp _ _ _ ⟨_, _⟩ ((w7.alloc (.cells (List.replicate 16 (.int .u8 0)).toArray 33)).setCells w7.heap.size 0 V)
        have ho3 := ho.grow (g7.trans ga1)
        have sv := o9.sl
        obtain ⟨q9, hq9⟩ : ∃ q, q = w7.heap.size := ⟨_, rfl⟩
        generalize (w7.alloc (.cells (List.replicate 16 (.int .u8 0)).toArray 33)).setCells w7.heap.size 0 V = w8 at *
        rw [← hq9] at sv ⊢
        have g8 := hg.trans (g7.trans ga1)
        have hx16 : 16 * (j + 1) = na + 16 := by have := hna.out; omega
        have hx17 : na + 16 ≤ 64 := by omega
        have Hx := Lib.hid hx16
        clear hq9 th1 al1 hszF o9 ho hx16 ga1 g7 hg
        go_wp2_with (at_builtin; refine wpList_app TBy rfl rfl ho3 sv (by omega) (by omega) ?_; intro ao' cap' w9 hown _ hkeep hblk)
        rw [HV.out, ← List.map_append, ← htk] at hown
        have hf9 : Fr (blk ao') w6 := fun y hy => by
          rcases hblk y hy with h | h
          · exact hf y h
          · have := g8.size; omega
        have g9 := g8.then hkeep hf
        clear hkeep hblk ho3 sv g8
        go_wp2_with fail
        go_roundw
        case rel => exact ⟨j + 1, ao', na + 16, cap', by go_num, by omega, rfl, Lib.hid Hx.out.symm, hx17, hown, g9, hf9⟩
        case measure => simp [intOf]; omega
      · obtain rfl : j = K := by omega
        have hbl : ((List.range j).map fun j => T (4 * i + j)).length ≤ 100 := by simp; omega
        go_upto_region 15 with (fail)
        refine rnode15 g.p g.ph q3 q4 g.ko g.kc key hkey lv i (by omega) (by omega) ao na cap ((List.range j).map fun j => T (4 * i + j)) hbl wr (g6r.block o34) ((a4.grow g6r) |> fun a => obj_cell a.obj 0 rfl) ((a4.grow g6r) |> fun a => obj_cell a.obj 1 rfl) (a4.grow g6r).sm (a4.grow g6r).key ho.sl (o4.grow g6r) ?_
        intro w7 o7 k7
        intros
        have hf := hR _ ((G.trans g6r).then k7 (fun x hx => by simp at hx; omega))
        obtain ⟨V, hV⟩ : ∃ V, V = (nodeT key lv i ((List.range j).map fun j => T (4 * i + j))).b.map B := ⟨_, rfl⟩
        rw [← hV] at o7 hf
        clear hR hV ih
        go_wp2_with fail
        exact bodyPost_ret (v := .agg V.toArray) (ret_bytes Try.results46 _ _ q4 V _ _ 16 rfl o7 (by decide) Try.underlying33 rfl i16) rfl hf
end Go.Proofs.Ytfmnkcmicbnfdaa

namespace Go.Proofs.Ytfmnkcmicbnfdaa
open Go Go.RowKit

/-- A node's tag, whatever the place. -/
theorem rNodeC (g : Tgs) (key : List UInt8) (hkey : key.length = 32) (tx : Nat → List UInt8) (htx : ∀ i, (tx i).length ≤ 1000) (hs : Nat → Bool) (hn1 : 1 ≤ g.n) (hn2 : g.n ≤ 1000) {w : World} (a : Tg w g key tx hs) (level i : Int) (R : Ending → World → Prop) (hR : ∀ w', Grow w w' → R (.returned (.agg ((nodeA g.n (nd key g.n (lvD key tx hs)) level i).b.map B).toArray)) w') :
    Calls Try.prog 46 #[.pointer (some ⟨g.p, 0, none⟩), .agg #[.int .i64 level, .int .i64 i]] w R := by
  by_cases ho : level < 0 ∨ i < 0 ∨ (wid g.n level : Int) ≤ i
  · have e : nodeA g.n (nd key g.n (lvD key tx hs)) level i = B0 := by
      unfold nodeA
      refine if_neg fun h => ?_
      have := wid_level (n := g.n) (level := level) (by omega)
      omega
    rw [e] at hR
    exact rNodeOut a hn2 level i ho R hR
  · obtain ⟨l, rfl⟩ : ∃ l : Nat, level = l := ⟨level.toNat, by omega⟩
    obtain ⟨k, rfl⟩ : ∃ k : Nat, i = k := ⟨i.toNat, by omega⟩
    have hw : wid g.n (l : Int) = lw g.n l := wid_lw g.n l hn1 (by omega)
    have e : nodeA g.n (nd key g.n (lvD key tx hs)) l k = nd key g.n (lvD key tx hs) l k := by
      unfold nodeA
      rw [if_pos ⟨by omega, by omega⟩]
      simp
    rw [e] at hR
    exact rNodeIn g key hkey tx htx hs hn1 hn2 l k (by omega) w a R hR

set_option maxRecDepth 100000 in
set_option maxHeartbeats 1000000 in
theorem rRootC (g : Tgs) (key : List UInt8) (hkey : key.length = 32) (tx : Nat → List UInt8) (htx : ∀ i, (tx i).length ≤ 1000) (hs : Nat → Bool) (hn1 : 1 ≤ g.n) (hn2 : g.n ≤ 1000) {w : World} (a : Tg w g key tx hs) (R : Ending → World → Prop) (hR : ∀ w', Grow w w' → R (.returned (.agg ((rootA g.n (nd key g.n (lvD key tx hs))).b.map B).toArray)) w') :
    Calls Try.prog 39 #[.pointer (some ⟨g.p, 0, none⟩)] w R := by
  have hml : maxLen = 9223372036854775807 := rfl
  have hwf : (Lit.int .i64 (g.n : Int)).wf = true := by simp [Lit.wf, IntKind.min, IntKind.max, IntKind.signed, IntKind.bits]; omega
  have hwd : wide (g.n : Int) = wl g.n := by unfold wide; rw [if_neg (by omega)]; rfl
  have hwl := wl_len g.n
  have o4 : Own (w.alloc (.cells (List.replicate 16 (.int .u8 0)).toArray 33)) 33 1 (some ⟨w.heap.size, 0, none⟩) 16 16 (List.replicate 16 (.int .u8 0)) := own_new _ _ rfl (by omega)
  have g4 := Grow.alloc w (.cells (List.replicate 16 (.int .u8 0)).toArray 33)
  have hl := fun w => rWidthsC g.n hwf w
  rw [hwd] at hl
  have hnd := fun w' (g' : Grow w w') => rNodeC g key hkey tx htx hs hn1 hn2 (a.grow g') (((wl g.n).length : Int) - 1) 0
  obtain ⟨L, hL⟩ : ∃ L, L = (wl g.n).length := ⟨_, rfl⟩
  rw [← hL] at hwl
  have hr : rootA g.n (nd key g.n (lvD key tx hs)) = nodeA g.n (nd key g.n (lvD key tx hs)) (((wl g.n).length : Int) - 1) 0 := rfl
  rw [hr] at hR
  rw [← hL] at hR
  simp only [← hL] at hl hnd
  have hVl := bV_len (nodeA g.n (nd key g.n (lvD key tx hs)) ((L : Int) - 1) 0)
  have hV1 := B_one (nodeA g.n (nd key g.n (lvD key tx hs)) ((L : Int) - 1) 0).b
  obtain ⟨V, hV⟩ : ∃ V, V = (nodeA g.n (nd key g.n (lvD key tx hs)) ((L : Int) - 1) 0).b.map B := ⟨_, rfl⟩
  rw [← hV] at hVl hV1
  simp only [← hV] at hnd hR
  have hsz : (Try.prog.info? 33).map (·.size) = some V.toArray.size := by rw [List.size_toArray, hVl]; exact i16
  clear hV hL hr hwd
  go_enter Try.func39, Try.ntmps39
  have ct := obj_cell (a.grow g4).obj 2 rfl
  go_upto_region 1 with (fail)
  change Code.wp _ _ _ ⟨_, _⟩ (w.alloc (.cells (List.replicate 16 (.int .u8 0)).toArray 33))
  obtain ⟨q, hq⟩ : ∃ q, q = w.heap.size := ⟨_, rfl⟩
  have hqz := Nat.le_of_eq hq.symm
  generalize w.alloc (.cells (List.replicate 16 (.int .u8 0)).toArray 33) = w4 at *
  rw [← hq] at o4 ⊢
  clear hq
  go_wp2_with fail
  refine hl _ _ ?_
  clear ct
  clear hl
  intro xo xc w3 _ g3
  have hn3 := hnd w3 (g4.trans g3)
  clear hnd
  go_wp2_with fail
  refine hn3 _ ?_
  clear hn3
  intro w5 g5
  have o5 := o4.grow (g3.trans g5)
  obtain ⟨r1, r3, r4⟩ := store_arr (P := Try.prog) hVl hV1 o5 i16
  have th := own_there o5 V.toArray.size (by simpa using hVl)
  have hal := one_all hV1
  have hf := hR _ (((g4.trans g3).trans g5).then r4 (fun x hx => by simp at hx; omega))
  clear hR r1 o5 r4
  go_wp2_with (refine wpList_store_mid rfl 33 _ _ rfl q 0 V.toArray rfl rfl th hsz hal ?_)
  exact bodyPost_ret (v := .agg V.toArray) (ret_bytes Try.results39 _ _ q V _ _ 16 rfl r3 (by decide) Try.underlying33 rfl i16) rfl hf


set_option maxRecDepth 100000 in
set_option maxHeartbeats 2000000 in
theorem rProofC (g : Tgs) (key : List UInt8) (hkey : key.length = 32) (tx : Nat → List UInt8) (htx : ∀ i, (tx i).length ≤ 1000) (hs : Nat → Bool) (hn1 : 1 ≤ g.n) (hn2 : g.n ≤ 1000) {w : World} (a : Tg w g key tx hs) (leaf : Int) (R : Ending → World → Prop)
    (hR : ∀ ao n c w', n = (proofA g.n (nd key g.n (lvD key tx hs)) (beside g.n leaf)).length → Own w' 33 16 ao n c (bVs (proofA g.n (nd key g.n (lvD key tx hs)) (beside g.n leaf))) → Grow w w' → Fr (blk ao) w → R (.returned (.slice ao n c)) w') :
    Calls Try.prog 40 #[.pointer (some ⟨g.p, 0, none⟩), .int .i64 leaf] w R := by
  have hml : maxLen = 9223372036854775807 := rfl
  have hwf : (Lit.int .i64 (g.n : Int)).wf = true := by simp [Lit.wf, IntKind.min, IntKind.max, IntKind.signed, IntKind.bits]; omega
  have hb := rBesideC g.n leaf hwf w
  have h4 := beside_four g.n leaf
  have hbl := beside_len g.n hn2 leaf
  have hnd := fun w' (g' : Grow w w') => rNodeC g key hkey tx htx hs hn1 hn2 (a.grow g')
  have ct := obj_cell a.obj 2 rfl
  obtain ⟨T, hT⟩ : ∃ T, T = nd key g.n (lvD key tx hs) := ⟨_, rfl⟩
  rw [← hT] at hR
  simp only [← hT] at hnd
  obtain ⟨ls, hls⟩ : ∃ ls, ls = beside g.n leaf := ⟨_, rfl⟩
  rw [← hls] at hb h4 hbl hR
  obtain ⟨N, hN⟩ : ∃ N, N = ls.length := ⟨_, rfl⟩
  rw [← hN] at hb hbl
  have HN := Lib.hid hN
  clear hls hN hT
  go_enter Try.func40, Try.ntmps40
  go_wp2_with fail
  refine hb _ ?_
  clear hb ct
  intro bo bc vs w2 ob rw2 g2
  have hbs := ob.sl.hle
  have hbs2 := ob.sl.hcap
  go_wp2_with fail
  go_loopw [5, 7] (fun o vi wr => ∃ (i : Nat) (ao : Option Addr) (m c : Nat), vi = .int .i64 (i : Int) ∧ i ≤ N ∧ o = .slice ao m c ∧ m ≤ 4 * i ∧ Hid (m = (proofA g.n T (ls.take i)).length) ∧ Own wr 33 16 ao m c (bVs (proofA g.n T (ls.take i))) ∧ Grow w2 wr ∧ Fr (blk ao) w2) (fun _ vi _ => N - (intOf vi).toNat)
  case atStart => exact ⟨0, none, 0, 0, rfl, by omega, rfl, by omega, Lib.hid (by simp [proofA]), Own.none _ _ _, Grow.refl _, by simp [Fr, blk]⟩
  case round =>
    obtain ⟨i, ao, m, c, rfl, hi, rfl, hm, hml2, o, hg, hf⟩ := hrel
    by_cases hlt : i < N
    · have hil : i < ls.length := by rw [← HN.out]; exact hlt
      obtain ⟨gb, offb, eb, hcb⟩ := ob.sl.hat (by omega)
      obtain ⟨ro, rc, hv, sr⟩ := rows_at rw2 i hil
      have c1 := hcb.at hv
      have hpt := proofA_take (n := g.n) (T := T) hil
      have hr4 := h4 ls[i] (List.getElem_mem hil)
      obtain ⟨row, hrow⟩ : ∃ row, row = ls[i] := ⟨_, rfl⟩
      rw [← hrow] at sr hpt hr4 c1
      obtain ⟨M, hM⟩ : ∃ M, M = row.length := ⟨_, rfl⟩
      rw [← hM] at sr hr4 c1
      have HM := Lib.hid hM
      subst eb
      clear hrow hM hv hcb hil
      go_wp2_with fail
      go_loopw [5, 8] (fun ov vj w4 => ∃ (j : Nat) (ao2 : Option Addr) (m2 c2 : Nat), vj = .int .i64 (j : Int) ∧ j ≤ M ∧ ov = .slice ao2 m2 c2 ∧ m2 ≤ 4 * i + j ∧ Hid (m2 = (proofA g.n T (ls.take i) ++ rowA g.n T (row.take j)).length) ∧ Own w4 33 16 ao2 m2 c2 (bVs (proofA g.n T (ls.take i) ++ rowA g.n T (row.take j))) ∧ Grow w2 w4 ∧ Fr (blk ao2) w2) (fun _ vj _ => M - (intOf vj).toNat)
      case atStart => exact ⟨0, ao, m, c, rfl, by omega, rfl, by omega, Lib.hid (by simpa [rowA] using hml2.out), by simpa [rowA] using o, hg, hf⟩
      case round =>
        clear o hml2 hf hm hg
        obtain ⟨j, ao2, m2, c2, rfl, hj, rfl, hm2, hml2, o, hg2, hf⟩ := hrel
        have cr := hg2.cell c1
        by_cases hlt2 : j < M
        · have hjl : j < row.length := by rw [← HM.out]; exact hlt2
          obtain ⟨gr, offr, er, hcr⟩ := (sr.grow hg2).hat (by omega)
          have hp := pk_at row j hjl
          have hrt := rowA_take (n := g.n) (T := T) hjl
          obtain ⟨p, hpe⟩ : ∃ p, p = row[j] := ⟨_, rfl⟩
          rw [← hpe] at hp hrt
          have d0 := hcr.at hp.1
          have d1 := hcr.at hp.2
          rw [← Nat.add_assoc] at d1
          have hrs := sr.hle
          have hrs2 := sr.hcap
          rw [er] at cr
          clear hp hpe hcr hjl
          have hn5 := hnd wr (g2.trans hg2) p.1 p.2
          obtain ⟨x, hx⟩ : ∃ x, x = nodeA g.n T p.1 p.2 := ⟨_, rfl⟩
          simp only [← hx] at hn5 hrt
          clear hx
          go_wp2_with fail
          refine hn5 _ ?_
          clear hn5 d0 d1 cr
          intro w6 g6
          have o6 := o.grow g6
          have g26 := hg2.trans g6
          go_wp2_with (first | (refine wpList_slB rfl _ x rfl rfl ?_; intro g7 w7 G7 s7; have o7 := o6.grow G7) | (at_builtin; refine wpList_app TBl rfl rfl o7 s7 (by omega) (by omega) ?_; intro ao8 c8 w8 o8 _ k8 b8))
          rw [← bVs_app, List.append_assoc, ← hrt] at o8
          have hgw : Grow w2 w7 := g26.trans G7
          have g38 : Grow w2 w8 := hgw.then k8 hf
          have hf8 : Fr (blk ao8) w2 := fun y hy => by
            rcases b8 y hy with h | h
            · exact hf y h
            · have := hgw.size; omega
          have hml3 : Hid (m2 + 1 = (proofA g.n T (ls.take i) ++ rowA g.n T (row.take (j + 1))).length) := Lib.hid (by
            have := hml2.out
            rw [hrt, ← List.append_assoc, List.length_append, ← this]
            rfl)
          clear o6 o7 s7 k8 b8 o g26 hgw
          go_roundw
          case rel => exact ⟨j + 1, ao8, m2 + 1, c8, by go_num, by omega, rfl, by omega, hml3, o8, g38, hf8⟩
          case measure => simp [intOf]; omega
        · have hjM : j = M := by omega
          have htk : row.take j = row := List.take_of_length_le (by rw [hjM, HM.out]; exact Nat.le_refl _)
          rw [htk, ← hpt] at o hml2
          have hm3 : m2 ≤ 4 * (i + 1) := by omega
          clear hjM htk
          go_wp2_with fail
          go_roundw
          case rel => exact ⟨i + 1, ao2, m2, c2, by go_num, by omega, rfl, hm3, hml2, o, hg2, hf⟩
          case measure => simp [intOf]; omega
    · have hiN : i = N := by omega
      have htk : ls.take i = ls := List.take_of_length_le (by rw [hiN, HN.out]; exact Nat.le_refl _)
      rw [htk] at o hml2
      have hfin := hR ao m c _ hml2.out o (g2.trans hg) (fun x hx => Nat.le_trans g2.size (hf x hx))
      clear hR
      go_wp2_with fail
      exact hfin
end Go.Proofs.Ytfmnkcmicbnfdaa
