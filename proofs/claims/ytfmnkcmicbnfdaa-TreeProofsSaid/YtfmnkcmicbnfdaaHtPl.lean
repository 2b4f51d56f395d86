/- A leaf's text is noted, or forgotten, by the document. -/
import Derived.Test.YtfmnkcmicbnfdaaHtQ
import Derived.Test.YtfmnkcmicbnfdaaFewT
import Derived.Test.YtfmnkcmicbnfdaaGHt5
namespace Go.Proofs.Ytfmnkcmicbnfdaa
open Go Go.RowKit

def upX {α : Type} (f : Nat → α) (k : Nat) (v : α) : Nat → α := fun i => if i = k then v else f i
theorem range_set {α : Type} (f : Nat → α) (n k : Nat) (v : α) (e : α → Value) : ((List.range n).map fun i => e (f i)).set k (e v) = (List.range n).map fun i => e (upX f k v i) := by
  refine List.ext_getElem? fun i => ?_
  rw [List.getElem?_set]
  by_cases h : k = i
  · subst h
    rw [if_pos rfl]
    by_cases h1 : k < n
    · simp [h1, upX]
    · simp [h1]
  · rw [if_neg h]
    by_cases h1 : i < n
    · have h2 : ¬ i = k := fun e => h e.symm
      simp [h1, upX, h2]
    · simp [h1]
/-- The two stores. -/
theorem Tg.put {w : World} {g : Tgs} {key : List UInt8} {tx : Nat → List UInt8} {hs : Nat → Bool} (a : Tg w g key tx hs) {k : Nat} (hk : k < g.n) (x : List UInt8) (b : Bool) :
    ∃ gx gh u v, g.xo = some ⟨gx, 0, none⟩ ∧ g.ho = some ⟨gh, 0, none⟩ ∧ w.cell? ⟨gx, k, none⟩ = some u ∧ w.frozen? ⟨gx, k, none⟩ = false ∧
      (w.setCell ⟨gx, k, none⟩ (.string (str x))).cell? ⟨gh, k, none⟩ = some v ∧ (w.setCell ⟨gx, k, none⟩ (.string (str x))).frozen? ⟨gh, k, none⟩ = false ∧
      Tg ((w.setCell ⟨gx, k, none⟩ (.string (str x))).setCell ⟨gh, k, none⟩ (.bool b)) g key (upX tx k x) (upX hs k b) ∧
      Keep (blk g.xo ++ blk g.ho) w ((w.setCell ⟨gx, k, none⟩ (.string (str x))).setCell ⟨gh, k, none⟩ (.bool b)) := by
  obtain ⟨gx, u, ex, hu, fx, px⟩ := own_put a.txt (i := k) (by omega)
  have o1 := px (.string (str x)) rfl
  have k1 : Keep (blk g.xo) w (w.setCell ⟨gx, k, none⟩ (.string (str x))) := Keep.setCell (fp := blk g.xo) w ⟨gx, k, none⟩ (by rw [ex]; simp [blk]) _
  have h1 := a.has.keep k1 (fun y hy hz => a.nx y hz hy)
  obtain ⟨gh, v, eh, hv, fh, ph⟩ := own_put h1 (i := k) (by omega)
  have o2 := ph (.bool b) rfl
  have k2 : Keep (blk g.ho) (w.setCell ⟨gx, k, none⟩ (.string (str x))) ((w.setCell ⟨gx, k, none⟩ (.string (str x))).setCell ⟨gh, k, none⟩ (.bool b)) := Keep.setCell (fp := blk g.ho) _ ⟨gh, k, none⟩ (by rw [eh]; simp [blk]) _
  have kk : Keep (blk g.xo ++ blk g.ho) w ((w.setCell ⟨gx, k, none⟩ (.string (str x))).setCell ⟨gh, k, none⟩ (.bool b)) := (k1.mono (by simp +contextual)).trans (k2.mono (by simp +contextual))
  have hnd : ∀ y ∈ g.p :: g.ph :: blk g.ko, y ∉ blk g.xo ++ blk g.ho := fun y hy hz => a.nd y hz hy
  refine ⟨gx, gh, u, v, ex, eh, hu, fx, hv, fh, ?_, kk⟩
  exact {
    obj := kk.obj a.obj (hnd _ (by simp))
    sm := ⟨a.sm.1.keep kk (hnd _ (by simp)), a.sm.2⟩
    key := a.key.keep kk fun y hy => hnd y (by simp [hy])
    txt := by
      rw [range_set tx g.n k x (fun t => .string (str t))] at o1
      exact o1.keep k2 a.nx
    has := by rw [range_set hs g.n k b (fun t => .bool t)] at o2; exact o2
    lt := fun y hy => Nat.lt_of_lt_of_le (a.lt y hy) kk.size
    nd := a.nd
    nx := a.nx }

/-- One world alone. -/
def segU (w' : World) : Seg where
  C := fun x => ∃ _ : Unit, x = w'
  R := fun _ _ x => x = w'
  V := fun _ _ _ _ => True
  es := []
  hC := fun _ _ _ _ h => ⟨(), h⟩
  hV := fun _ _ _ _ _ _ _ _ _ h => h


set_option maxRecDepth 100000 in
set_option maxHeartbeats 1000000 in
theorem play15 (g : Tgs) {key : List UInt8} {tx : Nat → List UInt8} {hs : Nat → Bool} (k : Nat) (hk : k < g.n) (gl off ln cap i : Nat) (hi : i < ln) (_ : ln ≤ cap) (_ : cap ≤ maxLen) (ta : Option Addr) (tc : Nat) (text : List UInt8) {c0 c2 c3 c4 c5 c6 c7 c8 c9 c10 c14 c15 c16 c17 c18 c19 c20 c21 c22 c23 c24 c25 c26 c27 c28 c29 c30 c31 c32 c33 c34 c35 c36 c37 c38 c39 c40 c41 c42 c43 c44 c45 c46 c47 c48 c49 c50 c51 c52 c53 c54 c55 c56 c57 c58 c59 c60 c61 c62 c63 c64 c65 c66 c67 c68 c69 c70 c71 c72 c73 c74 c75 c76 c77 c78 c79 c80 c81 c82 c83 c84 c85 c86 c87 c88 c89 c90 c91 c92 c93 c94 c95 c96 c97 c98 c99 c100 c101 c102 c103 c104 c105 c106 c107 c108 c109 c110 c111 c112 c113 c114 c115 c116 : Value} (w : World) (a : Tg w g key tx hs) (d2 : w.cell? ⟨gl, off + i * 3 + 2, none⟩ = some (.slice ta text.length tc)) (st : Sl w 1 ta text.length tc (text.map B)) {Q : Exit → Act → World → Prop}
    (hQ : ∀ (w' : World), Tg w' g key (upX tx k text) (upX hs k true) → Keep (blk g.xo ++ blk g.ho) w w' → ∀ {u66 u67 u68 u69 u70 u71 u72 u73 u74 u75 u76 u77 u78 u79 u80 u81 u82 u83 : Value}, Q .normal ⟨List.toArray (c0 :: .slice (some ⟨gl, off, none⟩) ln cap :: c2 :: c3 :: c4 :: c5 :: c6 :: c7 :: c8 :: c9 :: c10 :: .pointer (some ⟨g.p, 0, none⟩) :: .int .i64 (i : Int) :: .int .i64 (k : Int) :: c14 :: c15 :: c16 :: c17 :: c18 :: c19 :: c20 :: c21 :: c22 :: c23 :: c24 :: c25 :: c26 :: c27 :: c28 :: c29 :: c30 :: c31 :: c32 :: c33 :: c34 :: c35 :: c36 :: c37 :: c38 :: c39 :: c40 :: c41 :: c42 :: c43 :: c44 :: c45 :: c46 :: c47 :: c48 :: c49 :: c50 :: c51 :: c52 :: c53 :: c54 :: c55 :: c56 :: c57 :: c58 :: c59 :: c60 :: c61 :: c62 :: c63 :: c64 :: c65 :: u66 :: u67 :: u68 :: u69 :: u70 :: u71 :: u72 :: u73 :: u74 :: u75 :: u76 :: u77 :: u78 :: u79 :: u80 :: u81 :: u82 :: u83 :: c84 :: c85 :: c86 :: c87 :: c88 :: c89 :: c90 :: c91 :: c92 :: c93 :: c94 :: c95 :: c96 :: c97 :: c98 :: c99 :: c100 :: c101 :: c102 :: c103 :: c104 :: c105 :: c106 :: c107 :: c108 :: c109 :: c110 :: c111 :: c112 :: c113 :: c114 :: c115 :: c116 :: []), []⟩ w') :
    Code.wp Try.prog (regionAt Try.f42 15) Q ⟨List.toArray (c0 :: .slice (some ⟨gl, off, none⟩) ln cap :: c2 :: c3 :: c4 :: c5 :: c6 :: c7 :: c8 :: c9 :: c10 :: .pointer (some ⟨g.p, 0, none⟩) :: .int .i64 (i : Int) :: .int .i64 (k : Int) :: c14 :: c15 :: c16 :: c17 :: c18 :: c19 :: c20 :: c21 :: c22 :: c23 :: c24 :: c25 :: c26 :: c27 :: c28 :: c29 :: c30 :: c31 :: c32 :: c33 :: c34 :: c35 :: c36 :: c37 :: c38 :: c39 :: c40 :: c41 :: c42 :: c43 :: c44 :: c45 :: c46 :: c47 :: c48 :: c49 :: c50 :: c51 :: c52 :: c53 :: c54 :: c55 :: c56 :: c57 :: c58 :: c59 :: c60 :: c61 :: c62 :: c63 :: c64 :: c65 :: c66 :: c67 :: c68 :: c69 :: c70 :: c71 :: c72 :: c73 :: c74 :: c75 :: c76 :: c77 :: c78 :: c79 :: c80 :: c81 :: c82 :: c83 :: c84 :: c85 :: c86 :: c87 :: c88 :: c89 :: c90 :: c91 :: c92 :: c93 :: c94 :: c95 :: c96 :: c97 :: c98 :: c99 :: c100 :: c101 :: c102 :: c103 :: c104 :: c105 :: c106 :: c107 :: c108 :: c109 :: c110 :: c111 :: c112 :: c113 :: c114 :: c115 :: c116 :: []), []⟩ w := by
  have hml : maxLen = 9223372036854775807 := rfl
  have x1 := a.txt.sl.hle
  have x2 := a.txt.sl.hcap
  have x3 := a.has.sl.hle
  have x4 := a.has.sl.hcap
  have q0 := KW.cell (fp := []) (p0 := tt) (obj_cell a.obj 2 rfl) (by simp)
  have q1 := KW.cell (fp := []) (p0 := tt) (obj_cell a.obj 3 rfl) (by simp)
  have q2 := KW.cell (fp := []) (p0 := tt) d2 (by simp)
  have cv : ∀ w', Keep [] w w' → (convert 27 9 (.slice ta text.length tc)).run Try.prog w' = .ok (.string (str text)) w' := fun w' kk => run_str Try.underlying27 Try.underlying5 Try.underlying9 (st.keep kk (by simp))
  have Ha := Lib.hid a
  obtain ⟨gx, gh, u, v, ex, eh, -⟩ := a.put hk text true
  simp only [ex, eh] at q0 q1
  clear a d2 st
  conv => arg 2; whnf
  refine wp_region_F [9] (segT w []) (by kernel_rfl) segT_drew ?_
  unfold segT segK segR
  repeat (first | (refine wpV_val rfl rfl rfl rfl rfl _ (fun w hC => by obtain ⟨n, rfl⟩ := hC; exact exec_conv (cv _ n.h)) ?_; simp only [List.set_cons_succ, List.set_cons_zero]) | (refine wpV_look rfl rfl rfl rfl rfl (fun K hK => ?_); go_big_quiet_op; refine hK _ ?_; clear hK K) | (refine wpV_free rfl rfl rfl rfl (fun K hK => ?_); go_big_quiet_op; refine hK _ ?_; clear hK K))
  refine wpV_tn0 rfl rfl (by kernel_rfl) (fun w2 hC hF => ?_)
  obtain ⟨⟨w2, hk2, -⟩, rfl⟩ := hC
  obtain ⟨gx', gh', u, v, ex', eh', hu, fx, hv, fh, tg, kp⟩ := (Ha.out.keep hk2 (by simp)).put hk text true
  obtain rfl : gx' = gx := by rw [ex] at ex'; injection ex' with e; injection e with e1 _; exact e1.symm
  obtain rfl : gh' = gh := by rw [eh] at eh'; injection eh' with e; injection e with e1 _; exact e1.symm
  have K2 := (hk2.mono (fun _ h => by simp at h : ∀ y ∈ [], y ∈ blk g.xo ++ blk g.ho)).trans kp
  have hf := fun {u66 u67 u68 u69 u70 u71 u72 u73 u74 u75 u76 u77 u78 u79 u80 u81 u82 u83 : Value} => @hQ _ tg K2 u66 u67 u68 u69 u70 u71 u72 u73 u74 u75 u76 u77 u78 u79 u80 u81 u82 u83
  clear hQ Ha tg K2 kp hF
  unfold yields
  go_simp
  simp only [yUpon]
  refine ⟨segU _, ⟨(), rfl⟩, ?_⟩
  unfold segU
  repeat (refine wpV_look rfl rfl rfl rfl rfl (fun K hK => ?_); go_big_quiet_op; refine hK _ ?_; clear hK K)
  refine wpV_end0 rfl rfl (by kernel_rfl) (fun w7 hC hF => ?_)
  obtain ⟨-, rfl⟩ := hC
  unfold yields
  go_simp
  simp only [yUpon]
  exact hf


set_option maxRecDepth 100000 in
set_option maxHeartbeats 1000000 in
theorem play19 (g : Tgs) {key : List UInt8} {tx : Nat → List UInt8} {hs : Nat → Bool} (k : Nat) (hk : k < g.n) {c0 c1 c2 c3 c4 c5 c6 c7 c8 c9 c10 c12 c14 c15 c16 c17 c18 c19 c20 c21 c22 c23 c24 c25 c26 c27 c28 c29 c30 c31 c32 c33 c34 c35 c36 c37 c38 c39 c40 c41 c42 c43 c44 c45 c46 c47 c48 c49 c50 c51 c52 c53 c54 c55 c56 c57 c58 c59 c60 c61 c62 c63 c64 c65 c66 c67 c68 c69 c70 c71 c72 c73 c74 c75 c76 c77 c78 c79 c80 c81 c82 c83 c84 c85 c86 c87 c88 c89 c90 c91 c92 c93 c94 c95 c96 c97 c98 c99 c100 c101 c102 c103 c104 c105 c106 c107 c108 c109 c110 c111 c112 c113 c114 c115 c116 : Value} (w : World) (a : Tg w g key tx hs) {Q : Exit → Act → World → Prop}
    (hQ : ∀ (w' : World), Tg w' g key (upX tx k []) (upX hs k false) → Keep (blk g.xo ++ blk g.ho) w w' → ∀ {u90 u91 u92 u93 u94 u95 u96 u97 u98 u99 u100 u101 : Value}, Q .normal ⟨List.toArray (c0 :: c1 :: c2 :: c3 :: c4 :: c5 :: c6 :: c7 :: c8 :: c9 :: c10 :: .pointer (some ⟨g.p, 0, none⟩) :: c12 :: .int .i64 (k : Int) :: c14 :: c15 :: c16 :: c17 :: c18 :: c19 :: c20 :: c21 :: c22 :: c23 :: c24 :: c25 :: c26 :: c27 :: c28 :: c29 :: c30 :: c31 :: c32 :: c33 :: c34 :: c35 :: c36 :: c37 :: c38 :: c39 :: c40 :: c41 :: c42 :: c43 :: c44 :: c45 :: c46 :: c47 :: c48 :: c49 :: c50 :: c51 :: c52 :: c53 :: c54 :: c55 :: c56 :: c57 :: c58 :: c59 :: c60 :: c61 :: c62 :: c63 :: c64 :: c65 :: c66 :: c67 :: c68 :: c69 :: c70 :: c71 :: c72 :: c73 :: c74 :: c75 :: c76 :: c77 :: c78 :: c79 :: c80 :: c81 :: c82 :: c83 :: c84 :: c85 :: c86 :: c87 :: c88 :: c89 :: u90 :: u91 :: u92 :: u93 :: u94 :: u95 :: u96 :: u97 :: u98 :: u99 :: u100 :: u101 :: c102 :: c103 :: c104 :: c105 :: c106 :: c107 :: c108 :: c109 :: c110 :: c111 :: c112 :: c113 :: c114 :: c115 :: c116 :: []), []⟩ w') :
    Code.wp Try.prog (regionAt Try.f42 19) Q ⟨List.toArray (c0 :: c1 :: c2 :: c3 :: c4 :: c5 :: c6 :: c7 :: c8 :: c9 :: c10 :: .pointer (some ⟨g.p, 0, none⟩) :: c12 :: .int .i64 (k : Int) :: c14 :: c15 :: c16 :: c17 :: c18 :: c19 :: c20 :: c21 :: c22 :: c23 :: c24 :: c25 :: c26 :: c27 :: c28 :: c29 :: c30 :: c31 :: c32 :: c33 :: c34 :: c35 :: c36 :: c37 :: c38 :: c39 :: c40 :: c41 :: c42 :: c43 :: c44 :: c45 :: c46 :: c47 :: c48 :: c49 :: c50 :: c51 :: c52 :: c53 :: c54 :: c55 :: c56 :: c57 :: c58 :: c59 :: c60 :: c61 :: c62 :: c63 :: c64 :: c65 :: c66 :: c67 :: c68 :: c69 :: c70 :: c71 :: c72 :: c73 :: c74 :: c75 :: c76 :: c77 :: c78 :: c79 :: c80 :: c81 :: c82 :: c83 :: c84 :: c85 :: c86 :: c87 :: c88 :: c89 :: c90 :: c91 :: c92 :: c93 :: c94 :: c95 :: c96 :: c97 :: c98 :: c99 :: c100 :: c101 :: c102 :: c103 :: c104 :: c105 :: c106 :: c107 :: c108 :: c109 :: c110 :: c111 :: c112 :: c113 :: c114 :: c115 :: c116 :: []), []⟩ w := by
  have hml : maxLen = 9223372036854775807 := rfl
  have x1 := a.txt.sl.hle
  have x2 := a.txt.sl.hcap
  have x3 := a.has.sl.hle
  have x4 := a.has.sl.hcap
  have q0 := KW.cell (fp := []) (p0 := tt) (obj_cell a.obj 2 rfl) (by simp)
  have q1 := KW.cell (fp := []) (p0 := tt) (obj_cell a.obj 3 rfl) (by simp)
  have Ha := Lib.hid a
  obtain ⟨gx, gh, u, v, ex, eh, -⟩ := a.put hk [] false
  simp only [ex, eh] at q0 q1
  clear a
  conv => arg 2; whnf
  refine wp_region_F [9] (segT w []) (by kernel_rfl) segT_drew ?_
  unfold segT segK segR
  repeat (first | (refine wpV_look rfl rfl rfl rfl rfl (fun K hK => ?_); go_big_quiet_op; refine hK _ ?_; clear hK K) | (refine wpV_free rfl rfl rfl rfl (fun K hK => ?_); go_big_quiet_op; refine hK _ ?_; clear hK K))
  refine wpV_tn0 rfl rfl (by kernel_rfl) (fun w2 hC hF => ?_)
  obtain ⟨⟨w2, hk2, -⟩, rfl⟩ := hC
  obtain ⟨gx', gh', u, v, ex', eh', hu, fx, hv, fh, tg, kp⟩ := (Ha.out.keep hk2 (by simp)).put hk [] false
  obtain rfl : gx' = gx := by rw [ex] at ex'; injection ex' with e; injection e with e1 _; exact e1.symm
  obtain rfl : gh' = gh := by rw [eh] at eh'; injection eh' with e; injection e with e1 _; exact e1.symm
  have K2 := (hk2.mono (fun _ h => by simp at h : ∀ y ∈ [], y ∈ blk g.xo ++ blk g.ho)).trans kp
  have hf := fun {u90 u91 u92 u93 u94 u95 u96 u97 u98 u99 u100 u101 : Value} => @hQ _ tg K2 u90 u91 u92 u93 u94 u95 u96 u97 u98 u99 u100 u101
  have he : str ([] : List UInt8) = { data := #[] } := rfl
  rw [he] at hf hv fh
  clear hQ Ha tg K2 kp hF
  unfold yields
  go_simp
  simp only [yUpon]
  refine ⟨segU _, ⟨(), rfl⟩, ?_⟩
  unfold segU
  repeat (refine wpV_look rfl rfl rfl rfl rfl (fun K hK => ?_); go_big_quiet_op; refine hK _ ?_; clear hK K)
  refine wpV_end0 rfl rfl (by kernel_rfl) (fun w7 hC hF => ?_)
  obtain ⟨-, rfl⟩ := hC
  unfold yields
  go_simp
  simp only [yUpon]
  exact hf
end Go.Proofs.Ytfmnkcmicbnfdaa
