/- proj.Proj: a step is copied. -/
import Derived.Test.YtgchbcopbkoomaaKi25
namespace Go.Proofs.Ytgchbcopbkoomaa
open Go Go.RowKit

/-- What a copied step lies in. -/
structure exO (w : World) (e : Ex) : Prop where
  d : Own w 5 1 e.da e.s.cmd.data.length e.dc (e.s.cmd.data.map B)
  k : Own w 4 1 e.ka e.s.keep.length e.kc (e.s.keep.map .bool)
  b : Own w 5 1 e.ba e.s.data.length e.bc (e.s.data.map B)
theorem exO.g {w : World} {e : Ex} (h : exO w e) : exG w e := ⟨h.d.sl, h.k.sl, h.b.sl⟩
def Ex.bl (e : Ex) : List Nat := blk e.da ++ blk e.ka ++ blk e.ba
theorem exO.keep {fp : List Nat} {w w' : World} {e : Ex} (h : exO w e) (k : Keep fp w w') (hb : ∀ y ∈ e.bl, y ∉ fp) : exO w' e :=
  ⟨h.d.keep k (fun y hy => hb y (by simp [Ex.bl, hy])), h.k.keep k (fun y hy => hb y (by simp [Ex.bl, hy])), h.b.keep k (fun y hy => hb y (by simp [Ex.bl, hy]))⟩
theorem exO.lt {w : World} {e : Ex} (h : exO w e) : ∀ y ∈ e.bl, y < w.heap.size := fun y hy => by
  simp only [Ex.bl, List.mem_append] at hy
  rcases hy with (hy | hy) | hy
  · exact h.d.lt y hy
  · exact h.k.lt y hy
  · exact h.b.lt y hy


set_option maxRecDepth 100000 in
set_option maxHeartbeats 4000000 in
theorem proj9 (q : Nat) (e : Ex) (hk : e.s.keep.length ≤ 1000000) (hb : e.s.data.length ≤ 1000000) {c0 c1 c2 c3 c4 c5 c6 c7 c9 c10 c11 c12 c13 c14 c15 c16 c17 c18 c19 c20 c21 c22 c23 c24 c25 c26 c27 c28 c29 c30 c31 c32 c33 c34 c35 c36 c37 c38 c39 c40 c41 c42 c43 c44 c45 c46 c47 c48 c49 c50 c51 c52 c53 c54 c55 c56 c57 c58 c59 c60 c61 c62 c63 : Value} (w : World) (o : Own w 41 1 (some ⟨q, 0, none⟩) 10 10 (exV e)) (eg : exG w e) {Q : Exit → Act → World → Prop}
    (hQ : ∀ (ka : Option Addr) (kc : Nat) (ba : Option Addr) (bc : Nat) (w' : World), Own w' 41 1 (some ⟨q, 0, none⟩) 10 10 (exV { e with ka := ka, kc := kc, ba := ba, bc := bc }) → Keep [q] w w' →
      Own w' 4 1 ka e.s.keep.length kc (e.s.keep.map .bool) → Own w' 5 1 ba e.s.data.length bc (e.s.data.map B) → (∀ y ∈ blk ka ++ blk ba, w.heap.size ≤ y) → ∀ {u34 u35 u36 u37 u38 u39 u40 u41 : Value}, Q .normal ⟨List.toArray (c0 :: c1 :: c2 :: c3 :: c4 :: c5 :: c6 :: c7 :: .pointer (some ⟨q, 0, none⟩) :: c9 :: c10 :: c11 :: c12 :: c13 :: c14 :: c15 :: c16 :: c17 :: c18 :: c19 :: c20 :: c21 :: c22 :: c23 :: c24 :: c25 :: c26 :: c27 :: c28 :: c29 :: c30 :: c31 :: c32 :: c33 :: u34 :: u35 :: u36 :: u37 :: u38 :: u39 :: u40 :: u41 :: c42 :: c43 :: c44 :: c45 :: c46 :: c47 :: c48 :: c49 :: c50 :: c51 :: c52 :: c53 :: c54 :: c55 :: c56 :: c57 :: c58 :: c59 :: c60 :: c61 :: c62 :: c63 :: []), []⟩ w') :
    Code.wp Try.prog (regionAt Try.f7 9) Q ⟨List.toArray (c0 :: c1 :: c2 :: c3 :: c4 :: c5 :: c6 :: c7 :: .pointer (some ⟨q, 0, none⟩) :: c9 :: c10 :: c11 :: c12 :: c13 :: c14 :: c15 :: c16 :: c17 :: c18 :: c19 :: c20 :: c21 :: c22 :: c23 :: c24 :: c25 :: c26 :: c27 :: c28 :: c29 :: c30 :: c31 :: c32 :: c33 :: c34 :: c35 :: c36 :: c37 :: c38 :: c39 :: c40 :: c41 :: c42 :: c43 :: c44 :: c45 :: c46 :: c47 :: c48 :: c49 :: c50 :: c51 :: c52 :: c53 :: c54 :: c55 :: c56 :: c57 :: c58 :: c59 :: c60 :: c61 :: c62 :: c63 :: []), []⟩ w := by
  have hml : maxLen = 9223372036854775807 := rfl
  obtain ⟨gl, off, ee, hcs⟩ := o.sl.hat (by omega)
  cases ee
  have c8 := hcs.at (i := 8) (v := e.kv) rfl
  have c9 := hcs.at (i := 9) (v := e.bv) rfl
  simp only [Nat.zero_add, Ex.kv, Ex.bv] at c8 c9
  have q0 := KW.cell (fp := []) (p0 := tt) c8 (by simp)
  have q1 := KW.cell (fp := []) (p0 := tt) c9 (by simp)
  have hlt := o.lt q (by simp [blk])
  have hck := fun w' (hk7 : Keep [] w w') => cloneBo e.ka e.s.keep.length e.kc (e.s.keep.map .bool) w' (eg.k.keep hk7 (by simp)) hk
  have hcb := fun w' (hk7 : Keep [] w w') => cloneBy e.ba e.s.data.length e.bc (e.s.data.map B) w' (eg.b.keep hk7 (by simp)) hb
  obtain ⟨n1, hn1⟩ : ∃ n1, n1 = e.s.keep.length := ⟨_, rfl⟩
  obtain ⟨n2, hn2⟩ : ∃ n2, n2 = e.s.data.length := ⟨_, rfl⟩
  obtain ⟨X1, hX1⟩ : ∃ X1, X1 = e.s.keep.map Value.bool := ⟨_, rfl⟩
  obtain ⟨X2, hX2⟩ : ∃ X2, X2 = e.s.data.map B := ⟨_, rfl⟩
  have ho := Lib.hid o
  have HQ := Lib.hid hQ
  simp only [← hn1, ← hn2, ← hX1, ← hX2] at q0 q1 hck hcb
  have H1 := Lib.hid hn1
  have H2 := Lib.hid hn2
  have H3 := Lib.hid hX1
  have H4 := Lib.hid hX2
  clear c8 c9 hcs eg o hQ hn1 hn2 hX1 hX2
  conv => arg 2; whnf
  refine wp_region_R (segT w [(2, pNw 4 n1 w.heap.size X1), (5, pNw 5 n2 w.heap.size X2)]) (by kernel_rfl) segT_drew ?_
  unfold segT segK segR
  repeat (first | (refine wpV_skp rfl rfl ?_; simp only [List.set_cons_succ, List.set_cons_zero]) | (refine wpV_look rfl rfl rfl rfl rfl (fun K hK => ?_); go_big_quiet_op; refine hK _ ?_; clear hK K))
  refine wpV_mk rfl rfl rfl [] (by kernel_rfl) (fun vs w7 hC hF => yields_call (by kernel_rfl) ?_) (fun vs v w7 hC hV hF => ?_)
  · obtain ⟨⟨w7, hk7, -⟩, rfl⟩ := hC
    exact hck w7 hk7 _ (fun ao c w8 o8 g8 f8 => ⟨_, rfl, ⟨Keep.of_grow [] g8, trivial⟩, ⟨ao, c, rfl, o8, fun y hy => Nat.le_trans hk7.size (f8 y hy)⟩⟩)
  obtain ⟨ka, kc, rfl, -⟩ := hV
  clear hC hF w7
  simp only [List.set_cons_succ, List.set_cons_zero]
  repeat (first | (refine wpV_skp rfl rfl ?_; simp only [List.set_cons_succ, List.set_cons_zero]) | (refine wpV_look rfl rfl rfl rfl rfl (fun K hK => ?_); go_big_quiet_op; refine hK _ ?_; clear hK K))
  refine wpV_mk rfl rfl rfl [] (by kernel_rfl) (fun vs w7 hC hF => yields_call (by kernel_rfl) ?_) (fun vs v w7 hC hV hF => ?_)
  · obtain ⟨⟨w7, hk7, -⟩, rfl⟩ := hC
    exact hcb w7 hk7 _ (fun ao c w8 o8 g8 f8 => ⟨_, rfl, ⟨Keep.of_grow [] g8, trivial⟩, ⟨ao, c, rfl, o8, fun y hy => Nat.le_trans hk7.size (f8 y hy)⟩⟩)
  obtain ⟨ba, bc, rfl, -⟩ := hV
  clear hC hF w7
  simp only [List.set_cons_succ, List.set_cons_zero]
  repeat (first | (refine wpV_skp rfl rfl ?_; simp only [List.set_cons_succ, List.set_cons_zero]) | (refine wpV_look rfl rfl rfl rfl rfl (fun K hK => ?_); go_big_quiet_op; refine hK _ ?_; clear hK K))
  refine wpV_tn0 rfl rfl (by kernel_rfl) (fun w7 hC hF => ?_)
  obtain ⟨ao2, c2, e2, o2, f2⟩ := (hF 5).2 rfl
  obtain ⟨ao1, c1, e1, o1, f1⟩ := (hF 2).1.2 rfl
  obtain ⟨⟨w7, hk7, -⟩, rfl⟩ := hC
  cases e2
  cases e1
  have o7 := ho.out.keep hk7 (by simp)
  obtain ⟨gq, v8, eq, hv8, hf8, hput⟩ := own_put o7 (i := 8) (by omega)
  cases eq
  have o8 := hput (.slice ka n1 kc) rfl
  have k8 : Keep [q] w7 (w7.setCell ⟨q, 8, none⟩ (.slice ka n1 kc)) := Keep.setCell w7 ⟨q, 8, none⟩ (by simp) _
  clear hput o7 hF hck hcb q0 q1
  unfold yields
  go_simp
  simp only [yUpon]
  refine ⟨segU _, ⟨(), rfl⟩, ?_⟩
  have o1 := o1.keep k8 (fun y hy hm => by simp at hm; have := f1 y hy; omega)
  have o2 := o2.keep k8 (fun y hy hm => by simp at hm; have := f2 y hy; omega)
  have K8 := (hk7.mono (fun _ h => by simp at h : ∀ y ∈ [], y ∈ [q])).trans k8
  generalize w7.setCell ⟨q, 8, none⟩ (.slice ka n1 kc) = w8 at *
  obtain ⟨gq, v9, eq, hv9, hf9, hput⟩ := own_put o8 (i := 9) (by omega)
  cases eq
  have o9 := hput (.slice ba n2 bc) rfl
  have k9 : Keep [q] w8 (w8.setCell ⟨q, 9, none⟩ (.slice ba n2 bc)) := Keep.setCell w8 ⟨q, 9, none⟩ (by simp) _
  clear hput o8 hv8 hf8 k8 hk7
  unfold segU
  repeat (first | (refine wpV_skp rfl rfl ?_; simp only [List.set_cons_succ, List.set_cons_zero]) | (refine wpV_look rfl rfl rfl rfl rfl (fun K hK => ?_); go_big_quiet_op; refine hK _ ?_; clear hK K))
  refine wpV_end0 rfl rfl (by kernel_rfl) (fun w9 hC hF => ?_)
  obtain ⟨-, rfl⟩ := hC
  unfold yields
  go_simp
  simp only [yUpon]
  have o1 := o1.keep k9 (fun y hy hm => by simp at hm; have := f1 y hy; omega)
  have o2 := o2.keep k9 (fun y hy hm => by simp at hm; have := f2 y hy; omega)
  have K9 := K8.trans k9
  obtain rfl := H1.out
  obtain rfl := H2.out
  obtain rfl := H3.out
  obtain rfl := H4.out
  exact HQ.out ka kc ba bc _ o9 K9 o1 o2 (fun y hy => by rcases List.mem_append.1 hy with h | h; exact f1 y h; exact f2 y h)
end Go.Proofs.Ytgchbcopbkoomaa
