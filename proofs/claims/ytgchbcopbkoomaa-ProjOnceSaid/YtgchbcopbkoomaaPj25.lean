/- proj.Proj. -/
import Derived.Test.YtgchbcopbkoomaaPa25
namespace Go.Proofs.Ytgchbcopbkoomaa
open Go Go.RowKit

theorem built_turn (s : ByteArray) : Try.prog.built 39 [(0, .int .i64 3), (1, .string s)] = some #[.int .i64 3, .string s, .string .empty, .int .i64 0, .int .i64 0, .slice none 0 0] := by kernel_rfl
theorem built_turn2 (s : ByteArray) : Try.prog.built 41 [(0, .int .i64 1), (1, .agg #[.int .i64 3, .string s, .string .empty, .int .i64 0, .int .i64 0, .slice none 0 0])] = some #[.int .i64 1, .int .i64 3, .string s, .string .empty, .int .i64 0, .int .i64 0, .slice none 0 0, .int .i64 0, .slice none 0 0, .slice none 0 0] := by kernel_rfl
def turnE (s : StX) : Ex := ⟨turnX s, none, 0, none, 0, none, 0⟩
theorem turnE_one (s : StX) : ∀ v ∈ exV (turnE s), v.oneCell' = true := exV_one _
theorem turnE_o (w : World) (s : StX) : exO w (turnE s) := ⟨Own.none _ _ _, Own.none _ _ _, Own.none _ _ _⟩
theorem projS_snoc : ∀ (l : List StX) (ks : List Int) (s : StX) (k : Int), ks.length = l.length → projS (l ++ [s]) (ks ++ [k]) = projS l ks ++ (if k = 1 then [s] else if k = 3 then [turnX s] else [])
  | [], [], s, k, _ => by simp [projS]
  | s' :: l, k' :: ks, s, k, h => by
    have ih := projS_snoc l ks s k (by simpa using h)
    simp only [List.cons_append, projS, ih]
    split
    · rfl
    · split <;> rfl
theorem projS_next (l : List StX) (ks : List Int) (i : Nat) (h : i < l.length) (hk : ks.length = l.length) : projS (l.take (i + 1)) (ks.take (i + 1)) = projS (l.take i) (ks.take i) ++ (if ks[i]'(by omega) = 1 then [l[i]] else if ks[i]'(by omega) = 3 then [turnX l[i]] else []) := by
  rw [← projS_snoc _ _ _ _ (by simp; omega)]
  congr 1
  · rw [List.take_add_one, List.getElem?_eq_getElem h]; rfl
  · rw [List.take_add_one, List.getElem?_eq_getElem (by omega)]; rfl
theorem kindsS_all (S : Nat) : ∀ (l : List StX) (x : Sy) (ks : List Int), kindsS S x l = some ks → ∀ k ∈ ks, k = 1 ∨ k = 2 ∨ k = 3
  | [], x, ks, h => by simp [kindsS] at h; subst h; simp
  | s :: l, x, ks, h => by
    unfold kindsS at h
    cases e : stepS S x s with
    | none => rw [e] at h; simp at h
    | some p =>
      obtain ⟨k, x'⟩ := p
      rw [e] at h
      simp only [Option.map_eq_some_iff] at h
      obtain ⟨ks', h1, rfl⟩ := h
      intro k' hk'
      rcases List.mem_cons.1 hk' with rfl | hk'
      · exact (stepS_kind e).1
      · exact kindsS_all S l x' ks' h1 k' hk'


set_option maxRecDepth 100000 in
set_option maxHeartbeats 4000000 in
theorem proj11 (q : Nat) (lo : List Ex) (e : Ex) (oo : Option Addr) (m oc : Nat) {c0 c1 c2 c3 c5 c6 c7 c9 c10 c11 c12 c13 c14 c15 c16 c17 c18 c19 c20 c21 c22 c23 c24 c25 c26 c27 c28 c29 c30 c31 c32 c33 c34 c35 c36 c37 c38 c39 c40 c41 c42 c43 c44 c45 c46 c47 c48 c49 c50 c51 c52 c53 c54 c55 c56 c57 c58 c59 c60 c61 c62 c63 : Value} (w1 w : World) (o : Own w 41 10 oo m oc (lo.flatMap exV)) (hO : Hid (∀ e ∈ lo, exO w e)) (eo : exO w e) (G : Grow w1 w) (fo : ∀ y ∈ blk oo, w1.heap.size ≤ y) (dis : Hid (∀ e ∈ lo, ∀ y ∈ e.bl, y ∉ blk oo)) (de : ∀ y ∈ e.bl, y ∉ blk oo) (hm : m ≤ 100000) (hrg : w.rangeAt q 0 (exV e)) {Q : Exit → Act → World → Prop}
    (hQ : ∀ (oo' : Option Addr) (oc' : Nat) (w' : World), Own w' 41 10 oo' (m + 1) oc' ((lo ++ [e]).flatMap exV) → Hid (∀ x ∈ lo ++ [e], exO w' x) → Grow w1 w' → (∀ y ∈ blk oo', w1.heap.size ≤ y) → Hid (∀ x ∈ lo ++ [e], ∀ y ∈ x.bl, y ∉ blk oo') → ∀ {u48 u49 u50 u51 : Value}, Q .normal ⟨List.toArray (c0 :: c1 :: c2 :: c3 :: .slice oo' (m + 1) oc' :: c5 :: c6 :: c7 :: .pointer (some ⟨q, 0, none⟩) :: c9 :: c10 :: c11 :: c12 :: c13 :: c14 :: c15 :: c16 :: c17 :: c18 :: c19 :: c20 :: c21 :: c22 :: c23 :: c24 :: c25 :: c26 :: c27 :: c28 :: c29 :: c30 :: c31 :: c32 :: c33 :: c34 :: c35 :: c36 :: c37 :: c38 :: c39 :: c40 :: c41 :: c42 :: c43 :: c44 :: c45 :: c46 :: c47 :: u48 :: u49 :: u50 :: u51 :: c52 :: c53 :: c54 :: c55 :: c56 :: c57 :: c58 :: c59 :: c60 :: c61 :: c62 :: c63 :: []), []⟩ w') :
    Code.wp Try.prog (regionAt Try.f7 11) Q ⟨List.toArray (c0 :: c1 :: c2 :: c3 :: .slice oo m oc :: c5 :: c6 :: c7 :: .pointer (some ⟨q, 0, none⟩) :: c9 :: c10 :: c11 :: c12 :: c13 :: c14 :: c15 :: c16 :: c17 :: c18 :: c19 :: c20 :: c21 :: c22 :: c23 :: c24 :: c25 :: c26 :: c27 :: c28 :: c29 :: c30 :: c31 :: c32 :: c33 :: c34 :: c35 :: c36 :: c37 :: c38 :: c39 :: c40 :: c41 :: c42 :: c43 :: c44 :: c45 :: c46 :: c47 :: c48 :: c49 :: c50 :: c51 :: c52 :: c53 :: c54 :: c55 :: c56 :: c57 :: c58 :: c59 :: c60 :: c61 :: c62 :: c63 :: []), []⟩ w := by
  have hml : maxLen = 9223372036854775807 := rfl
  have ga := Grow.alloc w (.cells (exV e).toArray 41)
  have sE : Sl (w.alloc (.cells (exV e).toArray 41)) 10 (some ⟨w.heap.size, 0, none⟩) 1 1 (exV e) := (Own.made (n := 1) (sz := 10) (heap_alloc_new w (.cells (exV e).toArray 41)) rfl (by decide) (exV_one _)).sl
  have oA := o.grow ga
  have hz := sz_al w (.cells (exV e).toArray 41)
  have hend : ∀ (oo' : Option Addr) (oc' : Nat) (w' : World), Own w' 41 10 oo' (m + 1) oc' (lo.flatMap exV ++ exV e) → Keep (blk oo) (w.alloc (.cells (exV e).toArray 41)) w' → (∀ g ∈ blk oo', g ∈ blk oo ∨ (w.alloc (.cells (exV e).toArray 41)).heap.size ≤ g) → ∀ {u48 u49 u50 u51 : Value}, Q .normal ⟨List.toArray (c0 :: c1 :: c2 :: c3 :: .slice oo' (m + 1) oc' :: c5 :: c6 :: c7 :: .pointer (some ⟨q, 0, none⟩) :: c9 :: c10 :: c11 :: c12 :: c13 :: c14 :: c15 :: c16 :: c17 :: c18 :: c19 :: c20 :: c21 :: c22 :: c23 :: c24 :: c25 :: c26 :: c27 :: c28 :: c29 :: c30 :: c31 :: c32 :: c33 :: c34 :: c35 :: c36 :: c37 :: c38 :: c39 :: c40 :: c41 :: c42 :: c43 :: c44 :: c45 :: c46 :: c47 :: u48 :: u49 :: u50 :: u51 :: c52 :: c53 :: c54 :: c55 :: c56 :: c57 :: c58 :: c59 :: c60 :: c61 :: c62 :: c63 :: []), []⟩ w' := fun oo' oc' w' o' k' b' => by
    have hall : ∀ x ∈ lo ++ [e], exO w' x ∧ ∀ y ∈ x.bl, y ∉ blk oo' := fun x hx => by
      have h1 : exO w x ∧ ∀ y ∈ x.bl, y ∉ blk oo := by
        rcases List.mem_append.1 hx with h | h
        · exact ⟨hO.out x h, dis.out x h⟩
        · obtain rfl : x = e := by simpa using h
          exact ⟨eo, de⟩
      refine ⟨(h1.1.keep (Keep.of_grow [] ga) (by simp)).keep k' h1.2, fun y hy hm => ?_⟩
      rcases b' y hm with h | h
      · exact h1.2 y hy h
      · have := h1.1.lt y hy; omega
    intro u48 u49 u50 u51
    exact hQ oo' oc' w' (by rw [List.flatMap_append]; simpa using o') (Lib.hid fun x hx => (hall x hx).1) ((G.trans ga).then k' fo) (fun y hy => by
      rcases b' y hy with h | h
      · exact fo y h
      · have := G.size; omega) (Lib.hid fun x hx => (hall x hx).2)
  clear hQ o hO eo G fo dis de hz ga
  have i10e : (Try.prog.info? 41).map (·.size) = some (exV e).length := i10
  have ex : exV e = [.int .i64 e.s.kind, .int .i64 e.s.cmd.kind, .string (str e.s.cmd.pass), .string (str e.s.cmd.other), .int .i64 e.s.cmd.first, .int .i64 e.s.cmd.count, e.dv, .int .i64 e.s.n, e.kv, e.bv] := rfl
  simp only [ex] at sE oA hend hrg i10e
  clear ex
  obtain ⟨v6, h6⟩ : ∃ v, v = e.dv := ⟨_, rfl⟩
  obtain ⟨v8, h8⟩ : ∃ v, v = e.kv := ⟨_, rfl⟩
  obtain ⟨v9, h9⟩ : ∃ v, v = e.bv := ⟨_, rfl⟩
  simp only [← h6, ← h8, ← h9] at sE oA hend hrg i10e
  clear h6 h8 h9
  conv => arg 2; whnf
  go_wp2_with (first | (refine wpList_load_mid rfl 41 _ rfl q 0 rfl _ _ hrg Try.underlying41 rfl i10e ?_) | (at_builtin; refine wpList_app TSt rfl rfl oA sE (by omega) (by omega) ?_; intro oo2 oc2 w6 o6 _ k6 b6))
  exact hend oo2 oc2 w6 o6 k6 b6


set_option maxRecDepth 100000 in
set_option maxHeartbeats 4000000 in
theorem proj13 (q : Nat) (lo : List Ex) (e : Ex) (sx : StX) (hes : e = turnE sx) (oo : Option Addr) (m oc : Nat) {c0 c1 c2 c3 c5 c6 c7 c9 c10 c11 c12 c13 c14 c15 c16 c17 c18 c19 c20 c21 c22 c23 c24 c25 c26 c27 c28 c29 c30 c31 c32 c33 c34 c35 c36 c37 c38 c39 c40 c41 c42 c43 c44 c45 c46 c47 c48 c49 c50 c51 c52 c53 c54 c55 c56 c57 c58 c59 c60 c61 c62 c63 : Value} (w1 w : World) (o : Own w 41 10 oo m oc (lo.flatMap exV)) (hO : Hid (∀ e ∈ lo, exO w e)) (eo : exO w e) (G : Grow w1 w) (fo : ∀ y ∈ blk oo, w1.heap.size ≤ y) (dis : Hid (∀ e ∈ lo, ∀ y ∈ e.bl, y ∉ blk oo)) (de : ∀ y ∈ e.bl, y ∉ blk oo) (hm : m ≤ 100000) (hc2 : w.cell? ⟨q, 2, none⟩ = some (.string (str sx.cmd.pass))) {Q : Exit → Act → World → Prop}
    (hQ : ∀ (oo' : Option Addr) (oc' : Nat) (w' : World), Own w' 41 10 oo' (m + 1) oc' ((lo ++ [e]).flatMap exV) → Hid (∀ x ∈ lo ++ [e], exO w' x) → Grow w1 w' → (∀ y ∈ blk oo', w1.heap.size ≤ y) → Hid (∀ x ∈ lo ++ [e], ∀ y ∈ x.bl, y ∉ blk oo') → ∀ {u54 u55 u56 u57 u58 u59 u60 u61 : Value}, Q .normal ⟨List.toArray (c0 :: c1 :: c2 :: c3 :: .slice oo' (m + 1) oc' :: c5 :: c6 :: c7 :: .pointer (some ⟨q, 0, none⟩) :: c9 :: c10 :: c11 :: c12 :: c13 :: c14 :: c15 :: c16 :: c17 :: c18 :: c19 :: c20 :: c21 :: c22 :: c23 :: c24 :: c25 :: c26 :: c27 :: c28 :: c29 :: c30 :: c31 :: c32 :: c33 :: c34 :: c35 :: c36 :: c37 :: c38 :: c39 :: c40 :: c41 :: c42 :: c43 :: c44 :: c45 :: c46 :: c47 :: c48 :: c49 :: c50 :: c51 :: c52 :: c53 :: u54 :: u55 :: u56 :: u57 :: u58 :: u59 :: u60 :: u61 :: c62 :: c63 :: []), []⟩ w') :
    Code.wp Try.prog (regionAt Try.f7 13) Q ⟨List.toArray (c0 :: c1 :: c2 :: c3 :: .slice oo m oc :: c5 :: c6 :: c7 :: .pointer (some ⟨q, 0, none⟩) :: c9 :: c10 :: c11 :: c12 :: c13 :: c14 :: c15 :: c16 :: c17 :: c18 :: c19 :: c20 :: c21 :: c22 :: c23 :: c24 :: c25 :: c26 :: c27 :: c28 :: c29 :: c30 :: c31 :: c32 :: c33 :: c34 :: c35 :: c36 :: c37 :: c38 :: c39 :: c40 :: c41 :: c42 :: c43 :: c44 :: c45 :: c46 :: c47 :: c48 :: c49 :: c50 :: c51 :: c52 :: c53 :: c54 :: c55 :: c56 :: c57 :: c58 :: c59 :: c60 :: c61 :: c62 :: c63 :: []), []⟩ w := by
  have hml : maxLen = 9223372036854775807 := rfl
  have ga := Grow.alloc w (.cells (exV e).toArray 41)
  have sE : Sl (w.alloc (.cells (exV e).toArray 41)) 10 (some ⟨w.heap.size, 0, none⟩) 1 1 (exV e) := (Own.made (n := 1) (sz := 10) (heap_alloc_new w (.cells (exV e).toArray 41)) rfl (by decide) (exV_one _)).sl
  have oA := o.grow ga
  have hz := sz_al w (.cells (exV e).toArray 41)
  have hend : ∀ (oo' : Option Addr) (oc' : Nat) (w' : World), Own w' 41 10 oo' (m + 1) oc' (lo.flatMap exV ++ exV e) → Keep (blk oo) (w.alloc (.cells (exV e).toArray 41)) w' → (∀ g ∈ blk oo', g ∈ blk oo ∨ (w.alloc (.cells (exV e).toArray 41)).heap.size ≤ g) → ∀ {u54 u55 u56 u57 u58 u59 u60 u61 : Value}, Q .normal ⟨List.toArray (c0 :: c1 :: c2 :: c3 :: .slice oo' (m + 1) oc' :: c5 :: c6 :: c7 :: .pointer (some ⟨q, 0, none⟩) :: c9 :: c10 :: c11 :: c12 :: c13 :: c14 :: c15 :: c16 :: c17 :: c18 :: c19 :: c20 :: c21 :: c22 :: c23 :: c24 :: c25 :: c26 :: c27 :: c28 :: c29 :: c30 :: c31 :: c32 :: c33 :: c34 :: c35 :: c36 :: c37 :: c38 :: c39 :: c40 :: c41 :: c42 :: c43 :: c44 :: c45 :: c46 :: c47 :: c48 :: c49 :: c50 :: c51 :: c52 :: c53 :: u54 :: u55 :: u56 :: u57 :: u58 :: u59 :: u60 :: u61 :: c62 :: c63 :: []), []⟩ w' := fun oo' oc' w' o' k' b' => by
    have hall : ∀ x ∈ lo ++ [e], exO w' x ∧ ∀ y ∈ x.bl, y ∉ blk oo' := fun x hx => by
      have h1 : exO w x ∧ ∀ y ∈ x.bl, y ∉ blk oo := by
        rcases List.mem_append.1 hx with h | h
        · exact ⟨hO.out x h, dis.out x h⟩
        · obtain rfl : x = e := by simpa using h
          exact ⟨eo, de⟩
      refine ⟨(h1.1.keep (Keep.of_grow [] ga) (by simp)).keep k' h1.2, fun y hy hm => ?_⟩
      rcases b' y hm with h | h
      · exact h1.2 y hy h
      · have := h1.1.lt y hy; omega
    intro u54 u55 u56 u57 u58 u59 u60 u61
    exact hQ oo' oc' w' (by rw [List.flatMap_append]; simpa using o') (Lib.hid fun x hx => (hall x hx).1) ((G.trans ga).then k' fo) (fun y hy => by
      rcases b' y hy with h | h
      · exact fo y h
      · have := G.size; omega) (Lib.hid fun x hx => (hall x hx).2)
  clear hQ o hO eo G fo dis de hz ga
  have hb1 := built_turn (str sx.cmd.pass)
  have hb2 := built_turn2 (str sx.cmd.pass)
  have ex : exV e = [.int .i64 1, .int .i64 3, .string (str sx.cmd.pass), .string .empty, .int .i64 0, .int .i64 0, .slice none 0 0, .int .i64 0, .slice none 0 0, .slice none 0 0] := by rw [hes]; rfl
  simp only [ex] at sE oA hend
  clear ex hes
  conv => arg 2; whnf
  go_wp2_with (first | (refine wpList_built rfl 39 [(0, .const (.int .i64 3)), (1, .tmp 57)] rfl rfl hb1 ?_) | (refine wpList_built rfl 41 [(0, .const (.int .i64 1)), (1, .tmp 58)] rfl rfl hb2 ?_) | (at_builtin; refine wpList_app TSt rfl rfl oA sE (by omega) (by omega) ?_; intro oo2 oc2 w6 o6 _ k6 b6))
  exact hend oo2 oc2 w6 o6 k6 b6

set_option maxRecDepth 100000 in
set_option maxHeartbeats 8000000 in
theorem projC (S : Nat) (hS1 : 96 ≤ S) (hS : S ≤ 300) (l : List Ex) (ao : Option Addr) (n c : Nat) (hn : n = l.length) (hn2 : n ≤ 1000) (hd : ∀ e ∈ l, e.s.cmd.data.length ≤ 1000000 ∧ e.s.keep.length ≤ 1000000 ∧ e.s.data.length ≤ 1000000) (w : World) (s : Sl w 10 ao n c (l.flatMap exV)) (hg : ∀ e ∈ l, exG w e) (R : Ending → World → Prop)
    (hR0 : (n = 0 ∨ kindsS S startS (l.map (·.s)) = none) → ∀ w', Grow w w' → R (.returned (.tuple #[.slice none 0 0, .bool false])) w')
    (hR1 : ∀ ks, kindsS S startS (l.map (·.s)) = some ks → 0 < n → ∀ (lo : List Ex) oo m oc w', Own w' 41 10 oo m oc (lo.flatMap exV) → lo.length = m → lo.map (·.s) = projS (l.map (·.s)) ks → (∀ e ∈ lo, exG w' e) → Grow w w' → R (.returned (.tuple #[.slice oo m oc, .bool true])) w') :
    Calls Try.prog 7 #[.int .i64 (S : Int), .slice ao n c] w R := by
  have hml : maxLen = 9223372036854775807 := rfl
  have hks := s.hle
  have hkm := s.hcap
  have hkC := kindsC S hS1 hS l ao n c hn hn2 (fun e he => (hd e he).1) w s
  have Hn := Lib.hid hn
  have Hd := Lib.hid hd
  have Hg := Lib.hid hg
  have HR0 := Lib.hid hR0
  have HR1 := Lib.hid hR1
  clear hn hd hg hR0 hR1
  go_enter Try.func7, Try.ntmps7
  go_wp2_with fail
  refine hkC _ ?_
  clear hkC
  intro ko kc w1 oK g1 fK
  have hkl : (kindsT S (l.map (·.s))).length = n := by
    unfold kindsT
    cases h : kindsS S startS (l.map (·.s)) with
    | none => simp [Hn.out]
    | some ks => have := kindsS_len S _ _ _ h; simp at this ⊢; rw [this, Hn.out]
  by_cases hn0 : n = 0
  · subst hn0
    have hf := HR0.out (.inl rfl) w1 g1
    clear HR0 HR1
    go_wp2_with fail
    exact hf
  cases hke : kindsS S startS (l.map (·.s)) with
  | none =>
    have hkT : kindsT S (l.map (·.s)) = List.replicate n 4 := by unfold kindsT; rw [hke, Hn.out]; simp
    rw [hkT] at oK
    obtain ⟨gk, offk, eg, hck⟩ := oK.sl.hat (by omega)
    subst eg
    have ck := hck.at (i := 0) (v := .int .i64 4) (by obtain ⟨m, rfl⟩ : ∃ m, n = m + 1 := ⟨n - 1, by omega⟩; simp [List.replicate_succ])
    rw [Nat.add_zero] at ck
    have hn00 : ((n : Int) == 0) = false := by simp; omega
    have hf := HR0.out (.inr hke) w1 g1
    clear HR0 HR1 hkT hck oK
    go_wp2_with fail
    exact hf
  | some ks =>
    have hkT : kindsT S (l.map (·.s)) = ks := by unfold kindsT; rw [hke]; rfl
    rw [hkT] at oK hkl
    have hka := kindsS_all S _ _ _ hke
    have HK := Lib.hid hke
    obtain ⟨gk, offk, eg, hck⟩ := oK.sl.hat (by omega)
    subst eg
    have hk0 : (ks[0]'(by omega) == 4) = false := by
      have := hka _ (List.getElem_mem (show 0 < ks.length by omega))
      simp; omega
    have ck := hck.at (i := 0) (v := .int .i64 (ks[0]'(by omega))) (by simp)
    rw [Nat.add_zero] at ck
    have hn00 : ((n : Int) == 0) = false := by simp; omega
    obtain ⟨k0, hk0e⟩ : ∃ k0, k0 = ks[0]'(by omega) := ⟨_, rfl⟩
    rw [← hk0e] at hk0 ck
    clear hke hkT hck HR0 hk0e
    go_upto_region 4 with (fail)
    have Hn0 := Lib.hid hn0
    clear ck hk0 hn00 hn0
    have hkl2 : ks.length = l.length := by rw [← Hn.out]; exact hkl
    have s1 := s.grow g1
    have sK := oK.sl
    have lK := oK.lt
    clear oK s
    have hlt1 : gk < w1.heap.size := lK gk (by simp [blk])
    clear lK fK
    go_wp2_with fail
    go_loopw [4, 23] (fun vo vi wr => ∃ (i : Nat) (oo : Option Addr) (m oc : Nat) (lo : List Ex), vo = .slice oo m oc ∧ vi = .int .i64 (i : Int) ∧ i ≤ n ∧ m ≤ i ∧ Hid (lo.map (·.s) = projS ((l.map (·.s)).take i) (ks.take i)) ∧ Hid (lo.length = m) ∧ Own wr 41 10 oo m oc (lo.flatMap exV) ∧ Hid (∀ e ∈ lo, exO wr e) ∧ Grow w1 wr ∧ (∀ y ∈ blk oo, w1.heap.size ≤ y) ∧ Hid (∀ e ∈ lo, ∀ y ∈ e.bl, y ∉ blk oo)) (fun _ vi _ => n - (intOf vi).toNat)
    case atStart => exact ⟨0, none, 0, 0, [], rfl, by simp, by omega, by omega, Lib.hid (by simp [projS]), Lib.hid rfl, Own.none _ _ _, Lib.hid (by simp), Grow.refl _, by simp [blk], Lib.hid (by simp)⟩
    case round =>
      obtain ⟨i, oo, m, oc, lo, rfl, rfl, hi, hm, hpr, hlo, oOut, hO, g, fo, dis⟩ := hrel
      by_cases hlt : i < n
      · have hlt2 : i < l.length := by rw [← Hn.out]; exact hlt
        have hlt3 : i < ks.length := by omega
        obtain ⟨gb, off, eg, hcs⟩ := (s1.grow g).hat (by omega)
        subst eg
        obtain ⟨gk', offk', eg, hck⟩ := (sK.grow g).hat (by omega)
        cases eg
        obtain ⟨e, he⟩ : ∃ e, e = l[i]'hlt2 := ⟨_, rfl⟩
        obtain ⟨k, hk⟩ : ∃ k, k = ks[i]'hlt3 := ⟨_, rfl⟩
        have hmem : e ∈ l := by rw [he]; exact List.getElem_mem hlt2
        have hk3 := hka k (by rw [hk]; exact List.getElem_mem hlt3)
        have hpr2 : Hid (projS ((l.map (·.s)).take (i + 1)) (ks.take (i + 1)) = lo.map (·.s) ++ (if k = 1 then [e.s] else if k = 3 then [turnX e.s] else [])) := Lib.hid (by
          rw [projS_next _ _ i (by simpa using hlt2) (by simpa using hkl2), hpr.out, hk, he]; simp)
        have ck := hck.at (i := i) (v := .int .i64 k) (by rw [hk]; simp [hlt3])
        have hci : Cells wr gb (off + i * 10) (exV e) := by rw [he]; exact cells_ex hcs i hlt2
        have hrg : wr.rangeAt gb (off + i * 10) (exV e) := fun j v hj => hci.at hj
        obtain ⟨hdl, hkpl, hbl⟩ := Hd.out e hmem
        have hG := (Hg.out e hmem).grow (g1.trans g)
        have hVl := exV_len e
        have hV1 := exV_one e
        obtain ⟨V, hV⟩ : ∃ V, V = exV e := ⟨_, rfl⟩
        rw [← hV] at hrg hVl hV1
        have hsz : (Try.prog.info? 41).map (·.size) = some V.length := by rw [hVl]; exact i10
        have hszF : (Try.prog.info? 41).map (·.size) = some V.toArray.size := by rw [List.size_toArray, hVl]; exact i10
        obtain ⟨o4, ga1, th1, al1⟩ := newvarZ (n := 10) (t := 41) wr stZ rfl stZ_one (by omega) hVl hV1
        have HV := Lib.hid hV
        clear hV hci hcs hck hka hpr he hk hlt3
        go_upto_region 7 with (first | (refine wpList_load_mid rfl 41 _ rfl gb (off + i * 10) rfl V _ hrg Try.underlying41 rfl hsz ?_) | (refine wpList_store_mid rfl 41 _ _ rfl wr.heap.size 0 V.toArray rfl rfl th1 hszF al1 ?_))
        change Code.wp _ _ _ ⟨_, _⟩ ((wr.alloc (.cells stZ.toArray 41)).setCells wr.heap.size 0 V)
        have G3 := g.trans ga1
        have o3 := oOut.grow ga1
        have ck3 := ga1.cell ck
        have hG3 := hG.grow ga1
        have hO3 : Hid (∀ e ∈ lo, exO ((wr.alloc (.cells stZ.toArray 41)).setCells wr.heap.size 0 V) e) := Lib.hid (fun e he => (hO.out e he).keep (Keep.of_grow [] ga1) (by simp))
        have hqo : ∀ y ∈ blk oo, y < wr.heap.size := oOut.lt
        have hqe : Hid (∀ e ∈ lo, ∀ y ∈ e.bl, y < wr.heap.size) := Lib.hid (fun e he => (hO.out e he).lt)
        obtain ⟨q, hq⟩ : ∃ q, q = wr.heap.size := ⟨_, rfl⟩
        generalize (wr.alloc (.cells stZ.toArray 41)).setCells wr.heap.size 0 V = w3 at *
        rw [← hq] at o4 hqo hqe ⊢
        have hpq : w1.heap.size ≤ q := by have := g.size; omega
        clear hq th1 al1 ga1 hszF hrg oOut g ck hG hO
        rcases hk3 with rfl | rfl | rfl
        · go_upto_region 9 with (fail)
          refine proj9 q e hkpl hbl _ (by rw [← HV.out]; exact o4) hG3 ?_
          intro ka kc2 ba bc w4 o5 k4 oka oba fr
          intros
          have hd4 := (Hg.out e hmem).d.grow (g1.trans (G3.then k4 (fun y hy => by simp at hy; omega)))
          have G4 := G3.then k4 (fun y hy => by simp at hy; omega)
          have o4' := o3.keep k4 (fun y hy hm => by simp at hm; have := hqo y hy; omega)
          have hO4 : Hid (∀ e ∈ lo, exO w4 e) := Lib.hid (fun e he => (hO3.out e he).keep k4 (fun y hy hm => by simp at hm; have := hqe.out e he y hy; omega))
          have hz3 : q < w3.heap.size := o4.lt q (by simp [blk])
          have k4s := k4.size
          clear k4 o4 hG3 G3 o3 hO3 ck3
          obtain ⟨gl, off6, eg, hcs⟩ := o5.sl.hat (by omega)
          cases eg
          have c6 := hcs.at (i := 6) (v := e.dv) rfl
          simp only [Nat.zero_add, Ex.dv] at c6
          have hcb := cloneBy e.da e.s.cmd.data.length e.dc (e.s.cmd.data.map B) w4 hd4 hdl
          go_upto_region 10 with (fail)
          go_wp2_with fail
          refine hcb _ ?_
          clear hcb hcs
          intro da2 dc2 w5 oda g5 f5
          obtain ⟨gq, v6, eq, hv6, hf6, hput⟩ := own_put (o5.grow g5) (i := 6) (by omega)
          cases eq
          have o6 := hput (.slice da2 e.s.cmd.data.length dc2) rfl
          have k6 : Keep [q] w5 (w5.setCell ⟨q, 6, none⟩ (.slice da2 e.s.cmd.data.length dc2)) := Keep.setCell w5 ⟨q, 6, none⟩ (by simp) _
          clear hput
          go_upto_region 11 with (fail)
          have G6 := G4.then (Keep.trans (Keep.of_grow [q] g5) k6) (fun y hy => by simp at hy; omega)
          have oOut6 := (o4'.grow g5).keep k6 (fun y hy hm => by simp at hm; have := hqo y hy; omega)
          have hO6 : Hid (∀ x ∈ lo, exO (w5.setCell ⟨q, 6, none⟩ (.slice da2 e.s.cmd.data.length dc2)) x) := Lib.hid (fun e' he => ((hO4.out e' he).keep (Keep.of_grow [] g5) (by simp)).keep k6 (fun y hy hm => by simp at hm; have := hqe.out e' he y hy; omega))
          have d6 := oda.keep k6 (fun y hy hm => by simp at hm; have := f5 y hy; have := G4.size; have := (o5.lt q (by simp [blk])); omega)
          have ka6 := (oka.grow g5).keep k6 (fun y hy hm => by simp at hm; have := fr y (by simp [hy]); omega)
          have ba6 := (oba.grow g5).keep k6 (fun y hy hm => by simp at hm; have := fr y (by simp [hy]); omega)
          have hz4 : w3.heap.size ≤ w4.heap.size := k4s
          have e6 : exO (w5.setCell ⟨q, 6, none⟩ (.slice da2 e.s.cmd.data.length dc2)) ⟨e.s, da2, dc2, ka, kc2, ba, bc⟩ := ⟨d6, ka6, ba6⟩
          have de : ∀ y ∈ Ex.bl ⟨e.s, da2, dc2, ka, kc2, ba, bc⟩, y ∉ blk oo := fun y hy hm => by
            have h1 := hqo y hm
            simp only [Ex.bl, List.mem_append] at hy
            rcases hy with (hy | hy) | hy
            · have := f5 y hy; omega
            · have := fr y (by simp [hy]); omega
            · have := fr y (by simp [hy]); omega
          clear k6 o5 oka oba oda hv6 hf6 G4 o4' hO4 fr f5 g5 hd4 c6 d6 ka6 ba6
          generalize w5.setCell ⟨q, 6, none⟩ (.slice da2 e.s.cmd.data.length dc2) = w6 at *
          obtain ⟨e2, he2⟩ : ∃ e2 : Ex, e2 = ⟨e.s, da2, dc2, ka, kc2, ba, bc⟩ := ⟨_, rfl⟩
          have o6' : Own w6 41 1 (some ⟨q, 0, none⟩) 10 10 (exV e2) := by rw [he2]; exact o6
          rw [← he2] at e6 de
          have he2s : e2.s = e.s := by rw [he2]
          have hrg6 : w6.rangeAt q 0 (exV e2) := own_range o6' (by omega)
          have hsz2 : (Try.prog.info? 41).map (·.size) = some (exV e2).length := i10
          clear o6 o6' he2
          refine proj11 q lo e2 oo m oc w1 w6 oOut6 hO6 e6 G6 fo dis de (by omega) hrg6 ?_
          intro oo2 oc2 w7 o7 hO7 G7 fo7 dis7
          intros
          have hpr3 : Hid ((lo ++ [e2]).map (·.s) = projS ((l.map (·.s)).take (i + 1)) (ks.take (i + 1))) := Lib.hid (by rw [hpr2.out]; simp [he2s])
          have hlo3 : Hid ((lo ++ [e2]).length = m + 1) := Lib.hid (by simp [hlo.out])
          clear hpr2 hlo hO6 e6 de dis oOut6 hrg6 fo HV
          go_wp2_with fail
          exact ⟨⟨i + 1, oo2, m + 1, oc2, lo ++ [e2], rfl, by go_num, by omega, by omega, hpr3, hlo3, o7, hO7, G7, fo7, dis7⟩, by simp [intOf]; omega⟩
        · have hpr3 : Hid (lo.map (·.s) = projS ((l.map (·.s)).take (i + 1)) (ks.take (i + 1))) := Lib.hid (by rw [hpr2.out]; simp)
          clear hpr2 hG3 o4
          go_wp2_with fail
          exact ⟨⟨i + 1, oo, m, oc, lo, rfl, by go_num, by omega, by omega, hpr3, hlo, o3, hO3, G3, fo, dis⟩, by simp [intOf]; omega⟩
        · obtain ⟨gl, off6, eg, hcs⟩ := o4.sl.hat (by omega)
          cases eg
          have c2 := hcs.at (i := 2) (v := .string (str e.s.cmd.pass)) (by rw [HV.out]; rfl)
          simp only [Nat.zero_add] at c2
          clear hcs o4 hG3
          go_upto_region 13 with (fail)
          refine proj13 q lo (turnE e.s) e.s rfl oo m oc w1 w3 o3 hO3 (turnE_o _ _) G3 fo dis (by simp [turnE, Ex.bl, blk]) (by omega) c2 ?_
          intro oo2 oc2 w7 o7 hO7 G7 fo7 dis7
          intros
          have hpr3 : Hid ((lo ++ [turnE e.s]).map (·.s) = projS ((l.map (·.s)).take (i + 1)) (ks.take (i + 1))) := Lib.hid (by rw [hpr2.out]; simp [turnE])
          have hlo3 : Hid ((lo ++ [turnE e.s]).length = m + 1) := Lib.hid (by simp [hlo.out])
          clear hpr2 hlo dis o3 c2 fo HV hO3
          go_wp2_with fail
          exact ⟨⟨i + 1, oo2, m + 1, oc2, lo ++ [turnE e.s], rfl, by go_num, by omega, by omega, hpr3, hlo3, o7, hO7, G7, fo7, dis7⟩, by simp [intOf]; omega⟩
      · obtain rfl : i = n := by omega
        have hf := HR1.out ks HK.out (by have := Hn0.out; omega) lo oo m oc wr oOut hlo.out (by rw [hpr.out, List.take_of_length_le (by simp; omega), List.take_of_length_le (by omega)]) (fun e he => (hO.out e he).g) (g1.trans g)
        clear HR1 hpr hlo oOut hO g dis
        go_wp2_with fail
        exact hf
end Go.Proofs.Ytgchbcopbkoomaa
