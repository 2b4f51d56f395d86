/- The ideal cipher: other, its small regions. -/
import Derived.Test.YtfmnkcmicbnfdaaIdlC
import Derived.Test.YtfmnkcmicbnfdaaStrK
namespace Go.Proofs.Ytfmnkcmicbnfdaa
open Go Go.RowKit


set_option maxRecDepth 100000 in
set_option maxHeartbeats 1000000 in
theorem oth3 (q10 q12 : Nat) (V Z : List Value) (hVl : V.length = 16) (hV1 : ∀ v ∈ V, v.oneCell' = true) {c0 c1 c2 c3 c4 c5 c6 c7 c8 c9 c11 c13 c14 c15 c16 c17 c18 c19 c20 c21 c22 c23 c24 c25 c26 c27 c28 c29 c30 c31 c32 c33 c34 c35 c36 c37 c38 c39 c40 c41 c42 c43 c44 c45 c46 c47 c48 c49 c50 c51 c52 c53 c54 c55 c56 c57 c58 c59 c60 c61 c62 c63 c64 c65 c66 c67 c68 c69 c70 c71 : Value} (w : World) (o12 : Own w 33 1 (some ⟨q12, 0, none⟩) 16 16 V) (o10 : Own w 33 1 (some ⟨q10, 0, none⟩) 16 16 Z) {Q : Exit → Act → World → Prop}
    (hQ : ∀ (w' : World), Own w' 33 1 (some ⟨q10, 0, none⟩) 16 16 V → Keep [q10] w w' → ∀ {u26 : Value}, Q .normal ⟨List.toArray (c0 :: c1 :: c2 :: c3 :: c4 :: c5 :: c6 :: c7 :: c8 :: c9 :: .pointer (some ⟨q10, 0, none⟩) :: .int .i64 0 :: .pointer (some ⟨q12, 0, none⟩) :: c13 :: c14 :: c15 :: c16 :: c17 :: c18 :: c19 :: c20 :: c21 :: c22 :: c23 :: c24 :: c25 :: u26 :: c27 :: c28 :: c29 :: c30 :: c31 :: c32 :: c33 :: c34 :: c35 :: c36 :: c37 :: c38 :: c39 :: c40 :: c41 :: c42 :: c43 :: c44 :: c45 :: c46 :: c47 :: c48 :: c49 :: c50 :: c51 :: c52 :: c53 :: c54 :: c55 :: c56 :: c57 :: c58 :: c59 :: c60 :: c61 :: c62 :: c63 :: c64 :: c65 :: c66 :: c67 :: c68 :: c69 :: c70 :: c71 :: []), []⟩ w') :
    Code.wp Try.prog (regionAt Try.f57 3) Q ⟨List.toArray (c0 :: c1 :: c2 :: c3 :: c4 :: c5 :: c6 :: c7 :: c8 :: c9 :: .pointer (some ⟨q10, 0, none⟩) :: c11 :: .pointer (some ⟨q12, 0, none⟩) :: c13 :: c14 :: c15 :: c16 :: c17 :: c18 :: c19 :: c20 :: c21 :: c22 :: c23 :: c24 :: c25 :: c26 :: c27 :: c28 :: c29 :: c30 :: c31 :: c32 :: c33 :: c34 :: c35 :: c36 :: c37 :: c38 :: c39 :: c40 :: c41 :: c42 :: c43 :: c44 :: c45 :: c46 :: c47 :: c48 :: c49 :: c50 :: c51 :: c52 :: c53 :: c54 :: c55 :: c56 :: c57 :: c58 :: c59 :: c60 :: c61 :: c62 :: c63 :: c64 :: c65 :: c66 :: c67 :: c68 :: c69 :: c70 :: c71 :: []), []⟩ w := by
  have hml : maxLen = 9223372036854775807 := rfl
  obtain ⟨r1, r3, r4⟩ := store_arr (P := Try.prog) hVl hV1 o10 i16
  have hrg := own_range o12 (by omega)
  have hth := own_there o10 V.toArray.size (by simpa using hVl)
  have hsz : (Try.prog.info? 33).map (·.size) = some V.toArray.size := by rw [List.size_toArray, hVl]; exact i16
  have hsz2 : (Try.prog.info? 33).map (·.size) = some V.length := by rw [hVl]; exact i16
  have hall := one_all hV1
  have hf := @hQ _ r3 r4
  clear r1 r3 r4 o12 o10 hQ
  conv => arg 2; whnf
  go_wp2_with (first | refine wpList_load_mid rfl 33 _ rfl q12 0 rfl V _ hrg Try.underlying33 rfl hsz2 ?_ | refine wpList_store_mid rfl 33 _ _ rfl q10 0 V.toArray rfl rfl hth hsz hall ?_)
  exact hf


set_option maxRecDepth 100000 in
set_option maxHeartbeats 1000000 in
theorem oth12 (q10 q12 : Nat) (V Z : List Value) (hVl : V.length = 16) (hV1 : ∀ v ∈ V, v.oneCell' = true) {c0 c1 c2 c3 c4 c5 c6 c7 c8 c9 c11 c12 c13 c14 c15 c17 c18 c19 c20 c21 c22 c23 c24 c25 c26 c27 c28 c29 c30 c31 c32 c33 c34 c35 c36 c37 c38 c39 c40 c41 c42 c43 c44 c45 c46 c47 c48 c49 c50 c51 c52 c53 c54 c55 c56 c57 c58 c59 c60 c61 c62 c63 c64 c65 c66 c67 c68 c69 c70 c71 : Value} (w : World) (o12 : Own w 33 1 (some ⟨q12, 0, none⟩) 16 16 V) (o10 : Own w 33 1 (some ⟨q10, 0, none⟩) 16 16 Z) {Q : Exit → Act → World → Prop}
    (hQ : ∀ (w' : World), Own w' 33 1 (some ⟨q10, 0, none⟩) 16 16 V → Keep [q10] w w' → ∀ {u64 : Value}, Q .normal ⟨List.toArray (c0 :: c1 :: c2 :: c3 :: c4 :: c5 :: c6 :: c7 :: c8 :: c9 :: .pointer (some ⟨q10, 0, none⟩) :: .int .i64 0 :: c12 :: c13 :: c14 :: c15 :: .pointer (some ⟨q12, 0, none⟩) :: c17 :: c18 :: c19 :: c20 :: c21 :: c22 :: c23 :: c24 :: c25 :: c26 :: c27 :: c28 :: c29 :: c30 :: c31 :: c32 :: c33 :: c34 :: c35 :: c36 :: c37 :: c38 :: c39 :: c40 :: c41 :: c42 :: c43 :: c44 :: c45 :: c46 :: c47 :: c48 :: c49 :: c50 :: c51 :: c52 :: c53 :: c54 :: c55 :: c56 :: c57 :: c58 :: c59 :: c60 :: c61 :: c62 :: c63 :: u64 :: c65 :: c66 :: c67 :: c68 :: c69 :: c70 :: c71 :: []), []⟩ w') :
    Code.wp Try.prog (regionAt Try.f57 12) Q ⟨List.toArray (c0 :: c1 :: c2 :: c3 :: c4 :: c5 :: c6 :: c7 :: c8 :: c9 :: .pointer (some ⟨q10, 0, none⟩) :: c11 :: c12 :: c13 :: c14 :: c15 :: .pointer (some ⟨q12, 0, none⟩) :: c17 :: c18 :: c19 :: c20 :: c21 :: c22 :: c23 :: c24 :: c25 :: c26 :: c27 :: c28 :: c29 :: c30 :: c31 :: c32 :: c33 :: c34 :: c35 :: c36 :: c37 :: c38 :: c39 :: c40 :: c41 :: c42 :: c43 :: c44 :: c45 :: c46 :: c47 :: c48 :: c49 :: c50 :: c51 :: c52 :: c53 :: c54 :: c55 :: c56 :: c57 :: c58 :: c59 :: c60 :: c61 :: c62 :: c63 :: c64 :: c65 :: c66 :: c67 :: c68 :: c69 :: c70 :: c71 :: []), []⟩ w := by
  have hml : maxLen = 9223372036854775807 := rfl
  obtain ⟨r1, r3, r4⟩ := store_arr (P := Try.prog) hVl hV1 o10 i16
  have hrg := own_range o12 (by omega)
  have hth := own_there o10 V.toArray.size (by simpa using hVl)
  have hsz : (Try.prog.info? 33).map (·.size) = some V.toArray.size := by rw [List.size_toArray, hVl]; exact i16
  have hsz2 : (Try.prog.info? 33).map (·.size) = some V.length := by rw [hVl]; exact i16
  have hall := one_all hV1
  have hf := @hQ _ r3 r4
  clear r1 r3 r4 o12 o10 hQ
  conv => arg 2; whnf
  go_wp2_with (first | refine wpList_load_mid rfl 33 _ rfl q12 0 rfl V _ hrg Try.underlying33 rfl hsz2 ?_ | refine wpList_store_mid rfl 33 _ _ rfl q10 0 V.toArray rfl rfl hth hsz hall ?_)
  exact hf

def zB : List Value := List.replicate 16 (.int .u8 0)

set_option maxRecDepth 100000 in
set_option maxHeartbeats 1000000 in
theorem oth6 (q10 : Nat) (e : Int) (Z : List Value) {c0 c1 c2 c3 c4 c5 c6 c7 c8 c9 c11 c12 c13 c14 c16 c17 c18 c19 c20 c21 c22 c23 c24 c25 c26 c27 c28 c29 c30 c31 c32 c33 c34 c35 c36 c37 c38 c39 c40 c41 c42 c43 c44 c45 c46 c47 c48 c49 c50 c51 c52 c53 c54 c55 c56 c57 c58 c59 c60 c61 c62 c63 c64 c65 c66 c67 c68 c69 c70 c71 : Value} (w : World) (o10 : Own w 33 1 (some ⟨q10, 0, none⟩) 16 16 Z) {Q : Exit → Act → World → Prop}
    (hQ : ∀ (w' : World), Own w' 33 1 (some ⟨q10, 0, none⟩) 16 16 zB → Keep [q10] w w' → ∀ {u38 u39 : Value}, Q .normal ⟨List.toArray (c0 :: c1 :: c2 :: c3 :: c4 :: c5 :: c6 :: c7 :: c8 :: c9 :: .pointer (some ⟨q10, 0, none⟩) :: .int .i64 e :: c12 :: c13 :: c14 :: .int .i64 e :: c16 :: c17 :: c18 :: c19 :: c20 :: c21 :: c22 :: c23 :: c24 :: c25 :: c26 :: c27 :: c28 :: c29 :: c30 :: c31 :: c32 :: c33 :: c34 :: c35 :: c36 :: c37 :: u38 :: u39 :: c40 :: c41 :: c42 :: c43 :: c44 :: c45 :: c46 :: c47 :: c48 :: c49 :: c50 :: c51 :: c52 :: c53 :: c54 :: c55 :: c56 :: c57 :: c58 :: c59 :: c60 :: c61 :: c62 :: c63 :: c64 :: c65 :: c66 :: c67 :: c68 :: c69 :: c70 :: c71 :: []), []⟩ w') :
    Code.wp Try.prog (regionAt Try.f57 6) Q ⟨List.toArray (c0 :: c1 :: c2 :: c3 :: c4 :: c5 :: c6 :: c7 :: c8 :: c9 :: .pointer (some ⟨q10, 0, none⟩) :: c11 :: c12 :: c13 :: c14 :: .int .i64 e :: c16 :: c17 :: c18 :: c19 :: c20 :: c21 :: c22 :: c23 :: c24 :: c25 :: c26 :: c27 :: c28 :: c29 :: c30 :: c31 :: c32 :: c33 :: c34 :: c35 :: c36 :: c37 :: c38 :: c39 :: c40 :: c41 :: c42 :: c43 :: c44 :: c45 :: c46 :: c47 :: c48 :: c49 :: c50 :: c51 :: c52 :: c53 :: c54 :: c55 :: c56 :: c57 :: c58 :: c59 :: c60 :: c61 :: c62 :: c63 :: c64 :: c65 :: c66 :: c67 :: c68 :: c69 :: c70 :: c71 :: []), []⟩ w := by
  have hml : maxLen = 9223372036854775807 := rfl
  have hz1 : ∀ v ∈ zB, v.oneCell' = true := fun v hv => by rw [List.eq_of_mem_replicate hv]; rfl
  obtain ⟨r1, r3, r4⟩ := store_arr (P := Try.prog) (X := zB) rfl hz1 o10 i16
  have hth := own_there o10 zB.toArray.size (by decide)
  have hsz : (Try.prog.info? 33).map (·.size) = some zB.toArray.size := i16
  have hall := one_all hz1
  have hf := @hQ _ r3 r4
  clear r1 r3 r4 o10 hQ
  conv => arg 2; whnf
  go_wp2_with (refine wpList_store_mid rfl 33 _ _ rfl q10 0 zB.toArray rfl rfl hth hsz hall ?_)
  exact hf


set_option maxRecDepth 100000 in
set_option maxHeartbeats 1000000 in
theorem oth11 (p cnt : Nat) (hc : cnt ≤ 1000000) (a b c d : Value) {c1 c2 c3 c4 c5 c6 c7 c8 c9 c10 c11 c12 c13 c14 c15 c16 c17 c18 c19 c20 c21 c22 c23 c24 c25 c26 c27 c28 c29 c30 c31 c32 c33 c34 c35 c36 c37 c38 c39 c40 c41 c42 c43 c44 c45 c46 c47 c48 c49 c50 c51 c52 c53 c54 c55 c56 c57 c58 c59 c60 c61 c62 c63 c64 c65 c66 c67 c68 c69 c70 c71 : Value} (w : World) (ho : w.heap[p]? = some (.cells #[a, b, c, .int .i64 (cnt : Int), d] 102 (0, 0))) {Q : Exit → Act → World → Prop}
    (hQ : ∀ (w' : World), w'.heap[p]? = some (.cells #[a, b, c, .int .i64 ((cnt + 1 : Nat) : Int), d] 102 (0, 0)) → Keep [p] w w' → ∀ {u57 u58 u59 u60 u61 u62 u63 : Value}, Q .normal ⟨List.toArray (.pointer (some ⟨p, 0, none⟩) :: c1 :: c2 :: c3 :: c4 :: c5 :: c6 :: c7 :: c8 :: c9 :: c10 :: c11 :: c12 :: c13 :: c14 :: c15 :: c16 :: c17 :: c18 :: c19 :: c20 :: c21 :: c22 :: c23 :: c24 :: c25 :: c26 :: c27 :: c28 :: c29 :: c30 :: c31 :: c32 :: c33 :: c34 :: c35 :: c36 :: c37 :: c38 :: c39 :: c40 :: c41 :: c42 :: c43 :: c44 :: c45 :: c46 :: c47 :: c48 :: c49 :: c50 :: c51 :: c52 :: c53 :: c54 :: c55 :: c56 :: u57 :: u58 :: u59 :: u60 :: u61 :: u62 :: u63 :: c64 :: c65 :: c66 :: c67 :: c68 :: c69 :: c70 :: c71 :: []), []⟩ w') :
    Code.wp Try.prog (regionAt Try.f57 11) Q ⟨List.toArray (.pointer (some ⟨p, 0, none⟩) :: c1 :: c2 :: c3 :: c4 :: c5 :: c6 :: c7 :: c8 :: c9 :: c10 :: c11 :: c12 :: c13 :: c14 :: c15 :: c16 :: c17 :: c18 :: c19 :: c20 :: c21 :: c22 :: c23 :: c24 :: c25 :: c26 :: c27 :: c28 :: c29 :: c30 :: c31 :: c32 :: c33 :: c34 :: c35 :: c36 :: c37 :: c38 :: c39 :: c40 :: c41 :: c42 :: c43 :: c44 :: c45 :: c46 :: c47 :: c48 :: c49 :: c50 :: c51 :: c52 :: c53 :: c54 :: c55 :: c56 :: c57 :: c58 :: c59 :: c60 :: c61 :: c62 :: c63 :: c64 :: c65 :: c66 :: c67 :: c68 :: c69 :: c70 :: c71 :: []), []⟩ w := by
  have hml : maxLen = 9223372036854775807 := rfl
  have c3 := obj_cell ho 3 rfl
  have f3 := obj_free ho 3
  have hs := obj_set ho 3 (.int .i64 ((cnt : Int) + 1))
  have hf := @hQ _ (by rw [hs]; simp) (Keep.setCell (fp := [p]) w ⟨p, 3, none⟩ (by simp) (.int .i64 ((cnt : Int) + 1)))
  clear hs hQ ho
  conv => arg 2; whnf
  go_wp2_with fail
  exact hf


set_option maxRecDepth 100000 in
set_option maxHeartbeats 1000000 in
theorem oth13 (p ag : Nat) (hc : ag ≤ 1000000) (a b c d : Value) {c1 c2 c3 c4 c5 c6 c7 c8 c9 c10 c11 c12 c13 c14 c15 c16 c17 c18 c19 c20 c21 c22 c23 c24 c25 c26 c27 c28 c29 c30 c31 c32 c33 c34 c35 c36 c37 c38 c39 c40 c41 c42 c43 c44 c45 c46 c47 c48 c49 c50 c51 c52 c53 c54 c55 c56 c57 c58 c59 c60 c61 c62 c63 c64 c65 c66 c67 c68 c69 c70 c71 : Value} (w : World) (ho : w.heap[p]? = some (.cells #[a, b, c, d, .int .i64 (ag : Int)] 102 (0, 0))) {Q : Exit → Act → World → Prop}
    (hQ : ∀ (w' : World), w'.heap[p]? = some (.cells #[a, b, c, d, .int .i64 ((ag + 1 : Nat) : Int)] 102 (0, 0)) → Keep [p] w w' → ∀ {u65 u66 u67 u68 u69 u70 u71 : Value}, Q .normal ⟨List.toArray (.pointer (some ⟨p, 0, none⟩) :: c1 :: c2 :: c3 :: c4 :: c5 :: c6 :: c7 :: c8 :: c9 :: c10 :: c11 :: c12 :: c13 :: c14 :: c15 :: c16 :: c17 :: c18 :: c19 :: c20 :: c21 :: c22 :: c23 :: c24 :: c25 :: c26 :: c27 :: c28 :: c29 :: c30 :: c31 :: c32 :: c33 :: c34 :: c35 :: c36 :: c37 :: c38 :: c39 :: c40 :: c41 :: c42 :: c43 :: c44 :: c45 :: c46 :: c47 :: c48 :: c49 :: c50 :: c51 :: c52 :: c53 :: c54 :: c55 :: c56 :: c57 :: c58 :: c59 :: c60 :: c61 :: c62 :: c63 :: c64 :: u65 :: u66 :: u67 :: u68 :: u69 :: u70 :: u71 :: []), []⟩ w') :
    Code.wp Try.prog (regionAt Try.f57 13) Q ⟨List.toArray (.pointer (some ⟨p, 0, none⟩) :: c1 :: c2 :: c3 :: c4 :: c5 :: c6 :: c7 :: c8 :: c9 :: c10 :: c11 :: c12 :: c13 :: c14 :: c15 :: c16 :: c17 :: c18 :: c19 :: c20 :: c21 :: c22 :: c23 :: c24 :: c25 :: c26 :: c27 :: c28 :: c29 :: c30 :: c31 :: c32 :: c33 :: c34 :: c35 :: c36 :: c37 :: c38 :: c39 :: c40 :: c41 :: c42 :: c43 :: c44 :: c45 :: c46 :: c47 :: c48 :: c49 :: c50 :: c51 :: c52 :: c53 :: c54 :: c55 :: c56 :: c57 :: c58 :: c59 :: c60 :: c61 :: c62 :: c63 :: c64 :: c65 :: c66 :: c67 :: c68 :: c69 :: c70 :: c71 :: []), []⟩ w := by
  have hml : maxLen = 9223372036854775807 := rfl
  have c4 := obj_cell ho 4 rfl
  have f4 := obj_free ho 4
  have hs := obj_set ho 4 (.int .i64 ((ag : Int) + 1))
  have hf := @hQ _ (by rw [hs]; simp) (Keep.setCell (fp := [p]) w ⟨p, 4, none⟩ (by simp) (.int .i64 ((ag : Int) + 1)))
  clear hs hQ ho
  conv => arg 2; whnf
  go_wp2_with fail
  exact hf
end Go.Proofs.Ytfmnkcmicbnfdaa
