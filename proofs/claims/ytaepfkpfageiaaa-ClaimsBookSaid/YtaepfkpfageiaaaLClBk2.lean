/- The walk of ClaimsBook: one act. -/
import Derived.Test.YtaepfkpfageiaaaLClBk1
namespace Go.Proofs.Ytaepfkpfageiaaa
open Go Go.RowKit

theorem own_cells {w : World} {e : TypeId} {q n c : Nat} {xs : List Value} (o : Own w e 1 (some ⟨q, 0, none⟩) n c xs) (h : 0 < n) : Cells w q 0 xs := by
  obtain ⟨g, off, eg, hcs⟩ := o.sl.hat h
  cases eg
  exact hcs
theorem Cells.grow {w w' : World} {g off : Nat} {xs : List Value} (h : Cells w g off xs) (k : Grow w w') : Cells w' g off xs := h.keep (Keep.of_grow [] k) (by simp)
def acZ : List Value := [.int .i64 0, .slice none 0 0, .slice none 0 0, .slice none 0 0]
theorem acZ_one : ∀ v ∈ acZ, v.oneCell' = true := by simp [acZ, Value.oneCell']


set_option maxRecDepth 100000 in
set_option maxHeartbeats 1000000 in
theorem clBk11 (lo : Option Addr) (n cap i : Nat) (l : List Ac) (a : Ac) (hn : n = l.length) (hi : i < n) (ha : l[i]? = some a) {c1 c2 c3 c4 c5 c7 c8 c9 c10 c11 c12 c13 c14 c15 c16 c17 c18 c19 c20 c21 c22 c23 c24 c25 c26 c27 c28 c29 c30 c31 c32 c33 c34 c35 c36 c37 c38 c39 c40 c41 c42 c43 c44 c45 c46 c47 c48 c49 c50 c51 c52 c53 c54 c55 c56 c57 c58 c59 c60 c61 c62 c63 c64 c65 c66 c67 c68 c69 c70 c71 c72 c73 c74 c75 c76 c77 c78 c79 c80 c81 c82 c83 c84 c85 c86 c87 c88 c89 c90 c91 c92 c93 c94 c95 c96 c97 c98 c99 c100 c101 c102 c103 c104 c105 c106 c107 c108 : Value} (w : World) (s : Sl w 4 lo n cap (l.flatMap acV)) {Q : Exit → Act → World → Prop}
    (hQ : ∀ (q : Nat) (w' : World), Own w' 64 1 (some ⟨q, 0, none⟩) 4 4 (acV a) → Grow w w' → w.heap.size ≤ q → ∀ {u26 u27 u28 u29 : Value}, Q .normal ⟨List.toArray (.slice lo n cap :: c1 :: c2 :: c3 :: c4 :: c5 :: .int .i64 (i : Int) :: .pointer (some ⟨q, 0, none⟩) :: c8 :: c9 :: c10 :: c11 :: c12 :: c13 :: c14 :: c15 :: c16 :: c17 :: c18 :: c19 :: c20 :: c21 :: c22 :: c23 :: c24 :: c25 :: u26 :: u27 :: u28 :: u29 :: c30 :: c31 :: c32 :: c33 :: c34 :: c35 :: c36 :: c37 :: c38 :: c39 :: c40 :: c41 :: c42 :: c43 :: c44 :: c45 :: c46 :: c47 :: c48 :: c49 :: c50 :: c51 :: c52 :: c53 :: c54 :: c55 :: c56 :: c57 :: c58 :: c59 :: c60 :: c61 :: c62 :: c63 :: c64 :: c65 :: c66 :: c67 :: c68 :: c69 :: c70 :: c71 :: c72 :: c73 :: c74 :: c75 :: c76 :: c77 :: c78 :: c79 :: c80 :: c81 :: c82 :: c83 :: c84 :: c85 :: c86 :: c87 :: c88 :: c89 :: c90 :: c91 :: c92 :: c93 :: c94 :: c95 :: c96 :: c97 :: c98 :: c99 :: c100 :: c101 :: c102 :: c103 :: c104 :: c105 :: c106 :: c107 :: c108 :: []), []⟩ w') :
    Code.wp Try.prog (regionAt Try.f14 11) Q ⟨List.toArray (.slice lo n cap :: c1 :: c2 :: c3 :: c4 :: c5 :: .int .i64 (i : Int) :: c7 :: c8 :: c9 :: c10 :: c11 :: c12 :: c13 :: c14 :: c15 :: c16 :: c17 :: c18 :: c19 :: c20 :: c21 :: c22 :: c23 :: c24 :: c25 :: c26 :: c27 :: c28 :: c29 :: c30 :: c31 :: c32 :: c33 :: c34 :: c35 :: c36 :: c37 :: c38 :: c39 :: c40 :: c41 :: c42 :: c43 :: c44 :: c45 :: c46 :: c47 :: c48 :: c49 :: c50 :: c51 :: c52 :: c53 :: c54 :: c55 :: c56 :: c57 :: c58 :: c59 :: c60 :: c61 :: c62 :: c63 :: c64 :: c65 :: c66 :: c67 :: c68 :: c69 :: c70 :: c71 :: c72 :: c73 :: c74 :: c75 :: c76 :: c77 :: c78 :: c79 :: c80 :: c81 :: c82 :: c83 :: c84 :: c85 :: c86 :: c87 :: c88 :: c89 :: c90 :: c91 :: c92 :: c93 :: c94 :: c95 :: c96 :: c97 :: c98 :: c99 :: c100 :: c101 :: c102 :: c103 :: c104 :: c105 :: c106 :: c107 :: c108 :: []), []⟩ w := by
  have hml : maxLen = 9223372036854775807 := rfl
  have hks := s.hle
  have hkm := s.hcap
  obtain ⟨gb, off, eg, hcs⟩ := s.hat (by omega)
  subst eg
  have hil : i < l.length := by omega
  have hci := cells_act hcs i hil
  obtain rfl : l[i] = a := by rw [List.getElem?_eq_getElem hil] at ha; exact Option.some.inj ha
  have i4 : (Try.prog.info? 64).map (·.size) = some 4 := by kernel_rfl
  have hVl : (acV l[i]).length = 4 := rfl
  have hV1 : ∀ v ∈ acV l[i], v.oneCell' = true := by simp [acV, Value.oneCell']
  obtain ⟨V, hV⟩ : ∃ V, V = acV l[i] := ⟨_, rfl⟩
  rw [← hV] at hVl hV1 hci
  simp only [← hV] at hQ
  have hrg : w.rangeAt gb (off + i * 4) V := fun j v hj => hci.at hj
  have hsz : (Try.prog.info? 64).map (·.size) = some V.length := by rw [hVl]; exact i4
  obtain ⟨o7, ga1, th1, al1⟩ := newvarZ (t := 64) (n := 4) w acZ rfl acZ_one (by omega) hVl hV1
  have hszF : (Try.prog.info? 64).map (·.size) = some V.toArray.size := by rw [List.size_toArray, hVl]; exact i4
  have hf := @hQ _ _ o7 ga1 (Nat.le_refl _)
  clear hQ o7 ga1 hcs hci hV ha hil hn
  conv => arg 2; whnf
  go_wp2_with (first | refine wpList_load_mid rfl 64 _ rfl gb (off + i * 4) rfl V _ hrg Try.underlying64 rfl hsz ?_ | refine wpList_store_mid rfl 64 _ _ rfl w.heap.size 0 V.toArray rfl rfl th1 hszF al1 ?_)
  exact hf


set_option maxRecDepth 100000 in
set_option maxHeartbeats 1000000 in
theorem clBk14 (q7 q9 : Nat) (ka : Option Addr) (kn kc : Nat) (kd ps ts : Value) (fo : Option Addr) (fn fc : Nat) (key F : List UInt8) {c0 c1 c2 c3 c4 c5 c6 c10 c11 c12 c13 c14 c15 c16 c17 c18 c19 c20 c21 c22 c23 c24 c25 c26 c27 c28 c29 c30 c31 c32 c33 c34 c35 c36 c37 c38 c39 c40 c41 c42 c43 c44 c45 c46 c47 c48 c49 c50 c51 c52 c53 c54 c55 c56 c57 c58 c59 c60 c61 c62 c63 c64 c65 c66 c67 c68 c69 c70 c71 c72 c73 c74 c75 c76 c77 c78 c79 c80 c81 c82 c83 c84 c85 c86 c87 c88 c89 c90 c91 c92 c93 c94 c95 c96 c97 c98 c99 c100 c101 c102 c103 c104 c105 c106 c107 c108 : Value} (w : World) (o7 : Cells w q7 0 [kd, .slice ka kn kc, ps, ts]) (sk : Sl w 1 ka kn kc (key.map B)) (sf : Sl w 1 fo fn fc (F.map B)) (o9 : Cells w q9 0 ((macS key F).map B)) {Q : Exit → Act → World → Prop}
    (hQ : ∀ (q : Nat) (w' : World), Own w' 66 1 (some ⟨q, 0, none⟩) 35 35 (clV (clmS key F false)) → Grow w w' → w.heap.size ≤ q → ∀ {u38 u39 u40 u41 u42 u43 u44 : Value}, Q .normal ⟨List.toArray (c0 :: c1 :: c2 :: c3 :: c4 :: c5 :: c6 :: .pointer (some ⟨q7, 0, none⟩) :: .slice fo fn fc :: .pointer (some ⟨q9, 0, none⟩) :: .pointer (some ⟨q, 0, none⟩) :: c11 :: c12 :: c13 :: c14 :: c15 :: c16 :: c17 :: c18 :: c19 :: c20 :: c21 :: c22 :: c23 :: c24 :: c25 :: c26 :: c27 :: c28 :: c29 :: c30 :: c31 :: c32 :: c33 :: c34 :: c35 :: c36 :: c37 :: u38 :: u39 :: u40 :: u41 :: u42 :: u43 :: u44 :: c45 :: c46 :: c47 :: c48 :: c49 :: c50 :: c51 :: c52 :: c53 :: c54 :: c55 :: c56 :: c57 :: c58 :: c59 :: c60 :: c61 :: c62 :: c63 :: c64 :: c65 :: c66 :: c67 :: c68 :: c69 :: c70 :: c71 :: c72 :: c73 :: c74 :: c75 :: c76 :: c77 :: c78 :: c79 :: c80 :: c81 :: c82 :: c83 :: c84 :: c85 :: c86 :: c87 :: c88 :: c89 :: c90 :: c91 :: c92 :: c93 :: c94 :: c95 :: c96 :: c97 :: c98 :: c99 :: c100 :: c101 :: c102 :: c103 :: c104 :: c105 :: c106 :: c107 :: c108 :: []), []⟩ w') :
    Code.wp Try.prog (regionAt Try.f14 14) Q ⟨List.toArray (c0 :: c1 :: c2 :: c3 :: c4 :: c5 :: c6 :: .pointer (some ⟨q7, 0, none⟩) :: .slice fo fn fc :: .pointer (some ⟨q9, 0, none⟩) :: c10 :: c11 :: c12 :: c13 :: c14 :: c15 :: c16 :: c17 :: c18 :: c19 :: c20 :: c21 :: c22 :: c23 :: c24 :: c25 :: c26 :: c27 :: c28 :: c29 :: c30 :: c31 :: c32 :: c33 :: c34 :: c35 :: c36 :: c37 :: c38 :: c39 :: c40 :: c41 :: c42 :: c43 :: c44 :: c45 :: c46 :: c47 :: c48 :: c49 :: c50 :: c51 :: c52 :: c53 :: c54 :: c55 :: c56 :: c57 :: c58 :: c59 :: c60 :: c61 :: c62 :: c63 :: c64 :: c65 :: c66 :: c67 :: c68 :: c69 :: c70 :: c71 :: c72 :: c73 :: c74 :: c75 :: c76 :: c77 :: c78 :: c79 :: c80 :: c81 :: c82 :: c83 :: c84 :: c85 :: c86 :: c87 :: c88 :: c89 :: c90 :: c91 :: c92 :: c93 :: c94 :: c95 :: c96 :: c97 :: c98 :: c99 :: c100 :: c101 :: c102 :: c103 :: c104 :: c105 :: c106 :: c107 :: c108 :: []), []⟩ w := by
  have hml : maxLen = 9223372036854775807 := rfl
  have d1 := o7.at (i := 1) rfl
  simp only [Nat.zero_add] at d1
  have cvk : (convert 22 9 (.slice ka kn kc)).run Try.prog w = .ok (.string (str key)) w := by
    have hl : kn = key.length := by have := sk.hlen; simpa using this.symm
    subst hl
    exact run_str Try.underlying22 Try.underlying5 Try.underlying9 sk
  have cvf : (convert 22 9 (.slice fo fn fc)).run Try.prog w = .ok (.string (str F)) w := by
    have hl : fn = F.length := by have := sf.hlen; simpa using this.symm
    subst hl
    exact run_str Try.underlying22 Try.underlying5 Try.underlying9 sf
  have hTl : ((macS key F).map B).length = 32 := by rw [List.length_map]; exact macS_len _ _
  have hb := built_clm key F (macS key F) (macS_len _ _)
  rw [show (⟨key, F, macS key F, false, macS_len _ _⟩ : Clm) = clmS key F false from rfl] at hb
  have hVl := clV_len (clmS key F false)
  have hV1 := clV_one (clmS key F false)
  obtain ⟨V, hV⟩ : ∃ V, V = clV (clmS key F false) := ⟨_, rfl⟩
  obtain ⟨T, hT⟩ : ∃ T, T = (macS key F).map B := ⟨_, rfl⟩
  rw [← hV, ← hT] at hb
  rw [← hV] at hVl hV1
  rw [← hT] at hTl o9
  simp only [← hV] at hQ
  have hrg : w.rangeAt q9 0 T := fun j v hj => o9.at hj
  have hsT : (Try.prog.info? 27).map (·.size) = some T.length := by rw [hTl]; kernel_rfl
  obtain ⟨o10, ga1, th1, al1⟩ := newvarZ (t := 66) w clZ clZ_len clZ_one (by omega) hVl hV1
  have hszF : (Try.prog.info? 66).map (·.size) = some V.toArray.size := by rw [List.size_toArray, hVl]; exact i35
  have hf := @hQ _ _ o10 ga1 (Nat.le_refl _)
  clear hQ o10 ga1 hV hT o9 sk sf o7
  conv => arg 2; whnf
  go_wp2_with (first | refine wpList_load_mid rfl 27 _ rfl q9 0 rfl T _ hrg Try.underlying27 rfl hsT ?_ | refine wpList_built rfl 66 [(0, .tmp 40), (1, .tmp 42), (2, .tmp 43)] rfl rfl hb ?_ | refine wpList_store_mid rfl 66 _ _ rfl w.heap.size 0 V.toArray rfl rfl th1 hszF al1 ?_)
  exact hf
end Go.Proofs.Ytaepfkpfageiaaa
