/- The walk of IdealKeys. -/
import Derived.Test.YtfmnkcmicbnfdaaIdlO
import Derived.Test.YtfmnkcmicbnfdaaTapS
import Derived.Test.YtfmnkcmicbnfdaaRound
namespace Go.Proofs.Ytfmnkcmicbnfdaa
open Go Go.RowKit

def keX : Ask := ⟨str [112], str [115], 3⟩
/-- The other password, salt, rounds. -/
def keO (m : Nat) : List UInt8 × List UInt8 × Nat := if m = 0 then ([113], [115], 3) else if m = 1 then ([112], [], 3) else ([112], [115], 4)
def keY (m : Nat) : Ask := ⟨str (keO m).1, str (keO m).2.1, ((keO m).2.2 : Int)⟩
theorem str_ne {a b : List UInt8} (h : a ≠ b) : str a ≠ str b := fun e => h (by
  have := congrArg (fun s : ByteArray => s.data.toList) e
  simpa [str] using this)
theorem keY_ne (m : Nat) : keY m ≠ keX := by
  unfold keY keO keX
  intro e
  split at e
  · exact str_ne (by decide) (congrArg Ask.pass e)
  · split at e
    · exact str_ne (by decide) (congrArg Ask.salt e)
    · exact absurd (congrArg Ask.rounds e) (by decide)
theorem had_other (m : Nat) (ks : List Kv) (h : ∀ p ∈ kvA ks, p.1 = keX) : hadS (keY m) ks = [] := by
  have : look (keY m) (kvA ks) = none := by
    generalize kvA ks = l at h
    induction l with
    | nil => rfl
    | cons p l ih =>
      rw [look_cons, if_neg (fun e => keY_ne m (e.trans (h p (by simp)))), ih (fun q hq => h q (by simp [hq]))]
  unfold hadS
  rw [this]
  rfl
theorem mem_putM2 {α β : Type} [DecidableEq α] (k : α) (v : β) : ∀ (l : List (α × β)) (p : α × β), p ∈ putM k v l → p.1 = k ∨ p ∈ l
  | [], p, h => by simp [putM] at h; exact .inl (by rw [h])
  | q :: l, p, h => by
    rw [putM] at h
    split at h
    · rcases List.mem_cons.1 h with h | h
      · exact .inl (by rw [h])
      · exact .inr (by simp [h])
    · rcases List.mem_cons.1 h with h | h
      · exact .inr (by simp [h])
      · exact (mem_putM2 k v l p h).imp id (fun h => by simp [h])
theorem litsTwo (w : World) (l m : List UInt8) (n k : Nat) (hn : l.length = n) (hk : m.length = k) (hn' : n ≤ 100000) (hk' : k ≤ 100000) (fa fc : Nat × Nat) :
    Sl ((w.alloc (.cells (l.map B).toArray 5 fa)).alloc (.cells (m.map B).toArray 5 fc)) 1 (some ⟨w.heap.size, 0, none⟩) n n (l.map B) ∧
    Sl ((w.alloc (.cells (l.map B).toArray 5 fa)).alloc (.cells (m.map B).toArray 5 fc)) 1 (some ⟨w.heap.size + 1, 0, none⟩) k k (m.map B) ∧
    Grow w ((w.alloc (.cells (l.map B).toArray 5 fa)).alloc (.cells (m.map B).toArray 5 fc)) := by
  have hml : maxLen = 9223372036854775807 := rfl
  have h := alloc_new (w.alloc (.cells (l.map B).toArray 5 fa)) (.cells (m.map B).toArray 5 fc)
  have hz : (w.alloc (.cells (l.map B).toArray 5 fa)).heap.size = w.heap.size + 1 := by simp
  rw [hz] at h
  have g1 := Grow.alloc w (.cells (l.map B).toArray 5 fa)
  have g2 := Grow.alloc (w.alloc (.cells (l.map B).toArray 5 fa)) (.cells (m.map B).toArray 5 fc)
  exact ⟨(sl_obj (C := l.map B) (alloc_new w _) n (by simpa using hn) (by omega) (B_one _)).grow g2, sl_obj (C := m.map B) h k (by simpa using hk) (by omega) (B_one _), g1.trans g2⟩


set_option maxRecDepth 100000 in
set_option maxHeartbeats 1000000 in
theorem idKeS (m : Nat) (hm : m < 3) {c0 c1 c2 c3 c4 c5 c6 c7 c8 c9 c10 c11 c12 c13 c14 c15 c19 c20 c21 c22 c23 c24 c25 c26 c27 c28 c29 c30 c31 c32 c33 c34 c35 c36 c37 c38 c39 c40 c41 c42 c43 c44 c45 c46 c47 c48 c49 c50 c51 c52 c53 c54 c55 c56 c57 c58 c59 c60 c61 c62 c63 c64 c65 c66 c67 c68 c69 c70 c71 c72 c73 c74 c75 c76 c77 c78 c79 c80 c81 c82 c83 c84 c85 c86 c87 c88 c89 c90 c91 c92 c93 c94 c95 c96 c97 c98 c100 c101 c102 c103 c104 c105 c106 c107 c108 c109 c110 c111 c112 c113 c114 c115 c116 c117 c118 c119 c120 c121 c122 c123 c124 c125 c126 c127 c128 c129 c130 c131 c132 c133 c134 : Value} (w : World) {Q : Exit → Act → World → Prop}
    (hQ : ∀ {u100 u101 u102 u103 u104 u105 : Value}, Q .normal ⟨List.toArray (c0 :: c1 :: c2 :: c3 :: c4 :: c5 :: c6 :: c7 :: c8 :: c9 :: c10 :: c11 :: c12 :: c13 :: c14 :: c15 :: .string (str (keO m).1) :: .string (str (keO m).2.1) :: .int .i64 ((keO m).2.2 : Int) :: c19 :: c20 :: c21 :: c22 :: c23 :: c24 :: c25 :: c26 :: c27 :: c28 :: c29 :: c30 :: c31 :: c32 :: c33 :: c34 :: c35 :: c36 :: c37 :: c38 :: c39 :: c40 :: c41 :: c42 :: c43 :: c44 :: c45 :: c46 :: c47 :: c48 :: c49 :: c50 :: c51 :: c52 :: c53 :: c54 :: c55 :: c56 :: c57 :: c58 :: c59 :: c60 :: c61 :: c62 :: c63 :: c64 :: c65 :: c66 :: c67 :: c68 :: c69 :: c70 :: c71 :: c72 :: c73 :: c74 :: c75 :: c76 :: c77 :: c78 :: c79 :: c80 :: c81 :: c82 :: c83 :: c84 :: c85 :: c86 :: c87 :: c88 :: c89 :: c90 :: c91 :: c92 :: c93 :: c94 :: c95 :: c96 :: c97 :: c98 :: .int .i64 (m : Int) :: u100 :: u101 :: u102 :: u103 :: u104 :: u105 :: c106 :: c107 :: c108 :: c109 :: c110 :: c111 :: c112 :: c113 :: c114 :: c115 :: c116 :: c117 :: c118 :: c119 :: c120 :: c121 :: c122 :: c123 :: c124 :: c125 :: c126 :: c127 :: c128 :: c129 :: c130 :: c131 :: c132 :: c133 :: c134 :: []), []⟩ w) :
    Code.wp Try.prog (blockAt Try.f4 2) Q ⟨List.toArray (c0 :: c1 :: c2 :: c3 :: c4 :: c5 :: c6 :: c7 :: c8 :: c9 :: c10 :: c11 :: c12 :: c13 :: c14 :: c15 :: .string ⟨#[112]⟩ :: .string ⟨#[115]⟩ :: .int .i64 3 :: c19 :: c20 :: c21 :: c22 :: c23 :: c24 :: c25 :: c26 :: c27 :: c28 :: c29 :: c30 :: c31 :: c32 :: c33 :: c34 :: c35 :: c36 :: c37 :: c38 :: c39 :: c40 :: c41 :: c42 :: c43 :: c44 :: c45 :: c46 :: c47 :: c48 :: c49 :: c50 :: c51 :: c52 :: c53 :: c54 :: c55 :: c56 :: c57 :: c58 :: c59 :: c60 :: c61 :: c62 :: c63 :: c64 :: c65 :: c66 :: c67 :: c68 :: c69 :: c70 :: c71 :: c72 :: c73 :: c74 :: c75 :: c76 :: c77 :: c78 :: c79 :: c80 :: c81 :: c82 :: c83 :: c84 :: c85 :: c86 :: c87 :: c88 :: c89 :: c90 :: c91 :: c92 :: c93 :: c94 :: c95 :: c96 :: c97 :: c98 :: .int .i64 (m : Int) :: c100 :: c101 :: c102 :: c103 :: c104 :: c105 :: c106 :: c107 :: c108 :: c109 :: c110 :: c111 :: c112 :: c113 :: c114 :: c115 :: c116 :: c117 :: c118 :: c119 :: c120 :: c121 :: c122 :: c123 :: c124 :: c125 :: c126 :: c127 :: c128 :: c129 :: c130 :: c131 :: c132 :: c133 :: c134 :: []), []⟩ w := by
  have hml : maxLen = 9223372036854775807 := rfl
  conv => arg 2; whnf
  refine wp_block ?_
  match m, hm with
  | 0, _ =>
    have hf := @hQ
    clear hQ
    go_wp2_with fail
    exact hf
  | 1, _ =>
    have hf := @hQ
    clear hQ
    go_wp2_with fail
    exact hf
  | 2, _ =>
    have hf := @hQ
    clear hQ
    go_wp2_with fail
    exact hf


set_option maxRecDepth 100000 in
set_option maxHeartbeats 1000000 in
theorem idKe17 (ao : Option Addr) (hl c : Nat) (bo : Option Addr) (n d b : Nat) (hb1 : b ≤ hl) (hb2 : b ≤ n) (had k : List UInt8) (he : k.take b = had.take b) {c0 c1 c2 c3 c4 c5 c6 c7 c8 c10 c11 c12 c14 c16 c17 c18 c19 c20 c21 c22 c23 c24 c25 c26 c27 c28 c29 c30 c31 c32 c33 c34 c35 c36 c37 c38 c39 c40 c41 c42 c43 c44 c45 c46 c47 c48 c49 c50 c51 c52 c53 c54 c55 c56 c57 c58 c59 c60 c61 c62 c63 c64 c65 c66 c67 c68 c69 c70 c71 c72 c73 c74 c75 c76 c77 c78 c79 c80 c81 c82 c83 c84 c85 c86 c87 c88 c89 c90 c91 c92 c93 c94 c95 c96 c97 c98 c99 c100 c101 c102 c103 c104 c105 c106 c107 c108 c109 c110 c111 c112 c113 c114 c115 c116 c117 c118 c119 c120 c121 c122 c123 c124 c125 c126 c127 c128 c129 c130 c131 c132 c133 c134 : Value} (w : World) (s1 : Sl w 1 ao hl c (had.map B)) (s2 : Sl w 1 bo n d (k.map B)) {Q : Exit → Act → World → Prop}
    (hQ : ∀ (w' : World), Keep [] w w' → ∀ {u84 u85 u86 u87 u88 u89 u90 u91 : Value}, Q .normal ⟨List.toArray (c0 :: c1 :: c2 :: c3 :: c4 :: c5 :: c6 :: c7 :: c8 :: .slice ao hl c :: c10 :: c11 :: c12 :: .slice bo n d :: c14 :: .int .i64 (b : Int) :: c16 :: c17 :: c18 :: c19 :: c20 :: c21 :: c22 :: c23 :: c24 :: c25 :: c26 :: c27 :: c28 :: c29 :: c30 :: c31 :: c32 :: c33 :: c34 :: c35 :: c36 :: c37 :: c38 :: c39 :: c40 :: c41 :: c42 :: c43 :: c44 :: c45 :: c46 :: c47 :: c48 :: c49 :: c50 :: c51 :: c52 :: c53 :: c54 :: c55 :: c56 :: c57 :: c58 :: c59 :: c60 :: c61 :: c62 :: c63 :: c64 :: c65 :: c66 :: c67 :: c68 :: c69 :: c70 :: c71 :: c72 :: c73 :: c74 :: c75 :: c76 :: c77 :: c78 :: c79 :: c80 :: c81 :: c82 :: c83 :: u84 :: u85 :: u86 :: u87 :: u88 :: u89 :: u90 :: u91 :: .bool false :: c93 :: c94 :: c95 :: c96 :: c97 :: c98 :: c99 :: c100 :: c101 :: c102 :: c103 :: c104 :: c105 :: c106 :: c107 :: c108 :: c109 :: c110 :: c111 :: c112 :: c113 :: c114 :: c115 :: c116 :: c117 :: c118 :: c119 :: c120 :: c121 :: c122 :: c123 :: c124 :: c125 :: c126 :: c127 :: c128 :: c129 :: c130 :: c131 :: c132 :: c133 :: c134 :: []), []⟩ w') :
    Code.wp Try.prog (regionAt Try.f4 17) Q ⟨List.toArray (c0 :: c1 :: c2 :: c3 :: c4 :: c5 :: c6 :: c7 :: c8 :: .slice ao hl c :: c10 :: c11 :: c12 :: .slice bo n d :: c14 :: .int .i64 (b : Int) :: c16 :: c17 :: c18 :: c19 :: c20 :: c21 :: c22 :: c23 :: c24 :: c25 :: c26 :: c27 :: c28 :: c29 :: c30 :: c31 :: c32 :: c33 :: c34 :: c35 :: c36 :: c37 :: c38 :: c39 :: c40 :: c41 :: c42 :: c43 :: c44 :: c45 :: c46 :: c47 :: c48 :: c49 :: c50 :: c51 :: c52 :: c53 :: c54 :: c55 :: c56 :: c57 :: c58 :: c59 :: c60 :: c61 :: c62 :: c63 :: c64 :: c65 :: c66 :: c67 :: c68 :: c69 :: c70 :: c71 :: c72 :: c73 :: c74 :: c75 :: c76 :: c77 :: c78 :: c79 :: c80 :: c81 :: c82 :: c83 :: c84 :: c85 :: c86 :: c87 :: c88 :: c89 :: c90 :: c91 :: c92 :: c93 :: c94 :: c95 :: c96 :: c97 :: c98 :: c99 :: c100 :: c101 :: c102 :: c103 :: c104 :: c105 :: c106 :: c107 :: c108 :: c109 :: c110 :: c111 :: c112 :: c113 :: c114 :: c115 :: c116 :: c117 :: c118 :: c119 :: c120 :: c121 :: c122 :: c123 :: c124 :: c125 :: c126 :: c127 :: c128 :: c129 :: c130 :: c131 :: c132 :: c133 :: c134 :: []), []⟩ w := by
  have hml : maxLen = 9223372036854775807 := rfl
  obtain ⟨so, sc, hcut, sk, -⟩ := run_cut0 TBy s1 (b : Int) b rfl hb1
  obtain ⟨so2, sc2, hcut2, sk2, -⟩ := run_cut0 TBy s2 (b : Int) b rfl hb2
  rw [Nat.mul_one, ← List.map_take] at sk sk2
  rw [he] at sk2
  obtain ⟨x, hx⟩ : ∃ x, x = had.take b := ⟨_, rfl⟩
  rw [← hx] at sk sk2
  have hxl : b = x.length := by have := sk.hlen; simpa using this.symm
  have cv1 : ∀ w', Keep [] w w' → (convert 27 9 (.slice so b sc)).run Try.prog w' = .ok (.string (str x)) w' := fun w' k' => run_str Try.underlying27 Try.underlying5 Try.underlying9 (by have := sk.keep k' (by simp); rw [hxl] at this ⊢; exact this)
  have cv2 : ∀ w', Keep [] w w' → (convert 27 9 (.slice so2 b sc2)).run Try.prog w' = .ok (.string (str x)) w' := fun w' k' => run_str Try.underlying27 Try.underlying5 Try.underlying9 (by have := sk2.keep k' (by simp); rw [hxl] at this ⊢; exact this)
  have tx : (str x).toList = x := str_toList x
  have exx : (x == x) = true := by simp
  have hks1 := s1.hle
  have hks2 := s2.hle
  have hkm1 := s1.hcap
  have hkm2 := s2.hcap
  clear hx hxl he sk sk2 s1 s2
  conv => arg 2; whnf
  refine wp_region_R (segT w []) (by kernel_rfl) segT_drew ?_
  unfold segT segK segR
  repeat (first | (refine wpV_skp rfl rfl ?_; simp only [List.set_cons_succ, List.set_cons_zero]) | (refine wpV_val rfl rfl rfl rfl rfl _ (fun w hC => by obtain ⟨n, rfl⟩ := hC; exact exec_conv (cv1 _ n.h)) ?_; simp only [List.set_cons_succ, List.set_cons_zero]) | (refine wpV_val rfl rfl rfl rfl rfl _ (fun w hC => by obtain ⟨n, rfl⟩ := hC; exact exec_conv (cv2 _ n.h)) ?_; simp only [List.set_cons_succ, List.set_cons_zero]) | (refine wpV_look rfl rfl rfl rfl rfl (fun K hK => ?_); go_big_quiet_op; refine hK _ ?_; clear hK K))
  refine wpV_nil ?_
  intro w5 hC hF
  obtain ⟨⟨w5, hkw5, -⟩, rfl⟩ := hC
  clear hF
  exact hQ w5 hkw5
end Go.Proofs.Ytfmnkcmicbnfdaa
