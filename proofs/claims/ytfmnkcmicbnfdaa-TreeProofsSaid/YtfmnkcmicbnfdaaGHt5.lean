/- Has a leaf this text? The walk. · The tag that a proof tells of a place. · A leaf is given a text; a leaf's text is taken: where there is such a leaf. · A new tree: its levels. · A proof is cut; a node's claim is checked. · A node's claim is checked, by a proof. · What a proof tells, in plain Lean. -/
import Derived.Test.YtfmnkcmicbnfdaaGHt3
import Derived.Deep.OwnRows

namespace Go.Proofs.Ytfmnkcmicbnfdaa
open Go Go.RowKit

set_option maxRecDepth 100000 in
theorem checkOut {w : World} {t : Tre} {h : Int → Bool} {T : Nat → Nat → B16} (a : Ht w t h T) (hL : 0 < t.L) (k : Int) (hk : ¬ (0 ≤ k ∧ k < (t.n : Int))) (x : Value) (R : Ending → World → Prop) (hR : ∀ w', Grow w w' → R (.returned (.bool false)) w') :
    Calls Try.prog 50 #[.pointer (some ⟨t.p, 0, none⟩), .int .i64 k, x] w R := by
  go_enter Try.func50, Try.ntmps50
  go_upto_region 1 with (fail)
  refine check1o t k x hL hk w a ?_
  intro w2 g2
  intros
  have hf := hR w2 g2
  clear hR
  go_wp2_with fail
  exact hf
set_option maxRecDepth 100000 in
theorem checkNone {w : World} {t : Tre} {h : Int → Bool} {T : Nat → Nat → B16} (a : Ht w t h T) (hL : 0 < t.L) (k : Nat) (hk : k < t.n) (hh : h k = false) (x : Value) (R : Ending → World → Prop) (hR : ∀ w', Grow w w' → R (.returned (.bool false)) w') :
    Calls Try.prog 50 #[.pointer (some ⟨t.p, 0, none⟩), .int .i64 (k : Int), x] w R := by
  go_enter Try.func50, Try.ntmps50
  go_upto_region 1 with (fail)
  refine check1n t k x hL hk hh w a ?_
  intro w2 g2
  intros
  have hf := hR w2 g2
  clear hR
  go_wp2_with fail
  exact hf
set_option maxRecDepth 100000 in
theorem checkHas (t : Tre) (k : Nat) (hk : k < t.n) (hL : t.L = (wl t.n).length) (hn2 : t.n ≤ 1000) (hkey : t.key.length = 32) (a0 : Option Addr) (n c0 : Nat) (text : List UInt8) (htl : text.length ≤ 1000) {h : Int → Bool} (hh : h k = true) {T : Nat → Nat → B16} {FP : List Nat} {cs : List Clm} (hcs : cs.length ≤ 90000) (c : Bool) (hc : c = (shortS (macS t.key (framS (leafP k text))) == (T 0 k).b)) (w : World) (a : HB w t h T FP cs) (s : Sl w 1 a0 n c0 (text.map B)) (hd : ∀ g ∈ bz n a0, g ∉ FP) (R : Ending → World → Prop)
    (hR : ∀ (FP' : List Nat) (w' : World), HB w' t h T FP' (cs ++ if c then [clmS t.key (framS (leafP k text)) false] else []) → Keep FP w w' → (∀ g ∈ FP', g ∈ FP ∨ w.heap.size ≤ g) → R (.returned (.bool c)) w') :
    Calls Try.prog 50 #[.pointer (some ⟨t.p, 0, none⟩), .int .i64 (k : Int), .slice a0 n c0] w R := by
  go_enter Try.func50, Try.ntmps50
  go_upto_region 1 with (fail)
  refine check1 t k hk hL hn2 hkey a0 n c0 text htl hh hcs c hc w a s hd ?_
  intro FP' w2 a2 k2 in2
  intros
  have hf := hR FP' w2 a2 k2 in2
  clear hR hc
  go_wp2_with fail
  exact hf
end Go.Proofs.Ytfmnkcmicbnfdaa

namespace Go.Proofs.Ytfmnkcmicbnfdaa
open Go Go.RowKit

theorem yields_callF {P : Program} {dst : Option Tmp} {x : Operand} {f : FuncId} {caps : Array Value} {args : List Operand} {ats : Array TypeId} {ty : TypeId} {pos : String} {after : Array Edge} {guard : Option (Nat × Bool)} {a : Act} {w : World} {K : Value → World → Prop}
    (hx : a.eval x = .func (.func f) #[] caps) (hgo : isGo P f = true) (h : Calls P f ((args.map a.eval).toArray ++ caps) w fun e w' => ∃ v, e = .returned v ∧ K v w') :
    yields P ⟨dst, .call { callee := .value x, args := args.toArray, argTypes := ats }, ty, pos, after, guard⟩ a.eval w K := by
  have e : execOp a.eval ⟨dst, .call { callee := .value x, args := args.toArray, argTypes := ats }, ty, pos, after, guard⟩ = callFunc f ((args.map a.eval).toArray ++ caps) := by
    unfold execOp resolve
    simp only [hx, Deferred.ofValue]
    simp [invoke]
  unfold yields
  rw [e, run_callFunc hgo]
  exact h


set_option maxRecDepth 100000 in
set_option maxHeartbeats 1000000 in
theorem vtag3 (q16 q3 q4 gl off m lc j i cl cc gc offc : Nat) (hj : j < m) (_ : m ≤ lc) (_ : lc ≤ maxLen) (hi : i % 4 < cl) (_ : cl ≤ cc) (_ : cc ≤ maxLen) (_ : i ≤ 1000000) (x : B16) {c0 c2 c5 c6 c7 c8 c9 c10 c11 c12 c13 c14 c15 c16 c17 c18 c19 c20 : Value} (w : World) (o16 : w.cell? ⟨q16, 0, none⟩ = some (.slice (some ⟨gl, off, none⟩) m lc)) (hc : w.cell? ⟨gl, off + j, none⟩ = some (.slice (some ⟨gc, offc, none⟩) cl cc)) (hx : Cells w gc (offc + (i % 4) * 16) (x.b.map B))
    (o3 : w.heap[q3]? = some (.cells #[.int .i64 (j : Int), .int .i64 (i : Int)] 76 (0, 0))) (o4 : Own w 33 1 (some ⟨q4, 0, none⟩) 16 16 (List.replicate 16 (.int .u8 0))) {Q : Exit → Act → World → Prop}
    (hQ : ∀ (w' : World), Own w' 33 1 (some ⟨q4, 0, none⟩) 16 16 (x.b.map B) → Keep [q4] w w' → ∀ {u11 u12 u13 u14 u15 u16 u17 u18 u19 u20 : Value}, Q .normal ⟨List.toArray (c0 :: .pointer (some ⟨q16, 0, none⟩) :: c2 :: .pointer (some ⟨q3, 0, none⟩) :: .pointer (some ⟨q4, 0, none⟩) :: c5 :: c6 :: c7 :: c8 :: c9 :: c10 :: u11 :: u12 :: u13 :: u14 :: u15 :: u16 :: u17 :: u18 :: u19 :: u20 :: []), []⟩ w') :
    Code.wp Try.prog (regionAt Try.f70 3) Q ⟨List.toArray (c0 :: .pointer (some ⟨q16, 0, none⟩) :: c2 :: .pointer (some ⟨q3, 0, none⟩) :: .pointer (some ⟨q4, 0, none⟩) :: c5 :: c6 :: c7 :: c8 :: c9 :: c10 :: c11 :: c12 :: c13 :: c14 :: c15 :: c16 :: c17 :: c18 :: c19 :: c20 :: []), []⟩ w := by
  have hml : maxLen = 9223372036854775807 := rfl
  have hsz : (Try.prog.info? 33).map (·.size) = some (x.b.map B).length := by rw [bV_len]; exact i16
  have ldV : ∀ w', Keep [] w w' → (Instr.loadAt 33 (.pointer (some ⟨gc, offc + (i % 4) * 16, none⟩))).run Try.prog w' = .ok (.agg (x.b.map B).toArray) w' := fun w' k => run_ld Try.underlying33 rfl hsz (hx.keep k (by simp))
  have q1 := KW.cell (fp := []) (p0 := tt) o16 (by simp)
  have q2 := KW.cell (fp := []) (p0 := tt) hc (by simp)
  have q5 := KW.cell (fp := []) (p0 := tt) (obj_cell o3 0 rfl) (by simp)
  have q6 := KW.cell (fp := []) (p0 := tt) (obj_cell o3 1 rfl) (by simp)
  have hVl := bV_len x
  have hV1 := B_one x.b
  obtain ⟨V, hV⟩ : ∃ V, V = x.b.map B := ⟨_, rfl⟩
  rw [← hV] at ldV hVl hV1
  rw [← hV] at hQ
  have hmod : (i : Int) % 4 = ((i % 4 : Nat) : Int) := by omega
  have htm : (i : Int).tmod 4 = ((i % 4 : Nat) : Int) := by rw [Int.tmod_eq_emod_of_nonneg (by omega)]; omega
  obtain ⟨r, hr⟩ : ∃ r, r = i % 4 := ⟨_, rfl⟩
  rw [← hr] at hi ldV hmod htm
  clear hV hsz hc o3 o16 hx hr
  conv => arg 2; whnf
  refine wp_region_R (segT w []) (by kernel_rfl) segT_drew ?_
  unfold segT segK segR
  repeat (first | (refine wpV_skp rfl rfl ?_; simp only [List.set_cons_succ, List.set_cons_zero]) | (refine wpV_val rfl rfl rfl rfl rfl _ (fun w hC => by obtain ⟨n, rfl⟩ := hC; exact exec_load (ldV _ n.h)) ?_; simp only [List.set_cons_succ, List.set_cons_zero]) | (refine wpV_look rfl rfl rfl rfl rfl (fun K hK => ?_); go_big_quiet_op; refine hK _ ?_; clear hK K))
  refine wpV_end0 rfl rfl (by kernel_rfl) (fun w7 hC hF => ?_)
  obtain ⟨⟨w7, hk7, -⟩, rfl⟩ := hC
  obtain ⟨r1, r3, r4⟩ := store_arr (P := Try.prog) hVl hV1 (o4.keep hk7 (by simp)) i16
  unfold yields
  rw [exec_store r1]
  simp only [yUpon]
  exact hQ _ r3 ((Keep.of_nil hk7).trans r4)

/-- What is seen of the levels that a proof was cut into: a variable, slices. -/
structure Lvs (w : World) (q : Nat) (lo : Option Addr) (lc : Nat) (vs : List Value) (cks : List (List B16)) (gp : List Nat) : Prop where
  obj : w.heap[q]? = some (.cells #[.slice lo cks.length lc] 115 (0, 0))
  lev : Own w 31 1 lo cks.length lc vs
  row : ∀ j (h : j < cks.length), ∃ ao c, vs[j]? = some (.slice ao cks[j].length c) ∧ Sl w 16 ao cks[j].length c (bVs cks[j]) ∧ ∀ y ∈ blk ao, y ∈ gp
theorem Lvs.keep {fp : List Nat} {w w' : World} {q : Nat} {lo : Option Addr} {lc : Nat} {vs : List Value} {cks : List (List B16)} {gp : List Nat} (h : Lvs w q lo lc vs cks gp) (k : Keep fp w w') (h1 : ∀ y ∈ q :: (blk lo ++ gp), y ∉ fp) : Lvs w' q lo lc vs cks gp where
  obj := k.obj h.obj (h1 q (by simp))
  lev := h.lev.keep k fun g hg => h1 g (by simp [hg])
  row := fun j hj => by
    obtain ⟨ao, c, e, s, b⟩ := h.row j hj
    exact ⟨ao, c, e, s.keep k fun g hg => h1 g (by simp [b g hg]), b⟩
theorem Lvs.grow {w w' : World} {q : Nat} {lo : Option Addr} {lc : Nat} {vs : List Value} {cks : List (List B16)} {gp : List Nat} (h : Lvs w q lo lc vs cks gp) (g : Grow w w') : Lvs w' q lo lc vs cks gp := h.keep (Keep.of_grow [] g) (by simp)
/-- What tag a place should have. -/
def tagAt (cks : List (List B16)) (root : B16) (j i : Nat) : B16 := if j = cks.length then root else (cks.getD j []).getD (i % 4) B0

set_option maxRecDepth 100000 in
set_option maxHeartbeats 1000000 in
theorem vtagC {w : World} {q16 q10 : Nat} {lo : Option Addr} {lc : Nat} {vs : List Value} {cks : List (List B16)} {gp : List Nat} (h : Lvs w q16 lo lc vs cks gp) (root : B16) (o10 : Cells w q10 0 (root.b.map B)) (j i : Nat) (hj : j ≤ cks.length) (hi : ∀ hj : j < cks.length, i % 4 < cks[j].length) (hi2 : i ≤ 1000000) (R : Ending → World → Prop)
    (hR : ∀ w', Grow w w' → R (.returned (.agg ((tagAt cks root j i).b.map B).toArray)) w') :
    Calls Try.prog 70 #[.agg #[.int .i64 (j : Int), .int .i64 (i : Int)], .pointer (some ⟨q16, 0, none⟩), .pointer (some ⟨q10, 0, none⟩)] w R := by
  have hml : maxLen = 9223372036854775807 := rfl
  have hl1 := h.lev.sl.hle
  have hl2 := h.lev.sl.hcap
  have o3 := alloc_new w (.cells #[.int .i64 (j : Int), .int .i64 (i : Int)] 76)
  have g3 := Grow.alloc w (.cells #[.int .i64 (j : Int), .int .i64 (i : Int)] 76)
  have z3 : (w.alloc (.cells #[.int .i64 (j : Int), .int .i64 (i : Int)] 76)).heap.size = w.heap.size + 1 := by simp
  have o4 : Own ((w.alloc (.cells #[.int .i64 (j : Int), .int .i64 (i : Int)] 76)).alloc (.cells (List.replicate 16 (.int .u8 0)).toArray 33)) 33 1 (some ⟨(w.alloc (.cells #[.int .i64 (j : Int), .int .i64 (i : Int)] 76)).heap.size, 0, none⟩) 16 16 (List.replicate 16 (.int .u8 0)) := own_new _ _ rfl (by omega)
  have g4 := Grow.alloc (w.alloc (.cells #[.int .i64 (j : Int), .int .i64 (i : Int)] 76)) (.cells (List.replicate 16 (.int .u8 0)).toArray 33)
  have o34 := g4.block o3
  rw [z3] at o4
  have G := g3.trans g4
  have h4 := h.grow G
  have o14 : Cells ((w.alloc (.cells #[.int .i64 (j : Int), .int .i64 (i : Int)] 76)).alloc (.cells (List.replicate 16 (.int .u8 0)).toArray 33)) q10 0 (root.b.map B) := o10.keep (Keep.of_grow [] G) (by simp)
  have c3 := obj_cell o34 0 rfl
  have c16 := obj_cell h4.obj 0 rfl
  obtain ⟨m, hm⟩ : ∃ m, m = cks.length := ⟨_, rfl⟩
  go_enter Try.func70, Try.ntmps70
  go_upto_region 1 with (fail)
  change Code.wp _ _ _ ⟨_, _⟩ ((w.alloc (.cells #[.int .i64 (j : Int), .int .i64 (i : Int)] 76)).alloc (.cells (List.replicate 16 (.int .u8 0)).toArray 33))
  obtain ⟨q3, hq3⟩ : ∃ q, q = w.heap.size := ⟨_, rfl⟩
  obtain ⟨q4, hq4⟩ : ∃ q, q = w.heap.size + 1 := ⟨_, rfl⟩
  rw [← hq4] at o4
  rw [← hq3] at o34 c3
  rw [show w.heap.size = q3 from hq3.symm, show q3 + 1 = q4 by omega]
  have hz4 : w.heap.size ≤ q4 := by omega
  generalize (w.alloc (.cells #[.int .i64 (j : Int), .int .i64 (i : Int)] 76)).alloc (.cells (List.replicate 16 (.int .u8 0)).toArray 33) = w4 at *
  clear hq3 hq4 z3 o3 g3 g4
  by_cases hjm : j = cks.length
  · have e : tagAt cks root j i = root := by unfold tagAt; rw [if_pos hjm]
    rw [e] at hR
    have e2 : ((j : Int) == (m : Int)) = true := by simp [hm, hjm]
    have hVl := bV_len root
    have hV1 := B_one root.b
    obtain ⟨V, hV⟩ : ∃ V, V = root.b.map B := ⟨_, rfl⟩
    rw [← hV] at hVl hV1 o14
    simp only [← hV] at hR
    have hsz : (Try.prog.info? 33).map (·.size) = some V.toArray.size := by rw [List.size_toArray, hVl]; exact i16
    have hsz2 : (Try.prog.info? 33).map (·.size) = some V.length := by rw [hVl]; exact i16
    have hrg : w4.rangeAt q10 0 V := fun k v hk => o14.at hk
    obtain ⟨r1, r3, r4⟩ := store_arr (P := Try.prog) hVl hV1 o4 i16
    have th := own_there o4 V.toArray.size (by simpa using hVl)
    have hal := one_all hV1
    have hf := hR _ (G.then r4 (fun x hx => by simp at hx; omega))
    rw [← hm] at c16
    clear hR r1 r4 hV hi e hjm hm h h4
    go_wp2_with (first | refine wpList_load_mid rfl 33 _ rfl q10 0 rfl V _ hrg Try.underlying33 rfl hsz2 ?_ | refine wpList_store_mid rfl 33 _ _ rfl q4 0 V.toArray rfl rfl th hsz hal ?_)
    exact bodyPost_ret (v := .agg V.toArray) (ret_bytes Try.results70 _ _ q4 V _ _ 16 rfl r3 (by decide) Try.underlying33 rfl i16) rfl hf
  · have hj' : j < cks.length := by omega
    have e2 : ((j : Int) == (m : Int)) = false := by simp; omega
    have hi' := hi hj'
    obtain ⟨ao, c, hv, s, -⟩ := h4.row j hj'
    have e : tagAt cks root j i = (cks[j])[i % 4] := by
      unfold tagAt
      rw [if_neg hjm, show cks.getD j [] = cks[j] by rw [List.getD_eq_getElem?_getD, List.getElem?_eq_getElem hj', Option.getD_some], List.getD_eq_getElem?_getD, List.getElem?_eq_getElem hi', Option.getD_some]
    rw [e] at hR
    obtain ⟨gl, off, hlo, hcl⟩ := h4.lev.sl.hat (by omega)
    have c1 := hcl.at hv
    obtain ⟨gc, offc, hao, hcc⟩ := s.hat (by omega)
    have hx := cells_blk hcc (i % 4) hi'
    have hs1 := s.hle
    have hs2 := s.hcap
    obtain ⟨x, hxe⟩ : ∃ x, x = (cks[j])[i % 4] := ⟨_, rfl⟩
    rw [← hxe] at hR hx
    rw [hao] at c1
    rw [hlo] at c16
    obtain ⟨cl, hcle⟩ : ∃ cl, cl = cks[j].length := ⟨_, rfl⟩
    rw [← hcle] at c1 hs1 hi'
    rw [← hm] at hj' hl1 c16
    clear hi e hjm hxe h h4 hcl hcc s hv hcle hm
    go_upto_region 3 with (fail)
    refine vtag3 q16 q3 q4 gl off m lc j i cl c gc offc hj' hl1 hl2 hi' hs1 hs2 hi2 x _ c16 c1 hx o34 o4 ?_
    intro w6 o6 k6
    intros
    have hf := hR _ (G.then k6 (fun x hx => by simp at hx; omega))
    obtain ⟨V, hV⟩ : ∃ V, V = x.b.map B := ⟨_, rfl⟩
    rw [← hV] at hf o6
    clear hR hV c1 c3 c16 o4 o34 G o14 hx
    go_wp2_with fail
    exact bodyPost_ret (v := .agg V.toArray) (ret_bytes Try.results70 _ _ q4 V _ _ 16 rfl o6 (by decide) Try.underlying33 rfl i16) rfl hf
end Go.Proofs.Ytfmnkcmicbnfdaa

namespace Go.Proofs.Ytfmnkcmicbnfdaa
open Go Go.RowKit

set_option maxRecDepth 100000 in
set_option maxHeartbeats 1000000 in
theorem setIn (t : Tre) (k : Nat) (hk : k < t.n) (hL : t.L = (wl t.n).length) (hn2 : t.n ≤ 1000) (hkey : t.key.length = 32) (a0 : Option Addr) (n c0 : Nat) (text : List UInt8) (htl : text.length ≤ 1000) {h : Int → Bool} {T : Nat → Nat → B16} {FP : List Nat} {cs : List Clm} {lv : Nat → B16} (hT : Agr t.key t.n t.L lv T) (hcs : cs.length ≤ 80000) (w : World) (a : HB w t h T FP cs) (s : Sl w 1 a0 n c0 (text.map B)) (hd : ∀ g ∈ bz n a0, g ∉ t.hard ++ FP) (R : Ending → World → Prop)
    (hR : ∀ (FP' : List Nat) (ds : List Clm) (T' : Nat → Nat → B16) (w' : World), HB w' t (fun j => if j = (k : Int) then true else h j) T' FP' (cs ++ clmS t.key (framS (leafP k text)) true :: ds) → Agr t.key t.n t.L (upL lv k (leafT t.key k text)) T' → (∀ d ∈ ds, NodeC t.key d) → ds.length ≤ t.L → Keep (t.hard ++ FP) w w' → (∀ g ∈ FP', g ∈ FP ∨ w.heap.size ≤ g) → R (.returned (.int .i64 0)) w') :
    Calls Try.prog 31 #[.pointer (some ⟨t.p, 0, none⟩), .int .i64 (k : Int), .slice a0 n c0] w R := by
  have hml : maxLen = 9223372036854775807 := rfl
  have hL0 : 0 < t.L := by
    rw [hL]
    by_cases h : t.n ≤ 1
    · rw [wl_one h]; simp
    · rw [wl_more h]; simp
  have hh := fun R => hasTC (R := R) a.ht hL0 k
  simp only [decide_eq_true (show 0 ≤ (k : Int) ∧ (k : Int) < (t.n : Int) by omega)] at hh
  obtain ⟨w2, hr2, m2, k2⟩ := a.ht.mp.put (P := Try.prog) Try.underlying114 Try.underlying3 (k : Int)
  have a2 := a.marks m2 k2
  have s2 := s.keepZ k2 (fun g hg hm => hd g hg (by simp at hm; subst hm; simp [Tre.hard]))
  have hc3 := obj_cell a.ht.obj 3 rfl
  have hd2 : ∀ g ∈ bz n a0, g ∉ FP := fun g hg hm => hd g hg (List.mem_append_right _ hm)
  clear a m2 s
  go_enter Try.func31, Try.ntmps31
  go_wp2_with fail
  refine hh _ ?_
  clear hh
  go_upto_region 4 with (refine wpList_mput rfl rfl rfl hr2 ?_)
  refine set4 t k hk hL hn2 hkey a0 n c0 text htl hT hcs w2 a2 s2 hd2 ?_
  intro FP' ds T' w' a' h' d' l' k' in'
  intros
  have hf := hR FP' ds T' w' a' h' d' l' ((k2.mono (by simp [Tre.hard])).trans k') (inn_step (fun g hg => .inl hg) k2.size in')
  clear hR hr2 hc3
  go_wp2_with fail
  exact hf

theorem wpList_del {w w' : World} {ops : Array Oper} {rest : List Oper} {a : Act} {Q : Exit → Act → World → Prop} {ty t kt : TypeId} {m k : Operand} {pos : String} {after : Array Edge} {x y : Value} (hm : a.eval m = x) (hk : a.eval k = y) (h : (Builtin.delete_ #[t, kt] ty #[x, y]).run Try.prog w = .ok (.tuple #[]) w')
    (kk : wpList Try.prog ops Q rest a w') : wpList Try.prog ops Q (⟨none, .call { callee := .builtin .delete, args := #[m, k], argTypes := #[t, kt] }, ty, pos, after, none⟩ :: rest) a w := by
  subst hm hk
  refine wpList_exec rfl (v := .tuple #[]) (w' := w') ?_ (by simpa [Act.put] using kk)
  simp only [BigFrame.execOp_builtin, BigFrame.builtin_delete, List.map_toArray, List.map_cons, List.map_nil, Sem.run_bind, h, Result.andThen_ok, Sem.run_pure]
set_option maxRecDepth 100000 in
set_option maxHeartbeats 1000000 in
theorem clearIn (t : Tre) (k : Nat) (hk : k < t.n) (hL : t.L = (wl t.n).length) (hn2 : t.n ≤ 1000) (hkey : t.key.length = 32) {h : Int → Bool} {T : Nat → Nat → B16} {FP : List Nat} {cs : List Clm} {lv : Nat → B16} (hT : Agr t.key t.n t.L lv T) (hcs : cs.length ≤ 80000) (w : World) (a : HB w t h T FP cs) (R : Ending → World → Prop)
    (hR : ∀ (FP' : List Nat) (ds : List Clm) (T' : Nat → Nat → B16) (w' : World), HB w' t (fun j => if j = (k : Int) then false else h j) T' FP' (cs ++ ds) → Agr t.key t.n t.L (upL lv k B0) T' → (∀ d ∈ ds, NodeC t.key d) → ds.length ≤ t.L → Keep (t.hard ++ FP) w w' → (∀ g ∈ FP', g ∈ FP ∨ w.heap.size ≤ g) → R (.returned (.int .i64 0)) w') :
    Calls Try.prog 51 #[.pointer (some ⟨t.p, 0, none⟩), .int .i64 (k : Int)] w R := by
  have hml : maxLen = 9223372036854775807 := rfl
  have hL0 : 0 < t.L := by
    rw [hL]
    by_cases h : t.n ≤ 1
    · rw [wl_one h]; simp
    · rw [wl_more h]; simp
  have hh := fun R => hasTC (R := R) a.ht hL0 k
  simp only [decide_eq_true (show 0 ≤ (k : Int) ∧ (k : Int) < (t.n : Int) by omega)] at hh
  obtain ⟨w2, hr2, m2, k2⟩ := a.ht.mp.del (P := Try.prog) Try.underlying114 Try.underlying3 (k : Int) 0
  have a2 := a.marks m2 k2
  have hc3 := obj_cell a.ht.obj 3 rfl
  have hput := putTC t k hk B0 hL hn2 hkey hT (by omega) w2 a2
  clear a m2
  go_enter Try.func51, Try.ntmps51
  go_wp2_with fail
  refine hh _ ?_
  clear hh
  go_upto_region 4 with (refine wpList_del rfl rfl hr2 ?_)
  go_wp2_with fail
  refine hput _ ?_
  clear hput
  intro FP' ds T' w' a' h' d' l' k' in'
  have hf := hR FP' ds T' w' a' h' d' l' ((k2.mono (by simp [Tre.hard])).trans k') (inn_step (fun g hg => .inl hg) k2.size in')
  clear hR hr2 hc3
  go_wp2_with fail
  exact hf
end Go.Proofs.Ytfmnkcmicbnfdaa

namespace Go.Proofs.Ytfmnkcmicbnfdaa
open Go Go.RowKit

theorem TBB : ST Try.prog 115 31 1 24 := ST.mk' (z := .slice none 0 0) Try.underlying115 (by kernel_rfl) rfl (by decide)
theorem bVs_rep (n : Nat) : bVs (List.replicate n B0) = List.replicate (n * 16) (.int .u8 0) := by
  induction n with
  | zero => rfl
  | succ n ih =>
    rw [List.replicate_succ, show bVs (B0 :: List.replicate n B0) = B0.b.map B ++ bVs (List.replicate n B0) from rfl, ih]
    have e : B0.b.map B = List.replicate 16 (.int .u8 0) := rfl
    rw [e, List.replicate_append_replicate]
    congr 1
    omega
theorem made16 (n : Nat) : madeCells (List.replicate 16 (Value.int .u8 0)).toArray n = (List.replicate n (Value.int .u8 0)).toArray := by
  apply Array.ext'
  refine List.ext_getElem (by simp [madeCells]) fun i h1 h2 => ?_
  have : i % 16 < 16 := Nat.mod_lt _ (by decide)
  simp only [madeCells, List.size_toArray, List.length_replicate, Array.toList_map, Array.toList_range, List.getElem_map, List.getElem_range, List.getElem_replicate]
  rw [getElem!_pos _ _ (by simpa using this), List.getElem_toArray, List.getElem_replicate]
/-- make([]Block, n) -/
theorem make_blks (n : Nat) (hn : n ≤ 100000) (w : World) :
    (Instr.makeSlice 31 (.int .i64 (n : Int)) (.int .i64 (n : Int))).run Try.prog w = .ok (.slice (some ⟨w.heap.size, 0, none⟩) n n) (w.alloc (.cells (bVs (List.replicate n B0)).toArray 33)) := by
  obtain ⟨i, h1, h2, h3, h4⟩ := info_parts (P := Try.prog) (show (Try.prog.info? 33).map (fun i => (i.zero, i.size, i.bytes)) = some (some (.agg (List.replicate 16 (Value.int .u8 0)).toArray), 16, 16) by kernel_rfl)
  have hr := run_make (P := Try.prog) w 31 33 i _ Try.underlying31 h1 h2 .i64 .i64 n n (by omega) (Int.le_refl _) (by rw [h4]; omega) (by omega)
  have e : madeCells (Value.agg (List.replicate 16 (Value.int .u8 0)).toArray).cells (n * 16) = (bVs (List.replicate n B0)).toArray := by
    rw [bVs_rep]
    exact made16 (n * 16)
  rw [Int.toNat_natCast, h3, e] at hr
  exact hr
theorem own_zero (n : Nat) (hn : n ≤ 100000) (w : World) : Own (w.alloc (.cells (bVs (List.replicate n B0)).toArray 33)) 33 16 (some ⟨w.heap.size, 0, none⟩) n n (bVs (List.replicate n B0)) := by
  have hml : maxLen = 9223372036854775807 := rfl
  have := Own.made (n := n) (sz := 16) (heap_alloc_new w (.cells (bVs (List.replicate n B0)).toArray 33)) (by rw [List.size_toArray, bVs_len, List.length_replicate]) (by omega) (by simpa using bVs_one _)
  simpa using this


set_option maxRecDepth 100000 in
set_option maxHeartbeats 1000000 in
theorem new7 (p n j lc wd : Nat) (v0 v1 v3 : Value) (lo : Option Addr) (vs : List Value) (hj : j ≤ 1000) (hwd : wd ≤ 1000) (hwid : ∀ (w : World) (R : Ending → World → Prop), (∀ w', Grow w w' → R (.returned (.int .i64 (wd : Int))) w') → Calls Try.prog 44 #[.int .i64 (n : Int), .int .i64 (j : Int)] w R) {c1 c2 c3 c4 c5 c6 c7 c10 c11 c12 c13 c14 c15 c16 c17 c18 c19 c20 c21 c22 c23 c24 c25 c26 c27 c28 c29 c30 c31 c32 c33 c34 c35 c36 c37 c38 c39 c40 c41 c42 c43 c44 c45 c46 c47 c48 c49 c50 c51 c52 c53 c54 c55 c56 c57 c58 c59 c60 c61 c62 c63 c64 c65 c66 c67 c68 c69 c70 : Value} (w : World)
    (op : w.heap[p]? = some (.cells #[v0, v1, .slice lo j lc, v3] 117 (0, 0))) (ol : Own w 31 1 lo j lc vs) (hp : p ∉ blk lo) {Q : Exit → Act → World → Prop}
    (hQ : ∀ (lo' : Option Addr) (lc' g : Nat) (w' : World), w'.heap[p]? = some (.cells #[v0, v1, .slice lo' (j + 1) lc', v3] 117 (0, 0)) → Own w' 31 1 lo' (j + 1) lc' (vs ++ [.slice (some ⟨g, 0, none⟩) wd wd]) → Own w' 33 16 (some ⟨g, 0, none⟩) wd wd (bVs (List.replicate wd B0)) → g ∉ p :: blk lo' → w.heap.size ≤ g → p ∉ blk lo' → (∀ x ∈ blk lo', x ∈ blk lo ∨ w.heap.size ≤ x) → Keep (p :: blk lo) w w' → ∀ {u32 u33 u34 u35 u36 u37 u38 u39 u40 u41 u42 u43 u44 : Value}, Q .normal ⟨List.toArray (.int .i64 (n : Int) :: c1 :: c2 :: c3 :: c4 :: c5 :: c6 :: c7 :: .pointer (some ⟨p, 0, none⟩) :: .int .i64 (j : Int) :: c10 :: c11 :: c12 :: c13 :: c14 :: c15 :: c16 :: c17 :: c18 :: c19 :: c20 :: c21 :: c22 :: c23 :: c24 :: c25 :: c26 :: c27 :: c28 :: c29 :: c30 :: c31 :: u32 :: u33 :: u34 :: u35 :: u36 :: u37 :: u38 :: u39 :: u40 :: u41 :: u42 :: u43 :: u44 :: c45 :: c46 :: c47 :: c48 :: c49 :: c50 :: c51 :: c52 :: c53 :: c54 :: c55 :: c56 :: c57 :: c58 :: c59 :: c60 :: c61 :: c62 :: c63 :: c64 :: c65 :: c66 :: c67 :: c68 :: c69 :: c70 :: []), []⟩ w') :
    Code.wp Try.prog (regionAt Try.f29 7) Q ⟨List.toArray (.int .i64 (n : Int) :: c1 :: c2 :: c3 :: c4 :: c5 :: c6 :: c7 :: .pointer (some ⟨p, 0, none⟩) :: .int .i64 (j : Int) :: c10 :: c11 :: c12 :: c13 :: c14 :: c15 :: c16 :: c17 :: c18 :: c19 :: c20 :: c21 :: c22 :: c23 :: c24 :: c25 :: c26 :: c27 :: c28 :: c29 :: c30 :: c31 :: c32 :: c33 :: c34 :: c35 :: c36 :: c37 :: c38 :: c39 :: c40 :: c41 :: c42 :: c43 :: c44 :: c45 :: c46 :: c47 :: c48 :: c49 :: c50 :: c51 :: c52 :: c53 :: c54 :: c55 :: c56 :: c57 :: c58 :: c59 :: c60 :: c61 :: c62 :: c63 :: c64 :: c65 :: c66 :: c67 :: c68 :: c69 :: c70 :: []), []⟩ w := by
  have hml : maxLen = 9223372036854775807 := rfl
  let own : World → Prop := fun w => Own w 31 1 lo j lc vs
  have q1 := KW.cell (fp := blk lo) (p0 := own) (obj_cell op 2 rfl) hp
  have hlt := ol.lt
  have hlp := lt_of_block op
  have : Nonempty (KW (blk lo) own w) := ⟨⟨w, Keep.refl _ _, ol⟩⟩
  let W : Nat → Array Value → Value → World → Prop := fun k _ v w' =>
    (k = 7 → v = .int .i64 (wd : Int)) ∧
    (k = 8 → ∃ g, v = .slice (some ⟨g, 0, none⟩) wd wd ∧ Own w' 33 16 (some ⟨g, 0, none⟩) wd wd (bVs (List.replicate wd B0)) ∧ w.heap.size ≤ g) ∧
    (k = 9 → ∃ g2 g, v = .slice (some ⟨g2, 0, none⟩) 1 1 ∧ Sl w' 1 (some ⟨g2, 0, none⟩) 1 1 [.slice (some ⟨g, 0, none⟩) wd wd] ∧ Own w' 33 16 (some ⟨g, 0, none⟩) wd wd (bVs (List.replicate wd B0)) ∧ w.heap.size ≤ g ∧ w.heap.size ≤ g2) ∧
    (k = 10 → ∃ lo' c' g, v = .slice lo' (j + 1) c' ∧ Own w' 31 1 lo' (j + 1) c' (vs ++ [.slice (some ⟨g, 0, none⟩) wd wd]) ∧ Own w' 33 16 (some ⟨g, 0, none⟩) wd wd (bVs (List.replicate wd B0)) ∧ w.heap.size ≤ g ∧ g ∉ blk lo' ∧ ∀ x ∈ blk lo', x ∈ blk lo ∨ w.heap.size ≤ x)
  conv => arg 2; whnf
  refine wp_region_R (segR (blk lo) (fun k => if k = 10 then blk lo else []) own w [7, 8, 9, 10] W (fun k y hk => ?_) (fun k l us v wa wb hij kp ⟨v1, v2, v3, v4⟩ => ?_)) (by kernel_rfl) (segR_drew (ol.grow (Grow.drew w))) ?_
  · split at hk
    · exact hk
    · simp at hk
  · have hnew : ∀ g : Nat, w.heap.size ≤ g → g ∉ (if k = 10 then blk lo else []) := fun g hg hm => by
      split at hm
      · have := hlt g hm; omega
      · simp at hm
    refine ⟨v1, fun hj => ?_, fun hj => ?_, fun hj => ?_⟩
    · obtain ⟨g, hv, o, hg⟩ := v2 hj
      exact ⟨g, hv, o.keep kp (by simpa [blk] using hnew g hg), hg⟩
    · obtain ⟨g2, g, hv, s, o, hg, hg2⟩ := v3 hj
      exact ⟨g2, g, hv, s.keep kp (by simpa [blk] using hnew g2 hg2), o.keep kp (by simpa [blk] using hnew g hg), hg, hg2⟩
    · obtain ⟨lo', c', g, hv, o, o2, hg, hn, hb⟩ := v4 hj
      rw [if_neg (fun e => hij (e.trans hj.symm))] at kp
      exact ⟨lo', c', g, hv, o.keep kp (by simp), o2.keep kp (by simp), hg, hn, hb⟩
  unfold segR
  repeat (first | (refine wpV_skp rfl rfl ?_; simp only [List.set_cons_succ, List.set_cons_zero]) | (refine wpV_look rfl rfl rfl rfl rfl (fun K hK => ?_); go_big_quiet_op; refine hK _ ?_; clear hK K))
  refine wpV_mk rfl rfl rfl [] (by kernel_rfl) (fun vs w7 hC hF => yields_call (by kernel_rfl) ?_) (fun vs v w7 hC hV hF => ?_)
  · obtain ⟨⟨w7, hk, hp7⟩, rfl⟩ := hC
    exact hwid w7 _ (fun w8 g8 => ⟨_, rfl, ⟨Keep.of_grow _ g8, hp7.grow g8⟩, fun _ => rfl, by simp, by simp, by simp⟩)
  obtain rfl := hV.1 rfl
  clear hV hC hF w7
  simp only [List.set_cons_succ, List.set_cons_zero]
  refine wpV_mk rfl rfl rfl [] (by kernel_rfl) (fun vs w7 hC hF => ?_) (fun vs v w7 hC hV hF => ?_)
  · obtain ⟨⟨w7, hk, hp7⟩, rfl⟩ := hC
    have hm := make_blks wd (by omega) w7
    unfold yields
    go_simp
    simp only [yUpon]
    exact ⟨⟨Keep.alloc _ _ _, hp7.grow (Grow.alloc _ _)⟩, by simp, fun _ => ⟨_, rfl, own_zero wd (by omega) w7, hk.size⟩, by simp, by simp⟩
  obtain ⟨g8, rfl, -, -⟩ := hV.2.1 rfl
  clear hV hC hF w7
  simp only [List.set_cons_succ, List.set_cons_zero]
  refine wpV_mk rfl rfl rfl [8] (by kernel_rfl) (fun vs w7 hC hF => ?_) (fun vs v w7 hC hV hF => ?_)
  · obtain ⟨g, e, o, hg⟩ := ((hF 8 (by simp)).2 rfl).2.1 rfl
    cases e
    obtain ⟨⟨w7, hk, hp7⟩, rfl⟩ := hC
    have ga := Grow.alloc w7 (.cells #[.slice (some ⟨g8, 0, none⟩) wd wd] 31)
    have s9 := sl_obj (C := [.slice (some ⟨g8, 0, none⟩) wd wd]) (alloc_new w7 (.cells #[.slice (some ⟨g8, 0, none⟩) wd wd] 31)) 1 rfl (by decide) (by simp [Value.oneCell'])
    unfold yields
    go_simp
    exact ⟨⟨Keep.of_grow _ ga, hp7.grow ga⟩, by simp, by simp, fun _ => ⟨_, _, rfl, s9, o.grow ga, hg, hk.size⟩, by simp⟩
  obtain ⟨g9, g9', rfl, -, -, -, -⟩ := hV.2.2.1 rfl
  clear hV hC hF w7
  simp only [List.set_cons_succ, List.set_cons_zero]
  refine wpV_mk rfl rfl rfl [9] (by kernel_rfl) (fun vs w7 hC hF => ?_) (fun vs v w7 hC hV hF => ?_)
  · obtain ⟨g2, g, e, s, o, hg, hg2⟩ := ((hF 9 (by simp)).2 rfl).2.2.1 rfl
    cases e
    obtain ⟨⟨w7, hk, hp7⟩, rfl⟩ := hC
    obtain ⟨ao3, c3, w3, hr, h1, h2, h3, h4⟩ := run_app TBB w7 115 hp7 s (by omega) (by omega)
    have hgl : g ∉ blk lo := fun hm => by have := hlt g hm; omega
    have hg7 := o.lt g (by simp [blk])
    refine yields_run (run_exec_append hr) ⟨⟨h3, h2⟩, by simp, by simp, by simp, fun _ => ⟨ao3, c3, g, rfl, h1, o.keep h3 (by simpa [blk] using hgl), hg, fun hm => ?_, fun x hx => (h4 x hx).imp id fun h => Nat.le_trans hk.size h⟩⟩
    rcases h4 g hm with h | h
    · exact hgl h
    · omega
  obtain ⟨lo10, c10, g10, rfl, -, -⟩ := hV.2.2.2 rfl
  clear hV hC hF w7
  simp only [List.set_cons_succ, List.set_cons_zero]
  repeat (first | (refine wpV_skp rfl rfl ?_; simp only [List.set_cons_succ, List.set_cons_zero]) | (refine wpV_look rfl rfl rfl rfl rfl (fun K hK => ?_); go_big_quiet_op; refine hK _ ?_; clear hK K))
  refine wpV_end0 rfl rfl (by kernel_rfl) (fun w2 hC hF => ?_)
  obtain ⟨lo', c', g, e, o7, o8, hg, hn, b7⟩ := ((hF 10).2 rfl).2.2.2 rfl
  cases e
  obtain ⟨⟨w2, hk, -⟩, rfl⟩ := hC
  clear hF q1
  have hob := hk.obj op hp
  have cc := obj_cell hob 2 rfl
  have ff := obj_free hob 2
  have hp7 : p ∉ blk lo10 := fun hm => by
    rcases b7 p hm with h | h
    · exact hp h
    · omega
  have hgp : g ≠ p := fun e => by omega
  unfold yields
  go_simp
  simp only [yUpon]
  have ho3 := obj_set hob 2 (.slice lo10 (j + 1) c10)
  simp only [List.setIfInBounds_toArray, List.set_cons_succ, List.set_cons_zero] at ho3
  have kp := Keep.setCell (fp := [p]) w2 ⟨p, 2, none⟩ (by simp) (.slice lo10 (j + 1) c10)
  exact hQ lo10 c10 g _ ho3 (o7.keep kp (fun y hy hm => hp7 (by simp at hm; rw [← hm]; exact hy))) (o8.keep kp (by simpa [blk] using hgp)) (by simp [hgp, hn]) hg hp7 b7 ((hk.mono (by simp +contextual)).trans (kp.mono (by simp)))
end Go.Proofs.Ytfmnkcmicbnfdaa

namespace Go.Proofs.Ytfmnkcmicbnfdaa
open Go Go.RowKit

theorem bVs_take (l : List B16) (n : Nat) (h : n ≤ l.length) : (bVs l).take (n * 16) = bVs (l.take n) := by
  have h1 : bVs l = bVs (l.take n) ++ bVs (l.drop n) := by rw [← bVs_app, List.take_append_drop]
  rw [h1, List.take_left' (by rw [bVs_len, List.length_take, Nat.min_eq_left h])]
theorem bVs_drop (l : List B16) (n : Nat) (h : n ≤ l.length) : (bVs l).drop (n * 16) = bVs (l.drop n) := by
  have h1 : bVs l = bVs (l.take n) ++ bVs (l.drop n) := by rw [← bVs_app, List.take_append_drop]
  rw [h1, List.drop_left' (by rw [bVs_len, List.length_take, Nat.min_eq_left h])]

theorem exec_sliceT {P : Program} {w : World} {d : Option Tmp} {ty t : TypeId} {x : Operand} {lo hi mx : Option Operand} {pos : String} {after : Array Edge} {gd : Option (Nat × Bool)} {ρ : Operand → Value} {v : Value} (h : (Instr.sliceAt t (ρ x) (lo.map ρ) (hi.map ρ) (mx.map ρ)).run P w = .ok v w) :
    (execOp ρ ⟨d, .slice t x lo hi mx, ty, pos, after, gd⟩).run P w = .ok (.value v) w := by
  unfold execOp
  simp only [Sem.run_bind, h, Result.andThen_ok, Sem.run_pure]

/-- An operation that looks at no memory, whose value is given. -/
theorem wpV_fval {P : Program} {ops : Array Oper} {bm : Array Nat} {fr : List Nat} {Q : Exit → Act → World → Prop} {k : Nat} {S : Seg} {l : List Value} {df : List Deferred} {F : Facts} {dst : Nat} {op : Op} {ty : TypeId} {pos : String} {after : Array Edge} {gd : Option (Nat × Bool)} {rest : List Oper} (hi : ops[k]? = some ⟨some dst, op, ty, pos, after, gd⟩)
    (hw : Region.wanted ⟨some dst, op, ty, pos, after, gd⟩ (yielded ops l.toArray) = true) (hfr : fr.contains k = true) (hp : plainOp op = true) (v : Value)
    (hv : ∀ w, (execOp (Act.mk l.toArray df).eval ⟨some dst, op, ty, pos, after, gd⟩).run P w = .ok (.value v) w)
    (h : wpV P ops bm fr Q rest (k + 1) S ⟨(l.set dst v).toArray, df⟩ F) : wpV P ops bm fr Q (⟨some dst, op, ty, pos, after, gd⟩ :: rest) k S ⟨l.toArray, df⟩ F :=
  ⟨_, hi, .inl ⟨v, .inl ⟨hw, .inl (by simpa using hfr), hp, fun w _ => hv w⟩, by simpa [Act.put] using h⟩⟩
/-- One world alone. -/
def segE (w' : World) : Seg where
  C := fun x => x = w'
  R := fun _ _ x => x = w'
  V := fun _ _ _ _ => True
  es := []
  hC := fun _ _ _ _ h => h
  hV := fun _ _ _ _ _ _ _ _ _ h => h


set_option maxRecDepth 100000 in
set_option maxHeartbeats 1000000 in
theorem ver10 (q16 : Nat) (po : Option Addr) (m pc : Nat) (P : List B16) (hm0 : m = P.length) (ro : Option Addr) (k rc : Nat) (hk : k ≤ m) {lo : Option Addr} {lc : Nat} {lv : List Value} {cks : List (List B16)} {gp : List Nat} (hcl : cks.length ≤ 1001) {c0 c1 c2 c3 c4 c5 c7 c8 c9 c10 c11 c12 c13 c14 c15 c17 c19 c20 c21 c22 c23 c24 c25 c26 c27 c28 c29 c30 c31 c32 c33 c34 c35 c36 c37 c38 c39 c40 c41 c42 c43 c44 c45 c46 c47 c48 c49 c50 c51 c52 c53 c54 c55 c56 c57 c58 c59 c60 c61 c62 c63 c64 c65 c66 c67 c68 c69 c70 c71 c72 c73 c74 c75 c76 c77 c78 c79 c80 c81 c82 c83 c84 c85 c86 c87 c88 c89 c90 c91 c92 c93 c94 c95 c96 c97 : Value} (w : World) (h : Lvs w q16 lo lc lv cks gp) (sp : Sl w 16 po m pc (bVs P)) (hq : q16 ∉ blk lo) (hpo : ∀ y ∈ blk po, y ∈ gp) (hgp : ∀ y ∈ gp, y ∉ q16 :: blk lo) {Q : Exit → Act → World → Prop}
    (hQ : ∀ (lo' : Option Addr) (lc' : Nat) (vs' : List Value) (so2 : Option Addr) (sc2 : Nat) (w' : World), Lvs w' q16 lo' lc' vs' (cks ++ [P.take k]) gp → Sl w' 16 so2 (m - k) sc2 (bVs (P.drop k)) → blk so2 = blk po → Keep (q16 :: blk lo) w w' → (∀ x ∈ blk lo', x ∈ blk lo ∨ w.heap.size ≤ x) → ∀ {u46 u47 u48 u49 u50 u51 u52 u53 u54 u55 u56 : Value}, Q .normal ⟨List.toArray (c0 :: c1 :: c2 :: c3 :: c4 :: c5 :: .slice so2 (m - k) sc2 :: c7 :: c8 :: c9 :: c10 :: c11 :: c12 :: c13 :: c14 :: c15 :: .pointer (some ⟨q16, 0, none⟩) :: c17 :: .slice ro k rc :: c19 :: c20 :: c21 :: c22 :: c23 :: c24 :: c25 :: c26 :: c27 :: c28 :: c29 :: c30 :: c31 :: c32 :: c33 :: c34 :: c35 :: c36 :: c37 :: c38 :: c39 :: c40 :: c41 :: c42 :: c43 :: c44 :: c45 :: u46 :: u47 :: u48 :: u49 :: u50 :: u51 :: u52 :: u53 :: u54 :: u55 :: u56 :: c57 :: c58 :: c59 :: c60 :: c61 :: c62 :: c63 :: c64 :: c65 :: c66 :: c67 :: c68 :: c69 :: c70 :: c71 :: c72 :: c73 :: c74 :: c75 :: c76 :: c77 :: c78 :: c79 :: c80 :: c81 :: c82 :: c83 :: c84 :: c85 :: c86 :: c87 :: c88 :: c89 :: c90 :: c91 :: c92 :: c93 :: c94 :: c95 :: c96 :: c97 :: []), []⟩ w') :
    Code.wp Try.prog (regionAt Try.f36 10) Q ⟨List.toArray (c0 :: c1 :: c2 :: c3 :: c4 :: c5 :: .slice po m pc :: c7 :: c8 :: c9 :: c10 :: c11 :: c12 :: c13 :: c14 :: c15 :: .pointer (some ⟨q16, 0, none⟩) :: c17 :: .slice ro k rc :: c19 :: c20 :: c21 :: c22 :: c23 :: c24 :: c25 :: c26 :: c27 :: c28 :: c29 :: c30 :: c31 :: c32 :: c33 :: c34 :: c35 :: c36 :: c37 :: c38 :: c39 :: c40 :: c41 :: c42 :: c43 :: c44 :: c45 :: c46 :: c47 :: c48 :: c49 :: c50 :: c51 :: c52 :: c53 :: c54 :: c55 :: c56 :: c57 :: c58 :: c59 :: c60 :: c61 :: c62 :: c63 :: c64 :: c65 :: c66 :: c67 :: c68 :: c69 :: c70 :: c71 :: c72 :: c73 :: c74 :: c75 :: c76 :: c77 :: c78 :: c79 :: c80 :: c81 :: c82 :: c83 :: c84 :: c85 :: c86 :: c87 :: c88 :: c89 :: c90 :: c91 :: c92 :: c93 :: c94 :: c95 :: c96 :: c97 :: []), []⟩ w := by
  have hml : maxLen = 9223372036854775807 := rfl
  have hkP : k ≤ P.length := by omega
  have hm := Lib.hid hm0
  clear hm0
  obtain ⟨so, sc, hcut, sk, hso⟩ := run_cut0 TBl sp (k : Int) k rfl hk
  obtain ⟨so2, sc2, hcut2, sk2, hso2⟩ := run_cut1 TBl sp (k : Int) k rfl hk
  rw [bVs_take P k hkP] at sk
  rw [bVs_drop P k hkP] at sk2
  have hp1 := sp.hle
  have hp2 := sp.hcap
  let own : World → Prop := fun w => Own w 31 1 lo cks.length lc lv
  have q1 := KW.cell (fp := blk lo) (p0 := own) (obj_cell h.obj 0 rfl) hq
  have hlt := h.lev.lt
  have hlq := lt_of_block h.obj
  have : Nonempty (KW (blk lo) own w) := ⟨⟨w, Keep.refl _ _, h.lev⟩⟩
  obtain ⟨n, hn⟩ : ∃ n, n = cks.length := ⟨_, rfl⟩
  let W : Nat → Array Value → Value → World → Prop := fun j _ v w' =>
    (j = 5 → ∃ g, v = .slice (some ⟨g, 0, none⟩) 1 1 ∧ Sl w' 1 (some ⟨g, 0, none⟩) 1 1 [.slice so k sc] ∧ w.heap.size ≤ g) ∧
    (j = 6 → ∃ lo' c', v = .slice lo' (n + 1) c' ∧ Own w' 31 1 lo' (n + 1) c' (lv ++ [.slice so k sc]) ∧ ∀ x ∈ blk lo', x ∈ blk lo ∨ w.heap.size ≤ x)
  conv => arg 2; whnf
  refine wp_region_F [7, 8, 9, 10] (segR (blk lo) (fun k => if k = 6 then blk lo else []) own w [5, 6] W (fun k y hk => ?_) (fun k l us v wa wb hij kp ⟨v3, v4⟩ => ?_)) (by kernel_rfl) (segR_drew (h.lev.grow (Grow.drew w))) ?_
  · split at hk
    · exact hk
    · simp at hk
  · have hnew : ∀ g : Nat, w.heap.size ≤ g → g ∉ (if k = 6 then blk lo else []) := fun g hg hm => by
      split at hm
      · have := hlt g hm; omega
      · simp at hm
    refine ⟨fun hj => ?_, fun hj => ?_⟩
    · obtain ⟨g, hv, o, hg⟩ := v3 hj
      exact ⟨g, hv, o.keep kp (by simpa [blk] using hnew g hg), hg⟩
    · obtain ⟨lo', c', hv, o, hb⟩ := v4 hj
      rw [if_neg (fun e => hij (e.trans hj.symm))] at kp
      exact ⟨lo', c', hv, o.keep kp (by simp), hb⟩
  unfold segR
  rw [← hn] at q1
  have HN := Lib.hid hn
  have hn1 : n ≤ 1001 := by omega
  clear hn
  refine wpV_look rfl rfl rfl rfl rfl (fun K hK => ?_); go_big_quiet_op; refine hK _ ?_; clear hK K
  refine wpV_look rfl rfl rfl rfl rfl (fun K hK => ?_); go_big_quiet_op; refine hK _ ?_; clear hK K
  refine wpV_look rfl rfl rfl rfl rfl (fun K hK => ?_); go_big_quiet_op; refine hK _ ?_; clear hK K
  refine wpV_look rfl rfl rfl rfl rfl (fun K hK => ?_); go_big_quiet_op; refine hK _ ?_; clear hK K
  refine wpV_val rfl rfl rfl rfl rfl _ (fun w hC => exec_sliceT (hcut w)) ?_
  simp only [List.set_cons_succ, List.set_cons_zero]
  refine wpV_mk rfl rfl rfl [] (by kernel_rfl) (fun vs w7 hC hF => ?_) (fun vs v w7 hC hV hF => ?_)
  · obtain ⟨⟨w7, hk7, hp7⟩, rfl⟩ := hC
    have ga := Grow.alloc w7 (.cells #[.slice so k sc] 31)
    have s9 := sl_obj (C := [.slice so k sc]) (alloc_new w7 (.cells #[.slice so k sc] 31)) 1 rfl (by decide) (by simp [Value.oneCell'])
    unfold yields
    go_simp
    exact ⟨⟨Keep.of_grow _ ga, hp7.grow ga⟩, fun _ => ⟨_, rfl, s9, hk7.size⟩, by simp⟩
  obtain ⟨g5, rfl, -, -⟩ := hV.1 rfl
  clear hV hC hF w7
  simp only [List.set_cons_succ, List.set_cons_zero]
  refine wpV_mk rfl rfl rfl [5] (by kernel_rfl) (fun vs7 w7 hC hF => ?_) (fun vs7 v w7 hC hV hF => ?_)
  · obtain ⟨g2, e, s, hg2⟩ := ((hF 5 (by simp)).2 rfl).1 rfl
    cases e
    obtain ⟨⟨w7, hk7, hp7⟩, rfl⟩ := hC
    have hp7' : Own w7 31 1 lo n lc lv := by rw [HN.out]; exact hp7
    obtain ⟨ao3, c3, w3, hr, h1, h2, h3, h4⟩ := run_app TBB w7 115 hp7' s (by omega) (by omega)
    exact yields_run (run_exec_append hr) ⟨⟨h3, by show Own w3 31 1 lo cks.length lc lv; rw [← HN.out]; exact h2⟩, by simp, fun _ => ⟨ao3, c3, rfl, h1, fun x hx => (h4 x hx).imp id fun h => Nat.le_trans hk7.size h⟩⟩
  obtain ⟨lo6, c6, rfl, -, -⟩ := hV.2 rfl
  clear hV hC hF w7
  simp only [List.set_cons_succ, List.set_cons_zero]
  refine wpV_free rfl rfl rfl rfl (fun K hK => ?_); go_big_quiet_op; refine hK _ ?_; clear hK K
  refine wpV_free rfl rfl rfl rfl (fun K hK => ?_); go_big_quiet_op; refine hK _ ?_; clear hK K
  refine wpV_free rfl rfl rfl rfl (fun K hK => ?_); go_big_quiet_op; refine hK _ ?_; clear hK K
  refine wpV_fval rfl rfl rfl rfl _ (fun w => exec_sliceT (hcut2 w)) ?_
  simp only [List.set_cons_succ, List.set_cons_zero]
  refine wpV_tn0 rfl rfl (by kernel_rfl) (fun w2 hC hF => ?_)
  obtain ⟨lo', c', e, o7, b7⟩ := ((hF 6).2 rfl).2 rfl
  cases e
  obtain ⟨⟨w2, hk2, -⟩, rfl⟩ := hC
  have hob := hk2.obj h.obj hq
  have cc := obj_cell hob 0 rfl
  have ff := obj_free hob 0
  have hq6 : q16 ∉ blk lo6 := fun hm => by
    rcases b7 q16 hm with h | h
    · exact hq h
    · omega
  have ho3 := obj_set hob 0 (.slice lo6 (n + 1) c6)
  simp only [List.setIfInBounds_toArray, List.set_cons_zero] at ho3
  have kp := Keep.setCell (fp := [q16]) w2 ⟨q16, 0, none⟩ (by simp) (.slice lo6 (n + 1) c6)
  have hlen : (cks ++ [P.take k]).length = n + 1 := by rw [List.length_append, HN.out]; rfl
  have K2 : Keep (q16 :: blk lo) w (w2.setCell ⟨q16, 0, none⟩ (.slice lo6 (n + 1) c6)) := (hk2.mono (by simp +contextual)).trans (kp.mono (by simp))
  have hL : Lvs (w2.setCell ⟨q16, 0, none⟩ (.slice lo6 (n + 1) c6)) q16 lo6 c6 (lv ++ [.slice so k sc]) (cks ++ [P.take k]) gp := {
    obj := by rw [hlen]; exact ho3
    lev := by rw [hlen]; exact o7.keep kp (fun y hy hm => hq6 (by simp at hm; rw [← hm]; exact hy))
    row := fun j hj => by
      by_cases e : j < cks.length
      · obtain ⟨ao, c, hv, s, b⟩ := h.row j e
        refine ⟨ao, c, ?_, ?_, b⟩
        · rw [List.getElem?_append_left (by have := h.lev.row.1; omega), List.getElem_append_left e]; exact hv
        · rw [List.getElem_append_left e]; exact s.keep K2 (fun y hy => hgp y (b y hy))
      · have ej : j = cks.length := by rw [List.length_append] at hj; simp at hj; omega
        subst ej
        have hkl : (P.take k).length = k := by rw [List.length_take, ← hm.out, Nat.min_eq_left hk]
        refine ⟨so, sc, ?_, ?_, fun y hy => hpo y (by rw [← hso]; exact hy)⟩
        · rw [List.getElem?_append_right (by have := h.lev.row.1; omega)]
          have hll : lv.length = cks.length := by have := h.lev.row.1; omega
          simp [hll, hkl]
        · have e2 : (cks ++ [P.take k])[cks.length]'hj = P.take k := by simp
          rw [e2, hkl]
          exact sk.keep K2 (fun y hy => hgp y (hpo y (by rw [← hso]; exact hy))) }
  have hf := fun {u46 u47 u48 u49 u50 u51 u52 u53 u54 u55 u56 : Value} => @hQ lo6 c6 _ so2 sc2 _ hL (sk2.keep K2 (fun y hy => hgp y (hpo y (by rw [← hso2]; exact hy)))) hso2 K2 b7 u46 u47 u48 u49 u50 u51 u52 u53 u54 u55 u56
  clear hQ hL hob ho3 K2 kp o7 hF
  unfold yields
  go_simp
  simp only [yUpon]
  refine ⟨segE _, rfl, ?_⟩
  refine wpV_val rfl rfl rfl rfl rfl _ (fun w hC => rfl) ?_
  simp only [List.set_cons_succ, List.set_cons_zero]
  refine wpV_nil ?_
  intro w9 hC _
  obtain rfl : w9 = _ := hC
  exact hf
end Go.Proofs.Ytfmnkcmicbnfdaa

namespace Go.Proofs.Ytfmnkcmicbnfdaa
open Go Go.RowKit


set_option maxRecDepth 100000 in
set_option maxHeartbeats 1000000 in
theorem ver18 (q16 q10 q21 i jv idx : Nat) (hjv : Hid (jv = i + 1)) (hidx : idx ≤ 1000000) (ko : Option Addr) (kc : Nat) (key : List UInt8) (hkey : key.length = 32) (bp : Option Addr) {FP : List Nat} {cs : List Clm} (hcs : cs.length ≤ 100000) {lo : Option Addr} {lc : Nat} {lv : List Value} {cks : List (List B16)} {gp : List Nat} (hcl : cks.length ≤ 1001) (hi : i < cks.length) (h4 : cks[i].length ≤ 4) (hin : ∀ hj : jv < cks.length, idx % 4 < cks[jv].length) (root : B16) (c : Bool) (hc : c = (shortS (macS key (framS (nodeP jv idx cks[i]))) == (tagAt cks root jv idx).b)) {c0 c3 c4 c5 c6 c7 c8 c9 c10 c11 c12 c13 c14 c15 c17 c18 c22 c23 c24 c25 c26 c27 c28 c29 c30 c31 c32 c33 c34 c35 c36 c37 c38 c39 c40 c41 c42 c43 c44 c45 c46 c47 c48 c49 c50 c51 c52 c53 c54 c55 c56 c57 c58 c59 c60 c61 c62 c63 c64 c65 c66 c67 c68 c69 c70 c71 c72 c73 c74 c75 c76 c77 c78 c79 c80 c81 c82 c83 c84 c85 c86 c87 c88 c89 c90 c91 c92 c93 c94 c95 c96 c97 : Value} (w : World) (h : Lvs w q16 lo lc lv cks gp) (o10 : Cells w q10 0 (root.b.map B)) (o21 : w.heap[q21]? = some (.cells #[.int .i64 (jv : Int), .int .i64 (idx : Int)] 76 (0, 0))) (sk : Sl w 1 ko 32 kc (key.map B)) (b : BkO w (.pointer bp) FP cs)
    (hd : ∀ y ∈ q16 :: (blk lo ++ gp), y ∉ FP) (hd2 : q10 ∉ FP ∧ q21 ∉ FP) (hd3 : ∀ y ∈ blk ko, y ∉ FP) {Q : Exit → Act → World → Prop}
    (hQ : ∀ (FP' : List Nat) (w' : World), BkO w' (.pointer bp) FP' (cs ++ if c then [clmS key (framS (nodeP jv idx cks[i])) false] else []) → Keep FP w w' → (∀ g ∈ FP', g ∈ FP ∨ w.heap.size ≤ g) → ∀ {u84 u85 u86 u87 u88 u89 u90 u91 u92 u93 u94 u95 : Value}, Q .normal ⟨List.toArray (c0 :: .slice ko 32 kc :: .pointer bp :: c3 :: c4 :: c5 :: c6 :: c7 :: c8 :: c9 :: c10 :: c11 :: c12 :: c13 :: c14 :: c15 :: .pointer (some ⟨q16, 0, none⟩) :: c17 :: c18 :: .func (.func 70) #[] #[.pointer (some ⟨q16, 0, none⟩), .pointer (some ⟨q10, 0, none⟩)] :: .int .i64 (i : Int) :: .pointer (some ⟨q21, 0, none⟩) :: c22 :: c23 :: c24 :: c25 :: c26 :: c27 :: c28 :: c29 :: c30 :: c31 :: c32 :: c33 :: c34 :: c35 :: c36 :: c37 :: c38 :: c39 :: c40 :: c41 :: c42 :: c43 :: c44 :: c45 :: c46 :: c47 :: c48 :: c49 :: c50 :: c51 :: c52 :: c53 :: c54 :: c55 :: c56 :: c57 :: c58 :: c59 :: c60 :: c61 :: c62 :: c63 :: c64 :: c65 :: c66 :: c67 :: c68 :: c69 :: c70 :: c71 :: c72 :: c73 :: c74 :: c75 :: c76 :: c77 :: c78 :: c79 :: c80 :: c81 :: c82 :: c83 :: u84 :: u85 :: u86 :: u87 :: u88 :: u89 :: u90 :: u91 :: u92 :: u93 :: u94 :: u95 :: .bool (!c) :: c97 :: []), []⟩ w') :
    Code.wp Try.prog (regionAt Try.f36 18) Q ⟨List.toArray (c0 :: .slice ko 32 kc :: .pointer bp :: c3 :: c4 :: c5 :: c6 :: c7 :: c8 :: c9 :: c10 :: c11 :: c12 :: c13 :: c14 :: c15 :: .pointer (some ⟨q16, 0, none⟩) :: c17 :: c18 :: .func (.func 70) #[] #[.pointer (some ⟨q16, 0, none⟩), .pointer (some ⟨q10, 0, none⟩)] :: .int .i64 (i : Int) :: .pointer (some ⟨q21, 0, none⟩) :: c22 :: c23 :: c24 :: c25 :: c26 :: c27 :: c28 :: c29 :: c30 :: c31 :: c32 :: c33 :: c34 :: c35 :: c36 :: c37 :: c38 :: c39 :: c40 :: c41 :: c42 :: c43 :: c44 :: c45 :: c46 :: c47 :: c48 :: c49 :: c50 :: c51 :: c52 :: c53 :: c54 :: c55 :: c56 :: c57 :: c58 :: c59 :: c60 :: c61 :: c62 :: c63 :: c64 :: c65 :: c66 :: c67 :: c68 :: c69 :: c70 :: c71 :: c72 :: c73 :: c74 :: c75 :: c76 :: c77 :: c78 :: c79 :: c80 :: c81 :: c82 :: c83 :: c84 :: c85 :: c86 :: c87 :: c88 :: c89 :: c90 :: c91 :: c92 :: c93 :: c94 :: c95 :: c96 :: c97 :: []), []⟩ w := by
  have hml : maxLen = 9223372036854775807 := rfl
  obtain ⟨ck, hce⟩ : ∃ ck, ck = cks[i] := ⟨_, rfl⟩
  rw [← hce] at h4 hc hQ
  have hfl := nodeP_len jv idx ck
  have hj1 : jv ≤ 100000 := by have := hjv.out; omega
  have hjl : jv ≤ cks.length := by have := hjv.out; omega
  have hA1 : jv ≤ 2147483647 := by omega
  have hA2 : idx ≤ 2147483647 := by omega
  have hA3 : ck.length ≤ 1000 := by omega
  have hnp := fun ko kc w s R hR => nodePartsC jv idx hA1 hA2 ko kc ck ck.length rfl hA3 w s R hR
  have htag := fun w' (k : Keep FP w w') R hR => vtagC (h.keep k hd) root (o10.keep k hd2.1) jv idx hjl hin hidx R hR
  have hck : ∀ w', BkO w' (.pointer bp) FP cs → Sl w' 1 ko 32 kc (key.map B) → ∀ lo vs, Sl w' 1 lo 4 4 vs → Pt w' vs (nodeP jv idx ck) → ∀ R : Ending → World → Prop, (∀ fp' w'', BkO w'' (.pointer bp) fp' (cs ++ if c then [clmS key (framS (nodeP jv idx ck)) false] else []) → Keep FP w' w'' → (∀ g ∈ fp', g ∈ FP ∨ w'.heap.size ≤ g) → R (.returned (.bool c)) w'') → Calls Try.prog 71 #[.pointer bp, .slice ko 32 kc, .agg ((tagAt cks root jv idx).b.map B).toArray, .slice lo 4 4] w' R :=
    fun w' b sk lo vs s pt R hR => by
      refine checkO b hcs ko 32 kc key (tagAt cks root jv idx).b hkey (tagAt cks root jv idx).h lo 4 4 vs (nodeP jv idx ck) rfl sk (by omega) s pt (by omega) (by omega) R ?_
      rw [← hc]
      exact hR
  obtain ⟨ao, cc, hv, sr, hgp⟩ := h.row i hi
  rw [← hce] at hv sr
  obtain ⟨gl, off, hlo, hcl2⟩ := h.lev.sl.hat (by omega)
  have c1 := hcl2.at hv
  have c16 := obj_cell h.obj 0 rfl
  rw [hlo] at c16
  have hl1 := h.lev.sl.hle
  have hl2 := h.lev.sl.hcap
  have hrd : ∀ y ∈ blk ao, y ∉ FP := fun y hy => hd y (by simp [hgp y hy])
  have q1 := KW.cell (fp := FP) (p0 := tt) c16 (hd q16 (by simp))
  have q2 := KW.cell (fp := FP) (p0 := tt) c1 (hd gl (by rw [hlo]; simp [blk]))
  have q3 := KW.cell (fp := FP) (p0 := tt) (obj_cell o21 0 rfl) hd2.2
  have q4 := KW.cell (fp := FP) (p0 := tt) (obj_cell o21 1 rfl) hd2.2
  obtain ⟨V, hV⟩ : ∃ V, V = ((tagAt cks root jv idx).b.map B).toArray := ⟨_, rfl⟩
  simp only [← hV] at hck htag
  obtain ⟨X, hX⟩ : ∃ X, X = cs ++ if c then [clmS key (framS (nodeP jv idx ck)) false] else [] := ⟨_, rfl⟩
  rw [← hX] at hQ
  simp only [← hX] at hck
  obtain ⟨n, hn⟩ : ∃ n, n = cks.length := ⟨_, rfl⟩
  obtain ⟨m, hm⟩ : ∃ m, m = ck.length := ⟨_, rfl⟩
  rw [← hn] at q1 hl1 hi
  simp only [← hm] at q2 sr hnp
  clear hV hX hn hm hcl2 hv c1 c16 o21 hc h hce
  have : Nonempty (KW FP tt w) := ⟨⟨w, Keep.refl _ _, trivial⟩⟩
  let W : Nat → Array Value → Value → World → Prop := fun j _ v w' =>
    (j = 4 → v = .agg V) ∧
    (j = 10 → ∃ lo vs, v = .slice lo 4 4 ∧ Sl w' 1 lo 4 4 vs ∧ Pt w' vs (nodeP jv idx ck)) ∧
    (j = 11 → v = .bool c ∧ ∃ fp', BkO w' (.pointer bp) fp' X ∧ ∀ g ∈ fp', g ∈ FP ∨ w.heap.size ≤ g)
  conv => arg 2; whnf
  refine RC.wp_region_Y FP 11 [4, 10, 11] [(11, 99), (11, 10)] (by simp) W ?_ (fun w' => BkO w' (.pointer bp) FP cs) (by kernel_rfl) b (fun w1 w2 g b => b.grow g) ?_
  · rintro i j vs v w1 w' hij hkl _ kp ⟨v2, v3, v4⟩
    by_cases e : i = 11
    · subst e
      exact ⟨v2, fun hj => by subst hj; simp at hkl, fun hj => absurd hj.symm hij⟩
    · rw [if_neg e] at kp
      exact ⟨v2, fun hj => let ⟨lo, vs, e, s, p⟩ := v3 hj; ⟨lo, vs, e, s.grow kp.grow, p.grow kp.grow⟩, fun hj => let ⟨e, fp', b, inn⟩ := v4 hj; ⟨e, fp', b.grow kp.grow, inn⟩⟩
  unfold RC.segW
  repeat (first | (refine RC.wpV_skp rfl rfl ?_; simp only [List.set_cons_succ, List.set_cons_zero]) | (refine RC.wpV_look rfl rfl rfl rfl rfl (fun K hK => ?_); go_big_quiet_op; refine hK _ ?_; clear hK K) | (refine RC.wpV_free rfl rfl rfl rfl (fun K hK => ?_); unfold RC.Base; go_big_quiet_op; refine hK _ ?_; clear hK K))
  refine RC.wpV_mk rfl rfl rfl [] (by kernel_rfl) (fun vs7 w7 hC hF => yields_callF rfl (by kernel_rfl) ?_) (fun vs7 v w7 hC hV hF => ?_)
  · obtain ⟨⟨w7, hk7, -⟩, rfl⟩ := hC
    exact htag w7 hk7 _ (fun w8 g8 => ⟨_, rfl, Keep.of_grow [] g8, fun _ => rfl, by simp, by simp⟩)
  obtain rfl := hV.1 rfl
  clear hV hC hF w7
  simp only [List.set_cons_succ, List.set_cons_zero]
  repeat (first | (refine RC.wpV_skp rfl rfl ?_; simp only [List.set_cons_succ, List.set_cons_zero]) | (refine RC.wpV_look rfl rfl rfl rfl rfl (fun K hK => ?_); go_big_quiet_op; refine hK _ ?_; clear hK K) | (refine RC.wpV_free rfl rfl rfl rfl (fun K hK => ?_); unfold RC.Base; go_big_quiet_op; refine hK _ ?_; clear hK K))
  refine RC.wpV_mk rfl rfl rfl [] (by kernel_rfl) (fun vs7 w7 hC hF => yields_call (by kernel_rfl) ?_) (fun vs7 v w7 hC hV hF => ?_)
  · obtain ⟨⟨w7, hk7, -⟩, rfl⟩ := hC
    exact hnp _ _ w7 (sr.keep hk7 hrd) _ (fun lo vs w8 s8 p8 g8 _ => ⟨_, rfl, Keep.of_grow [] g8, by simp, fun _ => ⟨_, _, rfl, s8, p8⟩, by simp⟩)
  obtain ⟨b22, v22, rfl, -, -⟩ := hV.2.1 rfl
  clear hV hC hF w7
  simp only [List.set_cons_succ, List.set_cons_zero]
  refine RC.wpV_mk rfl rfl rfl [10, 99] (by kernel_rfl) (fun vs7 w7 hC hF => yields_call (by kernel_rfl) ?_) (fun vs7 v w7 hC hV hF => ?_)
  · obtain ⟨lo, vs, e, s, p⟩ := ((hF 10 (by simp)).2 rfl).2.1 rfl
    have h99 := ((((hF 99 (by simp)).1.resolve_left (by simp)).1.resolve_left (by simp))).1 rfl
    cases e
    obtain ⟨⟨w7, hk7, -⟩, rfl⟩ := hC
    exact hck w7 h99 (sk.keep hk7 hd3) _ _ s p _ (fun fp' w8 b8 k8 in8 => ⟨_, rfl, k8, by simp, by simp, fun _ => ⟨rfl, fp', b8, fun g hg => (in8 g hg).imp id fun h => Nat.le_trans hk7.size h⟩⟩)
  obtain ⟨rfl, -⟩ := hV.2.2 rfl
  clear hV hC hF w7
  simp only [List.set_cons_succ, List.set_cons_zero]
  repeat (first | (refine RC.wpV_skp rfl rfl ?_; simp only [List.set_cons_succ, List.set_cons_zero]) | (refine RC.wpV_look rfl rfl rfl rfl rfl (fun K hK => ?_); go_big_quiet_op; refine hK _ ?_; clear hK K) | (refine RC.wpV_free rfl rfl rfl rfl (fun K hK => ?_); unfold RC.Base; go_big_quiet_op; refine hK _ ?_; clear hK K))
  refine RC.wpV_nil ?_
  intro w7 hC hF
  obtain ⟨-, fp', b7, in7⟩ := ((hF 11).2 rfl).2.2 rfl
  obtain ⟨⟨w7, hk7, -⟩, rfl⟩ := hC
  clear hF
  exact hQ fp' _ b7 hk7 in7
end Go.Proofs.Ytfmnkcmicbnfdaa

namespace Go.Proofs.Ytfmnkcmicbnfdaa
open Go Go.RowKit

def upN (leaf j : Nat) : Nat := leaf / 4 ^ j
/-- How many tags stand beside a leaf's way, level by level. -/
def lnV (n leaf j : Nat) : Nat := kn n j (upN leaf (j + 1))
def sumV (n leaf : Nat) : Nat → Nat
  | 0 => 0
  | i + 1 => sumV n leaf i + lnV n leaf i
def ckV (n leaf : Nat) (P : List B16) (j : Nat) : List B16 := (P.drop (sumV n leaf j)).take (lnV n leaf j)
def cksV (n leaf : Nat) (P : List B16) (i : Nat) : List (List B16) := (List.range i).map (ckV n leaf P)
theorem cksV_len (n leaf : Nat) (P : List B16) (i : Nat) : (cksV n leaf P i).length = i := by simp [cksV]
theorem cksV_succ (n leaf : Nat) (P : List B16) (i : Nat) : cksV n leaf P (i + 1) = cksV n leaf P i ++ [ckV n leaf P i] := by simp [cksV, List.range_succ]
theorem cksV_at (n leaf : Nat) (P : List B16) (i j : Nat) (h : j < (cksV n leaf P i).length) : (cksV n leaf P i)[j] = ckV n leaf P j := by simp [cksV]
theorem sumV_mono (n leaf : Nat) {i k : Nat} (h : i ≤ k) : sumV n leaf i ≤ sumV n leaf k := by
  obtain ⟨d, rfl⟩ := Nat.exists_eq_add_of_le h
  induction d with
  | zero => exact Nat.le_refl _
  | succ d ih =>
    have := ih (by omega)
    show sumV n leaf i ≤ sumV n leaf (i + d) + lnV n leaf (i + d)
    omega
theorem ckV_len (n leaf : Nat) (P : List B16) (i : Nat) (h : sumV n leaf (i + 1) ≤ P.length) : (ckV n leaf P i).length = lnV n leaf i := by
  have e : sumV n leaf (i + 1) = sumV n leaf i + lnV n leaf i := rfl
  simp only [ckV, List.length_take, List.length_drop]
  omega
def okL (key : List UInt8) (leaf : Nat) (text : List UInt8) (cks : List (List B16)) (root : B16) : Bool := shortS (macS key (framS (leafP leaf text))) == (tagAt cks root 0 leaf).b
def okN (key : List UInt8) (leaf : Nat) (cks : List (List B16)) (root : B16) (ck : List B16) (j : Nat) : Bool := shortS (macS key (framS (nodeP (j + 1) (upN leaf (j + 1)) ck))) == (tagAt cks root (j + 1) (upN leaf (j + 1))).b
/-- Is a leaf's text told right? -/
def verS (key : List UInt8) (n leaf : Nat) (text : List UInt8) (root : B16) (P : List B16) : Bool :=
  decide (P.length = sumV n leaf ((wl n).length - 1)) && (okL key leaf text (cksV n leaf P ((wl n).length - 1)) root && (List.range ((wl n).length - 1)).all fun j => okN key leaf (cksV n leaf P ((wl n).length - 1)) root (ckV n leaf P j) j)
theorem beside_lens (n leaf : Nat) (h1 : 1 ≤ n) (h2 : n ≤ 65536) (hl : leaf < n) (j : Nat) (h : j < (beside n leaf).length) : ((beside n leaf)[j]).length = lnV n leaf j := by
  have e := beside_at n leaf h1 h2 hl
  have hj : j < (wl n).length - 1 := by rw [e, besideN_len] at h; exact h
  have e2 : (beside n leaf)[j] = kids n ((j + 1 : Nat) : Int) ((leaf / 4 ^ j / 4 : Nat) : Int) := by
    have : ∀ (l : List (List Pl)) (hh : j < l.length), l = besideN n leaf ((wl n).length - 1) → l[j] = kids n ((j + 1 : Nat) : Int) ((leaf / 4 ^ j / 4 : Nat) : Int) := fun l hh el => by subst el; simp [besideN]
    exact this _ h e
  rw [e2, kids_eq n j _ h1 h2 (by
    have := way_in n leaf hl (j + 1) (by omega)
    rwa [Nat.pow_succ, ← Nat.div_div_eq_div_mul] at this), List.length_map, List.length_range]
  unfold lnV kn upN
  rw [Nat.pow_succ, ← Nat.div_div_eq_div_mul]
/-- A way's place is among those beside it. -/
theorem up_in (n leaf : Nat) (hl : leaf < n) (j : Nat) (h : j + 1 < (wl n).length) : upN leaf j % 4 < lnV n leaf j := by
  have h1 := way_in n leaf hl j (by omega)
  have h2 := way_in n leaf hl (j + 1) h
  unfold lnV kn upN
  rw [Nat.pow_succ, ← Nat.div_div_eq_div_mul] at h2 ⊢
  omega
theorem lnV_le (n leaf j : Nat) : lnV n leaf j ≤ 4 := kn_le _ _ _
theorem upN_le (leaf j : Nat) : upN leaf j ≤ leaf := Nat.div_le_self _ _
end Go.Proofs.Ytfmnkcmicbnfdaa
