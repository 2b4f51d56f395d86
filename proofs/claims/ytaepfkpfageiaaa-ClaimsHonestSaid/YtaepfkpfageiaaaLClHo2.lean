/- The walk of ClaimsHonest: the second loop. -/
import Derived.Test.YtaepfkpfageiaaaLClHo
namespace Go.Proofs.Ytaepfkpfageiaaa
open Go Go.RowKit

/-- Is none of the first j texts like the k-th, but for itself? -/
def firN (ls : List (List UInt8)) (y : List UInt8) (k : Nat) : Nat → Bool
  | 0 => true
  | j + 1 => firN ls y k j && (decide (j = k) || !(ls.getD j [] == y))
theorem firN_all (ls : List (List UInt8)) (y : List UInt8) (k : Nat) : ∀ j, firN ls y k j = true → ∀ i, i < j → i = k ∨ (ls.getD i [] == y) = false
  | 0, _, i, hi => by omega
  | j + 1, h, i, hi => by
    simp only [firN, Bool.and_eq_true, Bool.or_eq_true, decide_eq_true_eq, Bool.not_eq_true'] at h
    rcases Nat.lt_or_ge i j with h1 | h1
    · exact firN_all ls y k j h.1 i h1
    · obtain rfl : i = j := by omega
      exact h.2


set_option maxRecDepth 100000 in
set_option maxHeartbeats 1000000 in
theorem clHo2 (lo : Option Addr) (n cap k : Nat) (vs : List Value) (ls : List (List UInt8)) (y : List UInt8) (hn : Hid (n = ls.length)) (hnl : n ≤ 12) (hk : k < n) (hy : ls[k]? = some y) {c0 c2 c3 c4 c5 c6 c7 c8 c9 c10 c14 c15 c16 c17 c18 c19 c20 c21 c22 c23 c24 c25 c26 c27 c28 c29 c30 c31 c32 c33 c34 c35 c36 c37 c38 c39 c40 c41 c42 c43 c44 c45 c46 c47 c48 c49 c50 c51 c52 c53 c54 c55 c56 c57 c58 c59 c60 c61 c62 c63 c64 c65 c66 c67 c68 c69 c70 c71 c72 c73 c74 c75 c76 c77 c78 c79 c80 c81 c82 c83 c84 c85 c86 c87 c88 c89 c90 c91 c92 c93 c94 c95 c96 c97 c98 c99 c100 c101 c102 c103 c104 c105 c106 c107 c108 c109 c110 c111 c112 c113 c114 c115 c116 c117 c118 c119 c120 : Value} (w : World)
    (s1 : Sl w 1 lo n cap vs) (pt : Pt w vs ls) {Q : Exit → Act → World → Prop}
    (hQ : ∀ (w' : World), Keep [] w w' → ∀ {u13 u77 u78 u79 u80 u81 u82 u83 u84 u85 u86 u87 u88 u89 u90 u91 u92 u93 u94 u95 u96 u97 u98 u99 u100 u101 : Value}, Q .normal ⟨List.toArray (c0 :: .slice lo n cap :: c2 :: c3 :: c4 :: c5 :: c6 :: c7 :: c8 :: c9 :: c10 :: .int .i64 (k : Int) :: .bool (firN ls y k n) :: u13 :: c14 :: c15 :: c16 :: c17 :: c18 :: c19 :: c20 :: c21 :: c22 :: c23 :: c24 :: c25 :: c26 :: c27 :: c28 :: c29 :: c30 :: c31 :: c32 :: c33 :: c34 :: c35 :: c36 :: c37 :: c38 :: c39 :: c40 :: c41 :: c42 :: c43 :: c44 :: c45 :: c46 :: c47 :: c48 :: c49 :: c50 :: c51 :: c52 :: c53 :: c54 :: c55 :: c56 :: c57 :: c58 :: c59 :: c60 :: c61 :: c62 :: c63 :: c64 :: c65 :: c66 :: c67 :: c68 :: c69 :: c70 :: c71 :: c72 :: c73 :: c74 :: c75 :: c76 :: u77 :: u78 :: u79 :: u80 :: u81 :: u82 :: u83 :: u84 :: u85 :: u86 :: u87 :: u88 :: u89 :: u90 :: u91 :: u92 :: u93 :: u94 :: u95 :: u96 :: u97 :: u98 :: u99 :: u100 :: u101 :: c102 :: c103 :: c104 :: c105 :: c106 :: c107 :: c108 :: c109 :: c110 :: c111 :: c112 :: c113 :: c114 :: c115 :: c116 :: c117 :: c118 :: c119 :: c120 :: []), []⟩ w') :
    Code.wp Try.prog (blockAt Try.f16 2) Q ⟨List.toArray (c0 :: .slice lo n cap :: c2 :: c3 :: c4 :: c5 :: c6 :: c7 :: c8 :: c9 :: c10 :: .int .i64 (k : Int) :: .bool true :: .int .i64 0 :: c14 :: c15 :: c16 :: c17 :: c18 :: c19 :: c20 :: c21 :: c22 :: c23 :: c24 :: c25 :: c26 :: c27 :: c28 :: c29 :: c30 :: c31 :: c32 :: c33 :: c34 :: c35 :: c36 :: c37 :: c38 :: c39 :: c40 :: c41 :: c42 :: c43 :: c44 :: c45 :: c46 :: c47 :: c48 :: c49 :: c50 :: c51 :: c52 :: c53 :: c54 :: c55 :: c56 :: c57 :: c58 :: c59 :: c60 :: c61 :: c62 :: c63 :: c64 :: c65 :: c66 :: c67 :: c68 :: c69 :: c70 :: c71 :: c72 :: c73 :: c74 :: c75 :: c76 :: c77 :: c78 :: c79 :: c80 :: c81 :: c82 :: c83 :: c84 :: c85 :: c86 :: c87 :: c88 :: c89 :: c90 :: c91 :: c92 :: c93 :: c94 :: c95 :: c96 :: c97 :: c98 :: c99 :: c100 :: c101 :: c102 :: c103 :: c104 :: c105 :: c106 :: c107 :: c108 :: c109 :: c110 :: c111 :: c112 :: c113 :: c114 :: c115 :: c116 :: c117 :: c118 :: c119 :: c120 :: []), []⟩ w := by
  have hml : maxLen = 9223372036854775807 := rfl
  obtain ⟨yo, yc, hyv, sy⟩ := pt.2 k (by rw [← hn.out]; exact hk)
  have hyk : ls[k]'(by rw [← hn.out]; exact hk) = y := by rw [List.getElem?_eq_getElem (by rw [← hn.out]; exact hk)] at hy; exact Option.some.inj hy
  rw [hyk] at hyv sy
  clear hyk hy
  have Hyv := Lib.hid hyv
  clear hyv
  conv => arg 2; whnf
  refine wp_block ?_
  go_loopw [12, 13] (fun vb vi wr => ∃ (j : Nat) (b : Bool), vb = .bool b ∧ vi = .int .i64 (j : Int) ∧ j ≤ n ∧ Hid (b = firN ls y k j) ∧ Keep [] w wr) (fun _ vi _ => n - (intOf vi).toNat)
  case atStart => exact ⟨0, true, rfl, by simp, by omega, Lib.hid rfl, Keep.refl _ _⟩
  case round =>
    obtain ⟨j, b, rfl, rfl, hj, hb, g⟩ := hrel
    by_cases hlt : j < n
    · have hil : j < ls.length := by rw [← hn.out]; exact hlt
      obtain ⟨g1, off, eg, hcs⟩ := (s1.keep g (by simp)).hat (by omega)
      subst eg
      obtain ⟨xo, xc, hxv, sx0⟩ := pt.2 j hil
      have c1 := hcs.at hxv
      have c2 := hcs.at Hyv.out
      obtain ⟨x, hx⟩ : ∃ x, x = ls[j] := ⟨_, rfl⟩
      have hxd : ls.getD j [] = x := by rw [hx, List.getD_eq_getElem?_getD, List.getElem?_eq_getElem hil]; rfl
      rw [← hx] at c1 sx0
      have e1 := KW.cell (fp := []) (p0 := tt) c1 (by simp)
      have e2 := KW.cell (fp := []) (p0 := tt) c2 (by simp)
      have hsx : Hid (ls.getD j [] = x) := Lib.hid hxd
      obtain ⟨xn, hxn⟩ : ∃ n, n = x.length := ⟨_, rfl⟩
      obtain ⟨yn, hyn⟩ : ∃ n, n = y.length := ⟨_, rfl⟩
      rw [← hxn] at e1 sx0
      rw [← hyn] at e2 sy
      have cvx : ∀ w', Keep [] wr w' → (convert 22 9 (.slice xo xn xc)).run Try.prog w' = .ok (.string (str x)) w' := fun w' k' => run_str Try.underlying22 Try.underlying5 Try.underlying9 (by have := (sx0.keep g (by simp)).keep k' (by simp); rw [hxn] at this ⊢; exact this)
      have cvy : ∀ w', Keep [] wr w' → (convert 22 9 (.slice yo yn yc)).run Try.prog w' = .ok (.string (str y)) w' := fun w' k' => run_str Try.underlying22 Try.underlying5 Try.underlying9 (by have := (sy.keep g (by simp)).keep k' (by simp); rw [hyn] at this ⊢; exact this)
      have tx : (str x).toList = x := str_toList x
      have ty : (str y).toList = y := str_toList y
      have hb' := Lib.hid hb
      clear hxn hyn hxd hx hcs hxv c1 c2 hil sx0
      obtain ⟨e, he⟩ : ∃ e, (x == y) = e := ⟨_, rfl⟩
      have He := Lib.hid he
      cases b with
      | false =>
        go_upto_region 20 with (fail)
        refine wp_region_R (segT wr []) (by kernel_rfl) segT_drew ?_
        unfold segT segK segR
        repeat (first | (refine wpV_skp rfl rfl ?_; simp only [List.set_cons_succ, List.set_cons_zero]) | (refine wpV_look rfl rfl rfl rfl rfl (fun K hK => ?_); go_big_quiet_op; refine hK _ ?_; clear hK K))
        refine wpV_nil ?_
        intro w5 hC hF
        obtain ⟨⟨w5, hkw5, -⟩, rfl⟩ := hC
        clear hF
        have G5 := g.trans hkw5
        clear e1 e2 cvx cvy he tx ty hkw5
        go_wp2_with fail
        go_roundw
        case rel => exact ⟨j + 1, false, rfl, by go_num, by omega, Lib.hid (by rw [firN, ← hb'.out, Bool.false_and]), G5⟩
        case measure => simp [intOf]; omega
      | true =>
        by_cases hjk : j = k
        · subst hjk
          go_upto_region 20 with (fail)
          refine wp_region_R (segT wr []) (by kernel_rfl) segT_drew ?_
          unfold segT segK segR
          repeat (first | (refine wpV_skp rfl rfl ?_; simp only [List.set_cons_succ, List.set_cons_zero]) | (refine wpV_look rfl rfl rfl rfl rfl (fun K hK => ?_); go_big_quiet_op; refine hK _ ?_; clear hK K))
          refine wpV_nil ?_
          intro w5 hC hF
          obtain ⟨⟨w5, hkw5, -⟩, rfl⟩ := hC
          clear hF
          have G5 := g.trans hkw5
          clear e1 e2 cvx cvy he tx ty hkw5
          go_wp2_with fail
          go_roundw
          case rel => exact ⟨j + 1, true, rfl, by go_num, by omega, Lib.hid (by rw [firN, ← hb'.out]; simp), G5⟩
          case measure => simp [intOf]; omega
        · have hd : ((j : Int) == (k : Int)) = false := by simp; omega
          go_upto_region 20 with (fail)
          refine wp_region_R (segT wr []) (by kernel_rfl) segT_drew ?_
          unfold segT segK segR
          repeat (first | (refine wpV_skp rfl rfl ?_; simp only [List.set_cons_succ, List.set_cons_zero]) | (refine wpV_val rfl rfl rfl rfl rfl _ (fun w hC => by obtain ⟨n, rfl⟩ := hC; exact exec_conv (cvx _ n.h)) ?_; simp only [List.set_cons_succ, List.set_cons_zero]) | (refine wpV_val rfl rfl rfl rfl rfl _ (fun w hC => by obtain ⟨n, rfl⟩ := hC; exact exec_conv (cvy _ n.h)) ?_; simp only [List.set_cons_succ, List.set_cons_zero]) | (refine wpV_look rfl rfl rfl rfl rfl (fun K hK => ?_); go_big_quiet_op; refine hK _ ?_; clear hK K))
          refine wpV_nil ?_
          intro w5 hC hF
          obtain ⟨⟨w5, hkw5, -⟩, rfl⟩ := hC
          clear hF
          have G5 := g.trans hkw5
          clear e1 e2 cvx cvy hkw5
          go_wp2_with fail
          go_roundw
          case rel => exact ⟨j + 1, !e, rfl, by go_num, by omega, Lib.hid (by rw [firN, ← hb'.out, hsx.out, He.out, decide_eq_false hjk]; simp), G5⟩
          case measure => simp [intOf]; omega
    · obtain rfl : j = n := by omega
      have hf := @hQ _ g
      rw [← hb.out] at hf
      go_wp2_with fail
      exact hf
end Go.Proofs.Ytaepfkpfageiaaa
