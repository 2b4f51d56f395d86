/- The walk of StretchKeys. -/
import Derived.Test.YtaepfkpfageiaaaStrAw
import Derived.Test.YtaepfkpfageiaaaRStr
namespace Go.Proofs.Ytaepfkpfageiaaa
open Go Go.RowKit

theorem strKeyU (po : Option Addr) (pc : Nat) (pass : List UInt8) (so : Option Addr) (sn sc : Nat) (salt : List UInt8) (r n : Int) (ok : Bool) (hok : ok = (mayB pass.length sn r && !decide (n < 0) && !decide (256 < n))) (w : World) (sp : Sl w 1 po pass.length pc (pass.map B)) (s : Sl w 1 so sn sc (salt.map B))
    (R : Ending → World → Prop) (hR : ∀ ao l c w', Sl w' 1 ao l c ((if ok then keyS pass salt (r - 1).toNat n.toNat else []).map B) → Grow w w' → (ok = false → l = 0) → R (.returned (.tuple #[.slice ao l c, .int .i64 (if ok then 0 else 1)])) w') :
    Calls Try.prog 36 #[.slice po pass.length pc, .slice so sn sc, .int .i64 r, .int .i64 n] w R := by
  cases ok with
  | false =>
    refine strKeyNo po pass.length pc so sn sc r n w ?_ R (hR none 0 0 w (by simpa using Sl.none w 1) (Grow.refl w) (fun _ => rfl))
    cases h1 : mayB pass.length sn r with
    | false => exact .inl rfl
    | true =>
      rw [h1] at hok
      by_cases h2 : n < 0
      · exact .inr (.inl h2)
      · by_cases h3 : 256 < n
        · exact .inr (.inr h3)
        · simp [h2, h3] at hok
  | true =>
    have h := hok.symm
    simp only [Bool.and_eq_true, Bool.not_eq_true', decide_eq_false_iff_not, Int.not_lt] at h
    obtain ⟨⟨h1, h2⟩, h3⟩ := h
    obtain ⟨-, -, h4, -⟩ := mayB_true h1
    obtain ⟨rn, rfl⟩ : ∃ k : Nat, r = (k : Int) + 1 := ⟨(r - 1).toNat, by omega⟩
    obtain ⟨k, rfl⟩ : ∃ k : Nat, n = (k : Int) := ⟨n.toNat, by omega⟩
    have hR' := fun ao l c w' => hR ao l c w'
    simp only [if_true, Int.add_sub_cancel, Int.toNat_natCast] at hR'
    exact strKeyOk po pc pass so sn sc salt rn k w sp s h1 (by omega) R (fun ao c w' o g _ => hR' ao k c w' o.sl g (by simp))
theorem strBlockU (po : Option Addr) (pc : Nat) (pass : List UInt8) (so : Option Addr) (sn sc : Nat) (salt : List UInt8) (r i : Int) (ok : Bool) (hok : ok = (mayB pass.length sn r && !decide (i < 1) && !decide (2147483647 < i))) (w : World) (sp : Sl w 1 po pass.length pc (pass.map B)) (s : Sl w 1 so sn sc (salt.map B))
    (R : Ending → World → Prop) (hR : ∀ w', Grow w w' → R (.returned (.tuple #[.agg ((if ok then tS pass salt i.toNat (r - 1).toNat else List.replicate 32 0).map B).toArray, .int .i64 (if ok then 0 else 1)])) w') :
    Calls Try.prog 37 #[.slice po pass.length pc, .slice so sn sc, .int .i64 r, .int .i64 i] w R := by
  cases ok with
  | false =>
    refine strBlockNo po pass.length pc so sn sc r i w ?_ R (fun w' g => by have := hR w' g; simpa [B] using this)
    cases h1 : mayB pass.length sn r with
    | false => exact .inl rfl
    | true =>
      rw [h1] at hok
      by_cases h2 : i < 1
      · exact .inr (.inl h2)
      · by_cases h3 : 2147483647 < i
        · exact .inr (.inr h3)
        · simp [h2, h3] at hok
  | true =>
    have h := hok.symm
    simp only [Bool.and_eq_true, Bool.not_eq_true', decide_eq_false_iff_not, Int.not_lt] at h
    obtain ⟨⟨h1, h2⟩, h3⟩ := h
    obtain ⟨-, -, h4, -⟩ := mayB_true h1
    obtain ⟨rn, rfl⟩ : ∃ k : Nat, r = (k : Int) + 1 := ⟨(r - 1).toNat, by omega⟩
    obtain ⟨k, rfl⟩ : ∃ k : Nat, i = (k : Int) := ⟨i.toNat, by omega⟩
    simp only [if_true, Int.add_sub_cancel, Int.toNat_natCast] at hR
    exact strBlockOk po pc pass so sn sc salt rn k w sp s h1 (by omega) (by omega) R hR


set_option maxRecDepth 100000 in
set_option maxHeartbeats 1000000 in
theorem ske15 (q : Nat) (V : List Value) (hVl : V.length = 32) (HV : Hid (V = (List.replicate 32 (0 : UInt8)).map B)) {c0 c1 c2 c3 c4 c5 c6 c7 c8 c9 c10 c11 c12 c15 c16 c17 c18 c19 c20 c21 c22 c23 c24 c25 c26 c27 c28 c29 c30 c31 c32 c33 c34 c35 c36 c37 c38 c39 c40 c41 c42 c43 c44 c45 c46 c47 c48 c49 c50 c51 c52 c53 c54 c55 c56 c57 c58 c59 c60 c61 c62 c63 c64 c65 c66 c67 c68 c69 c70 c71 c72 c73 c74 c75 c76 c77 c78 c79 c80 c81 c82 c83 c84 c85 c86 c87 c88 c89 c90 c91 c92 c93 c94 c95 c96 c97 c98 c99 c100 c101 c102 c103 c104 c105 c106 c107 c108 c109 c110 c111 c112 c113 c114 c115 c116 c117 c118 c119 c120 c121 c122 c123 c124 c125 c126 : Value} (w : World) (o : Own w 27 1 (some ⟨q, 0, none⟩) 32 32 V) {Q : Exit → Act → World → Prop}
    (heq : ∀ w', (Op.equalIn 10000 27 (.agg V.toArray) (.agg V.toArray)).run Try.prog w' = .ok true w')
    (hQ : ∀ w' : World, Grow w w' → ∀ {u102 u103 u104 u105 u106 u107 u108 u109 u110 u111 : Value}, Q .normal ⟨List.toArray (c0 :: c1 :: c2 :: c3 :: c4 :: c5 :: c6 :: c7 :: c8 :: c9 :: .bool true :: c11 :: c12 :: .pointer (some ⟨q, 0, none⟩) :: .int .i64 1 :: c15 :: c16 :: c17 :: c18 :: c19 :: c20 :: c21 :: c22 :: c23 :: c24 :: c25 :: c26 :: c27 :: c28 :: c29 :: c30 :: c31 :: c32 :: c33 :: c34 :: c35 :: c36 :: c37 :: c38 :: c39 :: c40 :: c41 :: c42 :: c43 :: c44 :: c45 :: c46 :: c47 :: c48 :: c49 :: c50 :: c51 :: c52 :: c53 :: c54 :: c55 :: c56 :: c57 :: c58 :: c59 :: c60 :: c61 :: c62 :: c63 :: c64 :: c65 :: c66 :: c67 :: c68 :: c69 :: c70 :: c71 :: c72 :: c73 :: c74 :: c75 :: c76 :: c77 :: c78 :: c79 :: c80 :: c81 :: c82 :: c83 :: c84 :: c85 :: c86 :: c87 :: c88 :: c89 :: c90 :: c91 :: c92 :: c93 :: c94 :: c95 :: c96 :: c97 :: c98 :: c99 :: c100 :: c101 :: u102 :: u103 :: u104 :: u105 :: u106 :: u107 :: u108 :: u109 :: u110 :: u111 :: c112 :: c113 :: c114 :: c115 :: c116 :: c117 :: c118 :: c119 :: c120 :: c121 :: c122 :: c123 :: c124 :: c125 :: c126 :: []), []⟩ w') :
    Code.wp Try.prog (regionAt Try.f9 15) Q ⟨List.toArray (c0 :: c1 :: c2 :: c3 :: c4 :: c5 :: c6 :: c7 :: c8 :: c9 :: c10 :: c11 :: c12 :: .pointer (some ⟨q, 0, none⟩) :: .int .i64 1 :: c15 :: c16 :: c17 :: c18 :: c19 :: c20 :: c21 :: c22 :: c23 :: c24 :: c25 :: c26 :: c27 :: c28 :: c29 :: c30 :: c31 :: c32 :: c33 :: c34 :: c35 :: c36 :: c37 :: c38 :: c39 :: c40 :: c41 :: c42 :: c43 :: c44 :: c45 :: c46 :: c47 :: c48 :: c49 :: c50 :: c51 :: c52 :: c53 :: c54 :: c55 :: c56 :: c57 :: c58 :: c59 :: c60 :: c61 :: c62 :: c63 :: c64 :: c65 :: c66 :: c67 :: c68 :: c69 :: c70 :: c71 :: c72 :: c73 :: c74 :: c75 :: c76 :: c77 :: c78 :: c79 :: c80 :: c81 :: c82 :: c83 :: c84 :: c85 :: c86 :: c87 :: c88 :: c89 :: c90 :: c91 :: c92 :: c93 :: c94 :: c95 :: c96 :: c97 :: c98 :: c99 :: c100 :: c101 :: c102 :: c103 :: c104 :: c105 :: c106 :: c107 :: c108 :: c109 :: c110 :: c111 :: c112 :: c113 :: c114 :: c115 :: c116 :: c117 :: c118 :: c119 :: c120 :: c121 :: c122 :: c123 :: c124 :: c125 :: c126 :: []), []⟩ w := by
  have haw := awake3C
  have i32 : (Try.prog.info? 27).map (·.size) = some 32 := by kernel_rfl
  have hrg := own_range o (by omega)
  have hsz : (Try.prog.info? 27).map (·.size) = some V.length := by rw [hVl]; exact i32
  have key : ∀ X, X = V.toArray → ∀ w', (Op.equalIn 10000 27 (.agg V.toArray) (.agg X)).run Try.prog w' = .ok true w' := by rintro _ rfl; exact heq
  have hk := key #[.int .u8 0, .int .u8 0, .int .u8 0, .int .u8 0, .int .u8 0, .int .u8 0, .int .u8 0, .int .u8 0, .int .u8 0, .int .u8 0, .int .u8 0, .int .u8 0, .int .u8 0, .int .u8 0, .int .u8 0, .int .u8 0, .int .u8 0, .int .u8 0, .int .u8 0, .int .u8 0, .int .u8 0, .int .u8 0, .int .u8 0, .int .u8 0, .int .u8 0, .int .u8 0, .int .u8 0, .int .u8 0, .int .u8 0, .int .u8 0, .int .u8 0, .int .u8 0] (by rw [HV.out]; rfl)
  clear key heq
  conv => arg 2; whnf
  go_wp2_with (first | refine wpList_load_G 27 _ rfl rfl q 0 rfl V _ hrg Try.underlying27 rfl hsz ?_)
  refine haw _ _ ?_
  intro w2 g2
  clear hk hrg o
  go_wp2_with fail
  exact g2


set_option maxRecDepth 100000 in
set_option maxHeartbeats 1000000 in
theorem ske12 (a0 : Option Addr) (n0 c0 : Nat) (a1 : Option Addr) (n1 c1 : Nat) (r n : Int) (ko : Option Addr) (kl kc p : Nat) (L : List UInt8) {c4 c5 c6 c7 c8 c9 c10 c13 c14 c16 c17 c18 c19 c20 c21 c22 c23 c24 c25 c26 c27 c28 c29 c30 c31 c32 c33 c34 c35 c36 c37 c38 c39 c40 c41 c42 c43 c44 c45 c46 c47 c48 c49 c50 c51 c52 c53 c54 c55 c56 c57 c58 c59 c60 c61 c62 c63 c64 c65 c66 c67 c68 c69 c70 c71 c72 c73 c74 c75 c76 c77 c78 c79 c80 c81 c82 c83 c84 c85 c86 c87 c88 c89 c90 c91 c92 c93 c94 c95 c96 c97 c98 c99 c100 c101 c102 c103 c104 c105 c106 c107 c108 c109 c110 c111 c112 c113 c114 c115 c116 c117 c118 c119 c120 c121 c122 c123 c124 c125 c126 : Value} (w : World) (sk : Sl w 1 ko kl kc (L.map B))
    (hkey : ∀ w', Keep [] w w' → ∀ R : Ending → World → Prop, (∀ ao c w'', Sl w'' 1 ao L.length c (L.map B) → Grow w' w'' → R (.returned (.slice ao L.length c)) w'') → Calls Try.prog 40 #[.pointer (some ⟨p, 0, none⟩), .slice a0 n0 c0, .slice a1 n1 c1, .int .i64 r, .int .i64 n] w' R) {Q : Exit → Act → World → Prop}
    (hQ : ∀ w' : World, Grow w w' → ∀ {u78 u79 u80 u81 u82 u83 u84 u85 u86 u87 u88 u89 u90 : Value}, Q .normal ⟨List.toArray (.slice a0 n0 c0 :: .slice a1 n1 c1 :: .int .i64 r :: .int .i64 n :: c4 :: c5 :: c6 :: c7 :: c8 :: c9 :: c10 :: .slice ko kl kc :: .int .i64 0 :: c13 :: c14 :: .pointer (some ⟨p, 0, none⟩) :: c16 :: c17 :: c18 :: c19 :: c20 :: c21 :: c22 :: c23 :: c24 :: c25 :: c26 :: c27 :: c28 :: c29 :: c30 :: c31 :: c32 :: c33 :: c34 :: c35 :: c36 :: c37 :: c38 :: c39 :: c40 :: c41 :: c42 :: c43 :: c44 :: c45 :: c46 :: c47 :: c48 :: c49 :: c50 :: c51 :: c52 :: c53 :: c54 :: c55 :: c56 :: c57 :: c58 :: c59 :: c60 :: c61 :: c62 :: c63 :: c64 :: c65 :: c66 :: c67 :: c68 :: c69 :: c70 :: c71 :: c72 :: c73 :: c74 :: c75 :: c76 :: c77 :: u78 :: u79 :: u80 :: u81 :: u82 :: u83 :: u84 :: u85 :: u86 :: u87 :: u88 :: u89 :: u90 :: .bool false :: c92 :: c93 :: c94 :: c95 :: c96 :: c97 :: c98 :: c99 :: c100 :: c101 :: c102 :: c103 :: c104 :: c105 :: c106 :: c107 :: c108 :: c109 :: c110 :: c111 :: c112 :: c113 :: c114 :: c115 :: c116 :: c117 :: c118 :: c119 :: c120 :: c121 :: c122 :: c123 :: c124 :: c125 :: c126 :: []), []⟩ w') :
    Code.wp Try.prog (regionAt Try.f9 12) Q ⟨List.toArray (.slice a0 n0 c0 :: .slice a1 n1 c1 :: .int .i64 r :: .int .i64 n :: c4 :: c5 :: c6 :: c7 :: c8 :: c9 :: c10 :: .slice ko kl kc :: .int .i64 0 :: c13 :: c14 :: .pointer (some ⟨p, 0, none⟩) :: c16 :: c17 :: c18 :: c19 :: c20 :: c21 :: c22 :: c23 :: c24 :: c25 :: c26 :: c27 :: c28 :: c29 :: c30 :: c31 :: c32 :: c33 :: c34 :: c35 :: c36 :: c37 :: c38 :: c39 :: c40 :: c41 :: c42 :: c43 :: c44 :: c45 :: c46 :: c47 :: c48 :: c49 :: c50 :: c51 :: c52 :: c53 :: c54 :: c55 :: c56 :: c57 :: c58 :: c59 :: c60 :: c61 :: c62 :: c63 :: c64 :: c65 :: c66 :: c67 :: c68 :: c69 :: c70 :: c71 :: c72 :: c73 :: c74 :: c75 :: c76 :: c77 :: c78 :: c79 :: c80 :: c81 :: c82 :: c83 :: c84 :: c85 :: c86 :: c87 :: c88 :: c89 :: c90 :: c91 :: c92 :: c93 :: c94 :: c95 :: c96 :: c97 :: c98 :: c99 :: c100 :: c101 :: c102 :: c103 :: c104 :: c105 :: c106 :: c107 :: c108 :: c109 :: c110 :: c111 :: c112 :: c113 :: c114 :: c115 :: c116 :: c117 :: c118 :: c119 :: c120 :: c121 :: c122 :: c123 :: c124 :: c125 :: c126 :: []), []⟩ w := by
  have hLL : (L == L) = true := by simp
  conv => arg 2; whnf
  refine wp_region_R (segT w [(4, pIs (.string (str L))), (10, pBy L), (11, pIs (.string (str L)))]) (by kernel_rfl) segT_drew ?_
  unfold segT segK segR
  repeat (first | (refine wpV_skp rfl rfl ?_; simp only [List.set_cons_succ, List.set_cons_zero]) | (refine wpV_look rfl rfl rfl rfl rfl (fun K hK => ?_); go_big_quiet_op; refine hK _ ?_; clear hK K))
  refine wpV_mk rfl rfl rfl [] (by kernel_rfl) (fun vs w7 hC hF => ?_) (fun vs v w7 hC hV hF => ?_)
  · obtain ⟨⟨w7, hk, -⟩, rfl⟩ := hC
    exact yields_run (exec_conv (run_str (d := 9) Try.underlying22 Try.underlying5 Try.underlying9 (sk.keep hk (by simp)))) ⟨⟨Keep.refl [] _, trivial⟩, rfl⟩
  obtain rfl := hV
  clear hC hF w7
  simp only [List.set_cons_succ, List.set_cons_zero]
  repeat (first | (refine wpV_skp rfl rfl ?_; simp only [List.set_cons_succ, List.set_cons_zero]) | (refine wpV_look rfl rfl rfl rfl rfl (fun K hK => ?_); go_big_quiet_op; refine hK _ ?_; clear hK K))
  refine wpV_mk rfl rfl rfl [] (by kernel_rfl) (fun vs w7 hC hF => yields_call (by kernel_rfl) ?_) (fun vs v w7 hC hV hF => ?_)
  · obtain ⟨⟨w7, hk, -⟩, rfl⟩ := hC
    exact hkey w7 hk _ (fun ao c w8 s8 g8 => ⟨_, rfl, ⟨Keep.of_grow [] g8, trivial⟩, pBy_mk s8⟩)
  obtain ⟨bo, d, rfl, -⟩ := hV
  clear hC hF w7
  simp only [List.set_cons_succ, List.set_cons_zero]
  refine wpV_mk rfl rfl rfl [10] (by kernel_rfl) (fun vs w7 hC hF => ?_) (fun vs v w7 hC hV hF => ?_)
  · obtain ⟨bo, d, e, hs⟩ := (hF 10 (by simp)).2 rfl
    cases e
    obtain ⟨⟨w7, hk, -⟩, rfl⟩ := hC
    exact yields_run (exec_conv (run_str (d := 9) Try.underlying22 Try.underlying5 Try.underlying9 hs)) ⟨⟨Keep.refl [] _, trivial⟩, rfl⟩
  obtain rfl := hV
  clear hC hF w7
  simp only [List.set_cons_succ, List.set_cons_zero]
  repeat (first | (refine wpV_skp rfl rfl ?_; simp only [List.set_cons_succ, List.set_cons_zero]) | (refine wpV_look rfl rfl rfl rfl rfl (fun K hK => ?_); go_big_quiet_op; refine hK _ ?_; clear hK K))
  refine wpV_nil ?_
  intro w9 hC hF
  obtain ⟨⟨w9, hk, -⟩, rfl⟩ := hC
  exact hQ w9 hk.grow


set_option maxRecDepth 100000 in
set_option maxHeartbeats 1000000 in
theorem ske16 (a0 : Option Addr) (n0 c0 : Nat) (a1 : Option Addr) (n1 c1 : Nat) (r i : Int) (p q : Nat) (A : Array Value) {c3 c5 c6 c7 c8 c9 c10 c11 c12 c16 c17 c18 c19 c20 c21 c22 c23 c24 c25 c26 c27 c28 c29 c30 c31 c32 c33 c34 c35 c36 c37 c38 c39 c40 c41 c42 c43 c44 c45 c46 c47 c48 c49 c50 c51 c52 c53 c54 c55 c56 c57 c58 c59 c60 c61 c62 c63 c64 c65 c66 c67 c68 c69 c70 c71 c72 c73 c74 c75 c76 c77 c78 c79 c80 c81 c82 c83 c84 c85 c86 c87 c88 c89 c90 c91 c92 c93 c94 c95 c96 c97 c98 c99 c100 c101 c102 c103 c104 c105 c106 c107 c108 c109 c110 c111 c112 c113 c114 c115 c116 c117 c118 c119 c120 c121 c122 c123 c124 c125 c126 : Value} (w : World)
    (ldA : ∀ w', Keep [] w w' → (Instr.loadAt 27 (.pointer (some ⟨q, 0, none⟩))).run Try.prog w' = .ok (.agg A) w')
    (hblk : ∀ w', Keep [] w w' → ∀ R : Ending → World → Prop, (∀ w'', Grow w' w'' → R (.returned (.agg A)) w'') → Calls Try.prog 41 #[.pointer (some ⟨p, 0, none⟩), .slice a0 n0 c0, .slice a1 n1 c1, .int .i64 r, .int .i64 i] w' R)
    (heq : ∀ w', (Op.equalIn 10000 27 (.agg A) (.agg A)).run Try.prog w' = .ok true w') {Q : Exit → Act → World → Prop}
    (hQ : ∀ w' : World, Grow w w' → ∀ {u112 u113 u114 u115 u116 u117 u118 u119 u120 u121 u122 u123 u124 u125 u126 : Value}, Q .normal ⟨List.toArray (.slice a0 n0 c0 :: .slice a1 n1 c1 :: .int .i64 r :: c3 :: .int .i64 i :: c5 :: c6 :: c7 :: c8 :: c9 :: .bool true :: c11 :: c12 :: .pointer (some ⟨q, 0, none⟩) :: .int .i64 0 :: .pointer (some ⟨p, 0, none⟩) :: c16 :: c17 :: c18 :: c19 :: c20 :: c21 :: c22 :: c23 :: c24 :: c25 :: c26 :: c27 :: c28 :: c29 :: c30 :: c31 :: c32 :: c33 :: c34 :: c35 :: c36 :: c37 :: c38 :: c39 :: c40 :: c41 :: c42 :: c43 :: c44 :: c45 :: c46 :: c47 :: c48 :: c49 :: c50 :: c51 :: c52 :: c53 :: c54 :: c55 :: c56 :: c57 :: c58 :: c59 :: c60 :: c61 :: c62 :: c63 :: c64 :: c65 :: c66 :: c67 :: c68 :: c69 :: c70 :: c71 :: c72 :: c73 :: c74 :: c75 :: c76 :: c77 :: c78 :: c79 :: c80 :: c81 :: c82 :: c83 :: c84 :: c85 :: c86 :: c87 :: c88 :: c89 :: c90 :: c91 :: c92 :: c93 :: c94 :: c95 :: c96 :: c97 :: c98 :: c99 :: c100 :: c101 :: c102 :: c103 :: c104 :: c105 :: c106 :: c107 :: c108 :: c109 :: c110 :: c111 :: u112 :: u113 :: u114 :: u115 :: u116 :: u117 :: u118 :: u119 :: u120 :: u121 :: u122 :: u123 :: u124 :: u125 :: u126 :: []), []⟩ w') :
    Code.wp Try.prog (regionAt Try.f9 16) Q ⟨List.toArray (.slice a0 n0 c0 :: .slice a1 n1 c1 :: .int .i64 r :: c3 :: .int .i64 i :: c5 :: c6 :: c7 :: c8 :: c9 :: c10 :: c11 :: c12 :: .pointer (some ⟨q, 0, none⟩) :: .int .i64 0 :: .pointer (some ⟨p, 0, none⟩) :: c16 :: c17 :: c18 :: c19 :: c20 :: c21 :: c22 :: c23 :: c24 :: c25 :: c26 :: c27 :: c28 :: c29 :: c30 :: c31 :: c32 :: c33 :: c34 :: c35 :: c36 :: c37 :: c38 :: c39 :: c40 :: c41 :: c42 :: c43 :: c44 :: c45 :: c46 :: c47 :: c48 :: c49 :: c50 :: c51 :: c52 :: c53 :: c54 :: c55 :: c56 :: c57 :: c58 :: c59 :: c60 :: c61 :: c62 :: c63 :: c64 :: c65 :: c66 :: c67 :: c68 :: c69 :: c70 :: c71 :: c72 :: c73 :: c74 :: c75 :: c76 :: c77 :: c78 :: c79 :: c80 :: c81 :: c82 :: c83 :: c84 :: c85 :: c86 :: c87 :: c88 :: c89 :: c90 :: c91 :: c92 :: c93 :: c94 :: c95 :: c96 :: c97 :: c98 :: c99 :: c100 :: c101 :: c102 :: c103 :: c104 :: c105 :: c106 :: c107 :: c108 :: c109 :: c110 :: c111 :: c112 :: c113 :: c114 :: c115 :: c116 :: c117 :: c118 :: c119 :: c120 :: c121 :: c122 :: c123 :: c124 :: c125 :: c126 :: []), []⟩ w := by
  have haw := awake3C
  conv => arg 2; whnf
  refine wp_region_R (segT w [(9, pIs (.agg A)), (13, pIs (.bool true))]) (by kernel_rfl) segT_drew ?_
  unfold segT segK segR
  repeat (first | (refine wpV_skp rfl rfl ?_; simp only [List.set_cons_succ, List.set_cons_zero]) | (refine wpV_val rfl rfl rfl rfl rfl _ (fun w hC => by obtain ⟨n, rfl⟩ := hC; exact exec_load (ldA _ n.h)) ?_; simp only [List.set_cons_succ, List.set_cons_zero]) | (refine wpV_look rfl rfl rfl rfl rfl (fun K hK => ?_); go_big_quiet_op; refine hK _ ?_; clear hK K))
  refine wpV_mk rfl rfl rfl [] (by kernel_rfl) (fun vs w7 hC hF => yields_call (by kernel_rfl) ?_) (fun vs v w7 hC hV hF => ?_)
  · obtain ⟨⟨w7, hk, -⟩, rfl⟩ := hC
    exact hblk w7 hk _ (fun w8 g8 => ⟨_, rfl, ⟨Keep.of_grow [] g8, trivial⟩, rfl⟩)
  obtain rfl := hV
  clear hC hF w7
  simp only [List.set_cons_succ, List.set_cons_zero]
  repeat (first | (refine wpV_skp rfl rfl ?_; simp only [List.set_cons_succ, List.set_cons_zero]) | (refine wpV_look rfl rfl rfl rfl rfl (fun K hK => ?_); go_big_quiet_op; refine hK _ ?_; clear hK K))
  refine wpV_mk rfl rfl rfl [] rfl (fun vs w7 hC _ => yields_call (by kernel_rfl) ?_) (fun vs v w7 hC hV hF => ?_)
  · obtain ⟨⟨w7, hk, -⟩, rfl⟩ := hC
    exact haw w7 _ (fun w8 g8 => ⟨_, rfl, ⟨Keep.of_grow [] g8, trivial⟩, rfl⟩)
  obtain rfl := hV
  clear hC hF w7
  simp only [List.set_cons_succ, List.set_cons_zero]
  repeat (first | (refine wpV_skp rfl rfl ?_; simp only [List.set_cons_succ, List.set_cons_zero]) | (refine wpV_look rfl rfl rfl rfl rfl (fun K hK => ?_); go_big_quiet_op; refine hK _ ?_; clear hK K))
  refine wpV_nil ?_
  intro w9 hC hF
  obtain ⟨⟨w9, hk, -⟩, rfl⟩ := hC
  exact hQ w9 hk.grow

set_option maxRecDepth 100000 in
set_option maxHeartbeats 2000000 in
theorem strKeW (a0 : Option Addr) (c0 : Nat) (pass : List UInt8) (a1 : Option Addr) (c1 : Nat) (salt : List UInt8) (r n i : Int) (w : World) (s0 : Sl w 1 a0 pass.length c0 (pass.map B)) (s1 : Sl w 1 a1 salt.length c1 (salt.map B)) (_ : (Lit.int IntKind.i64 r).wf = true) (_ : (Lit.int IntKind.i64 n).wf = true) (_ : (Lit.int IntKind.i64 i).wf = true)
    (R : Ending → World → Prop) (hR : ∀ w', Grow w w' → R (.returned (.bool true)) w') :
    Calls Try.prog 9 #[.slice a0 pass.length c0, .slice a1 salt.length c1, .int .i64 r, .int .i64 n, .int .i64 i] w R := by
  have hml : maxLen = 9223372036854775807 := rfl
  have haw := awake3C
  have hm0 := s0.hcap
  have hn0 := s0.hle
  have hm1 := s1.hcap
  have hn1 := s1.hle
  by_cases hlo : 300 < pass.length
  · go_enter Try.func9, Try.ntmps9
    go_wp2_with fail
    refine haw _ _ ?_
    intro w2 g2
    have hf := hR w2 g2
    clear hR
    go_wp2_with fail
    exact hf
  have hd : decide (300 < (pass.length : Int)) = false := by simp; omega
  by_cases hhi : 200 < salt.length
  · go_enter Try.func9, Try.ntmps9
    go_wp2_with fail
    refine haw _ _ ?_
    intro w2 g2
    have hf := hR w2 g2
    clear hR
    go_wp2_with fail
    exact hf
  have hd2 : decide (200 < (salt.length : Int)) = false := by simp; omega
  have hkl : pass.length ≤ 300 := by omega
  have htl : salt.length ≤ 200 := by omega
  clear hlo hhi hm0 hn0 hm1 hn1
  by_cases hr2 : 20 < r ∧ r ≤ 10000
  · obtain ⟨h1, h2⟩ := hr2
    have hd3 : decide (20 < r) = true := by simpa using h1
    have hd4 : decide (r ≤ 10000) = true := by simpa using h2
    go_enter Try.func9, Try.ntmps9
    go_wp2_with fail
    refine haw _ _ ?_
    intro w2 g2
    have hf := hR w2 g2
    clear hR
    go_wp2_with fail
    exact hf
  obtain ⟨ok1, hok1⟩ : ∃ b, b = (mayB pass.length salt.length r && !decide (n < 0) && !decide (256 < n)) := ⟨_, rfl⟩
  obtain ⟨ok2, hok2⟩ : ∃ b, b = (mayB pass.length salt.length r && !decide (i < 1) && !decide (2147483647 < i)) := ⟨_, rfl⟩
  have hkey := fun w s s' => strKeyU a0 c0 pass a1 salt.length c1 salt r n ok1 hok1 w s s'
  have hblk := fun w s s' => strBlockU a0 c0 pass a1 salt.length c1 salt r i ok2 hok2 w s s'
  have hnew := rNewC
  have hrm := fun w => rMayC a0 pass.length c0 a1 salt.length c1 r w
  have hm := fun w => mayTopC a0 pass.length c0 w
  have hrk : ok1 = true → ∀ p w', Sm w' p Hs Ks → Sl w' 1 a0 pass.length c0 (pass.map B) → Sl w' 1 a1 salt.length c1 (salt.map B) → ∀ R : Ending → World → Prop, (∀ ao c w'', Sl w'' 1 ao (keyS pass salt (r - 1).toNat n.toNat).length c ((keyS pass salt (r - 1).toNat n.toNat).map B) → Grow w' w'' → R (.returned (.slice ao (keyS pass salt (r - 1).toNat n.toNat).length c)) w'') → Calls Try.prog 40 #[.pointer (some ⟨p, 0, none⟩), .slice a0 pass.length c0, .slice a1 salt.length c1, .int .i64 r, .int .i64 n] w' R := fun h p w' sm sk s R hR => by
    rw [h] at hok1
    have h := hok1.symm
    simp only [Bool.and_eq_true, Bool.not_eq_true', decide_eq_false_iff_not, Int.not_lt] at h
    obtain ⟨⟨h1, h2⟩, h3⟩ := h
    obtain ⟨-, -, h4, h5⟩ := mayB_true h1
    obtain ⟨rn, rfl⟩ : ∃ k : Nat, r = (k : Int) + 1 := ⟨(r - 1).toNat, by omega⟩
    obtain ⟨k, rfl⟩ : ∃ k : Nat, n = (k : Int) := ⟨n.toNat, by omega⟩
    simp only [Int.add_sub_cancel, Int.toNat_natCast, keyS_len] at hR
    exact rKeyC p a0 pass.length c0 pass a1 salt.length c1 salt rn k w' sm sk (Lib.hid rfl) (by omega) s (by omega) (by omega) (by omega) R hR
  have hrb : ok2 = true → ∀ p w', Sm w' p Hs Ks → Sl w' 1 a0 pass.length c0 (pass.map B) → Sl w' 1 a1 salt.length c1 (salt.map B) → ∀ R : Ending → World → Prop, (∀ w'', Grow w' w'' → R (.returned (.agg ((tS pass salt i.toNat (r - 1).toNat).map B).toArray)) w'') → Calls Try.prog 41 #[.pointer (some ⟨p, 0, none⟩), .slice a0 pass.length c0, .slice a1 salt.length c1, .int .i64 r, .int .i64 i] w' R := fun h p w' sm sk s R hR => by
    rw [h] at hok2
    have h := hok2.symm
    simp only [Bool.and_eq_true, Bool.not_eq_true', decide_eq_false_iff_not, Int.not_lt] at h
    obtain ⟨⟨h1, h2⟩, h3⟩ := h
    obtain ⟨-, -, h4, h5⟩ := mayB_true h1
    obtain ⟨rn, rfl⟩ : ∃ k : Nat, r = (k : Int) + 1 := ⟨(r - 1).toNat, by omega⟩
    obtain ⟨k, rfl⟩ : ∃ k : Nat, i = (k : Int) := ⟨i.toNat, by omega⟩
    simp only [Int.add_sub_cancel, Int.toNat_natCast] at hR
    exact rBlkC p a0 c0 pass a1 salt.length c1 salt rn k w' sm sk (by omega) s (by omega) (by omega) (by omega) R hR
  have hgd : (decide (20 < r) && decide (r ≤ 10000)) = false := by
    simp only [Bool.and_eq_false_iff, decide_eq_false_iff_not]
    omega
  obtain ⟨b1, hb1⟩ : ∃ b, decide (20 < r) = b := ⟨_, rfl⟩
  obtain ⟨b2, hb2⟩ : ∃ b, decide (r ≤ 10000) = b := ⟨_, rfl⟩
  rw [hb1, hb2] at hgd
  obtain ⟨m, hmm⟩ : ∃ b, mayB pass.length salt.length r = b := ⟨_, rfl⟩
  obtain ⟨n1, hn1⟩ : ∃ b, decide (n < 0) = b := ⟨_, rfl⟩
  obtain ⟨n2, hn2⟩ : ∃ b, decide (256 < n) = b := ⟨_, rfl⟩
  obtain ⟨i1, hi1⟩ : ∃ b, decide (i < 1) = b := ⟨_, rfl⟩
  obtain ⟨i2, hi2⟩ : ∃ b, decide (2147483647 < i) = b := ⟨_, rfl⟩
  rw [hmm, hn1, hn2] at hok1
  rw [hmm, hi1, hi2] at hok2
  simp only [hmm] at hrm
  generalize Hs = H at *
  generalize Ks = K at *
  have hTl : ok2 = true → (tS pass salt i.toNat (r - 1).toNat).length = 32 := fun _ => tS_len _ _ _ _
  obtain ⟨T, hT⟩ : ∃ T, T = (if ok2 then tS pass salt i.toNat (r - 1).toNat else List.replicate 32 0) := ⟨_, rfl⟩
  have hTl : T.length = 32 := by rw [hT]; split; exact tS_len _ _ _ _; simp
  obtain ⟨L, hL⟩ : ∃ T, T = (if ok1 then keyS pass salt (r - 1).toNat n.toNat else []) := ⟨_, rfl⟩
  simp only [← hT] at hblk
  simp only [← hL] at hkey
  obtain ⟨e, he⟩ : ∃ e : Int, e = if ok1 = true then 0 else 1 := ⟨_, rfl⟩
  obtain ⟨f, hf⟩ : ∃ e : Int, e = if ok2 = true then 0 else 1 := ⟨_, rfl⟩
  simp only [← he] at hkey
  simp only [← hf] at hblk
  have heq := eq_hash T T hTl hTl
  rw [beq_self_eq_true] at heq
  obtain ⟨V, hV⟩ : ∃ V, V = T.map B := ⟨_, rfl⟩
  have hVl : V.length = 32 := by rw [hV, List.length_map]; exact hTl
  have hV1 : ∀ v ∈ V, v.oneCell' = true := by rw [hV]; exact B_one _
  simp only [← hV] at hblk heq
  have i32 : (Try.prog.info? 27).map (·.size) = some 32 := by kernel_rfl
  have Hok1 := Lib.hid hok1
  have Hok2 := Lib.hid hok2
  have He := Lib.hid he
  have Hf := Lib.hid hf
  have HT := Lib.hid hT
  have HL := Lib.hid hL
  have HV := Lib.hid hV
  have Hrk := Lib.hid hrk
  have Hrb := Lib.hid hrb
  have d128 : ∀ N : Nat, decide ((N : Int) ≤ 128) = decide (N ≤ 128) := fun N => by
    rw [Bool.eq_iff_iff]; simp; omega
  obtain ⟨b7, hb7⟩ : ∃ b, decide (pass.length ≤ 128) = b := ⟨_, rfl⟩
  have hb8 : decide ((pass.length : Int) ≤ 128) = b7 := by rw [d128]; exact hb7
  simp only [hb7] at hm
  obtain ⟨N, hN⟩ : ∃ N, N = pass.length := ⟨_, rfl⟩
  obtain ⟨M, hM⟩ : ∃ N, N = salt.length := ⟨_, rfl⟩
  rw [← hN] at s0 hd hkey hblk hrm hm hb8 Hrk Hrb ⊢
  rw [← hM] at s1 hd2 hkey hblk hrm Hrk Hrb ⊢
  clear hr2 hok1 hok2 he hf hT hL hV hrk hrb hmm hb7 d128 hN hM hkl htl
  have hb : b1 = false ∨ b1 = true ∧ b2 = false := by cases b1 <;> cases b2 <;> simp_all
  clear hgd
  have hcs : (m = false ∧ ok1 = false ∧ ok2 = false) ∨ (m = true ∧ ((ok1 = true ∧ n1 = false ∧ n2 = false) ∨ (ok1 = false ∧ n1 = true) ∨ (ok1 = false ∧ n1 = false ∧ n2 = true)) ∧ ((ok2 = true ∧ i1 = false ∧ i2 = false) ∨ (ok2 = false ∧ i1 = true) ∨ (ok2 = false ∧ i1 = false ∧ i2 = true))) := by
    have h1 := Hok1.out
    have h2 := Hok2.out
    cases m <;> cases n1 <;> cases n2 <;> cases i1 <;> cases i2 <;> simp_all
  have c3 := hkey w s0 s1
  clear Hok1 Hok2 hkey
  rcases hb with rfl | ⟨rfl, rfl⟩
  all_goals
    go_enter Try.func9, Try.ntmps9
    go_wp2_with fail
    refine c3 _ ?_
    clear c3 hd hd2 hb1 hb2
    intro ko kl kc w1 sk g1 hl0
    have c4 := hblk w1 (s0.grow g1) (s1.grow g1)
    have Hl0 := Lib.hid hl0
    clear hl0 hblk
    go_wp2_with fail
    refine c4 _ ?_
    clear c4
    intro w2 g2
    have G2 := g1.trans g2
    have sk2 := sk.grow g2
    clear sk g1 g2
    obtain ⟨o1, ga1, th1, al1⟩ := newvar (t := 27) w2 (.int .u8 0) rfl (by omega) hVl hV1
    have hszF : (Try.prog.info? 27).map (·.size) = some V.toArray.size := by rw [List.size_toArray, hVl]; exact i32
    go_upto_region 5 with (refine wpList_store_mid rfl 27 _ _ rfl w2.heap.size 0 V.toArray rfl rfl th1 hszF al1 ?_)
    change Code.wp _ _ _ ⟨_, _⟩ ((w2.alloc (.cells (List.replicate 32 (.int .u8 0)).toArray 27)).setCells w2.heap.size 0 V)
    have G3 := G2.trans ga1
    have sk3 := sk2.grow ga1
    obtain ⟨q, hq⟩ : ∃ q, q = w2.heap.size := ⟨_, rfl⟩
    generalize (w2.alloc (.cells (List.replicate 32 (.int .u8 0)).toArray 27)).setCells w2.heap.size 0 V = w3 at *
    rw [← hq] at o1 ⊢
    clear hq th1 al1 ga1 G2 sk2 hszF
    go_wp2_with fail
    refine hnew _ _ ?_
    intro p w4 sm g4 _
    have G4 := G3.trans g4
    have o4 := o1.grow g4
    have sk4 := sk3.grow g4
    have s04 := s0.grow G4
    have s14 := s1.grow G4
    clear hnew G3 o1 sk3 g4 s0 s1
    go_wp2_with fail
    refine hrm _ _ ?_
    clear hrm
    go_wp2_with fail
    refine hm _ _ ?_
    clear hm
    have hbb : (b7 == b7) = true := by simp
    go_upto_region 9 with (fail)
    clear hb8 hbb
    have ldA : ∀ w', Keep [] w4 w' → (Instr.loadAt 27 (.pointer (some ⟨q, 0, none⟩))).run Try.prog w' = .ok (.agg V.toArray) w' := fun w' k => load_arr (by decide) hVl (o4.keep k (by simp)) Try.underlying27 rfl i32
    rcases hcs with ⟨rfl, rfl, rfl⟩ | ⟨rfl, hc1, hc2⟩
    · obtain rfl : e = 1 := by have := He.out; simpa using this
      obtain rfl : f = 1 := by have := Hf.out; simpa using this
      obtain rfl := Hl0.out rfl
      have hVZ : Hid (V = (List.replicate 32 (0 : UInt8)).map B) := Lib.hid (by rw [HV.out, HT.out]; rfl)
      clear He Hf Hl0 Hrk Hrb HV HT HL hTl
      go_upto_region 15 with (fail)
      refine ske15 q V hVl hVZ w4 o4 heq ?_
      intro w5 g5
      intros
      have hf := hR _ (G4.trans g5)
      clear hR
      go_wp2_with fail
      exact hf
    · rcases hc1 with ⟨rfl, rfl, rfl⟩ | ⟨rfl, rfl⟩ | ⟨rfl, rfl, rfl⟩
      · obtain rfl : e = 0 := by have := He.out; simpa using this
        have hLk : keyS pass salt (r - 1).toNat n.toNat = L := by rw [HL.out]; rfl
        have hk2 := Hrk.out rfl
        rw [hLk] at hk2
        have hkk := fun w' (k : Keep [] w4 w') => hk2 p w' ⟨sm.1.keep k (by simp), sm.2⟩ (s04.keep k (by simp)) (s14.keep k (by simp))
        clear hk2 Hl0 He HL Hrk hLk
        go_upto_region 12 with (fail)
        clear hn1 hn2
        refine ske12 a0 N c0 a1 M c1 r n ko kl kc p L w4 sk4 hkk ?_
        intro w5 g5
        have G5 := G4.trans g5
        have s05 := s04.grow g5
        have s15 := s14.grow g5
        have sm5 : Sm w5 p H K := ⟨sm.1.keep (Keep.of_grow [] g5) (by simp), sm.2⟩
        have o5 := o4.grow g5
        intros
        clear hkk sk4 ldA o4 sm s04 s14 G4 g5
        have hVV : Hid (ok2 = true → V = (tS pass salt i.toNat (r - 1).toNat).map B) := Lib.hid (fun h => by rw [HV.out, HT.out, h]; rfl)
        have hVZ : Hid (ok2 = false → V = (List.replicate 32 (0 : UInt8)).map B) := Lib.hid (fun h => by rw [HV.out, HT.out, h]; rfl)
        clear HV HT hTl
        rcases hc2 with ⟨rfl, rfl, rfl⟩ | ⟨rfl, rfl⟩ | ⟨rfl, rfl, rfl⟩
        · obtain rfl : f = 0 := by have := Hf.out; simpa using this
          have hk2 := Hrb.out rfl
          rw [← hVV.out rfl] at hk2
          have hkk := fun w' (k : Keep [] w5 w') => hk2 p w' ⟨sm5.1.keep k (by simp), sm5.2⟩ (s05.keep k (by simp)) (s15.keep k (by simp))
          have ldB : ∀ w', Keep [] w5 w' → (Instr.loadAt 27 (.pointer (some ⟨q, 0, none⟩))).run Try.prog w' = .ok (.agg V.toArray) w' := fun w' k => load_arr (by decide) hVl (o5.keep k (by simp)) Try.underlying27 rfl i32
          clear hk2 Hf hVV hVZ Hrb
          go_upto_region 16 with (fail)
          clear hi1 hi2
          refine ske16 a0 N c0 a1 M c1 r i p q V.toArray w5 ldB hkk heq ?_
          intro w6 g6
          intros
          have hf := hR _ (G5.trans g6)
          clear hR hkk ldB
          go_wp2_with fail
          exact hf
        · obtain rfl : f = 1 := by have := Hf.out; simpa using this
          have hz := Lib.hid (hVZ.out rfl)
          clear Hf hVV hVZ Hrb
          go_upto_region 15 with (fail)
          clear hi1
          refine ske15 q V hVl hz w5 o5 heq ?_
          intro w6 g6
          intros
          have hf := hR _ (G5.trans g6)
          clear hR
          go_wp2_with fail
          exact hf
        · obtain rfl : f = 1 := by have := Hf.out; simpa using this
          have hz := Lib.hid (hVZ.out rfl)
          clear Hf hVV hVZ Hrb
          go_upto_region 15 with (fail)
          clear hi1 hi2
          refine ske15 q V hVl hz w5 o5 heq ?_
          intro w6 g6
          intros
          have hf := hR _ (G5.trans g6)
          clear hR
          go_wp2_with fail
          exact hf
      · obtain rfl : e = 1 := by have := He.out; simpa using this
        obtain rfl := Hl0.out rfl
        clear Hl0 He HL Hrk ldA sk4
        go_upto_region 14 with (fail)
        clear hn1
        have hVV : Hid (ok2 = true → V = (tS pass salt i.toNat (r - 1).toNat).map B) := Lib.hid (fun h => by rw [HV.out, HT.out, h]; rfl)
        have hVZ : Hid (ok2 = false → V = (List.replicate 32 (0 : UInt8)).map B) := Lib.hid (fun h => by rw [HV.out, HT.out, h]; rfl)
        clear HV HT hTl
        rcases hc2 with ⟨rfl, rfl, rfl⟩ | ⟨rfl, rfl⟩ | ⟨rfl, rfl, rfl⟩
        · obtain rfl : f = 0 := by have := Hf.out; simpa using this
          have hk2 := Hrb.out rfl
          rw [← hVV.out rfl] at hk2
          have hkk := fun w' (k : Keep [] w4 w') => hk2 p w' ⟨sm.1.keep k (by simp), sm.2⟩ (s04.keep k (by simp)) (s14.keep k (by simp))
          have ldB : ∀ w', Keep [] w4 w' → (Instr.loadAt 27 (.pointer (some ⟨q, 0, none⟩))).run Try.prog w' = .ok (.agg V.toArray) w' := fun w' k => load_arr (by decide) hVl (o4.keep k (by simp)) Try.underlying27 rfl i32
          clear hk2 Hf hVV hVZ Hrb
          go_upto_region 16 with (fail)
          clear hi1 hi2
          refine ske16 a0 N c0 a1 M c1 r i p q V.toArray w4 ldB hkk heq ?_
          intro w6 g6
          intros
          have hf := hR _ (G4.trans g6)
          clear hR hkk ldB
          go_wp2_with fail
          exact hf
        · obtain rfl : f = 1 := by have := Hf.out; simpa using this
          have hz := Lib.hid (hVZ.out rfl)
          clear Hf hVV hVZ Hrb
          go_upto_region 15 with (fail)
          clear hi1
          refine ske15 q V hVl hz w4 o4 heq ?_
          intro w6 g6
          intros
          have hf := hR _ (G4.trans g6)
          clear hR
          go_wp2_with fail
          exact hf
        · obtain rfl : f = 1 := by have := Hf.out; simpa using this
          have hz := Lib.hid (hVZ.out rfl)
          clear Hf hVV hVZ Hrb
          go_upto_region 15 with (fail)
          clear hi1 hi2
          refine ske15 q V hVl hz w4 o4 heq ?_
          intro w6 g6
          intros
          have hf := hR _ (G4.trans g6)
          clear hR
          go_wp2_with fail
          exact hf
      · obtain rfl : e = 1 := by have := He.out; simpa using this
        obtain rfl := Hl0.out rfl
        clear Hl0 He HL Hrk ldA sk4
        go_upto_region 14 with (fail)
        clear hn1 hn2
        have hVV : Hid (ok2 = true → V = (tS pass salt i.toNat (r - 1).toNat).map B) := Lib.hid (fun h => by rw [HV.out, HT.out, h]; rfl)
        have hVZ : Hid (ok2 = false → V = (List.replicate 32 (0 : UInt8)).map B) := Lib.hid (fun h => by rw [HV.out, HT.out, h]; rfl)
        clear HV HT hTl
        rcases hc2 with ⟨rfl, rfl, rfl⟩ | ⟨rfl, rfl⟩ | ⟨rfl, rfl, rfl⟩
        · obtain rfl : f = 0 := by have := Hf.out; simpa using this
          have hk2 := Hrb.out rfl
          rw [← hVV.out rfl] at hk2
          have hkk := fun w' (k : Keep [] w4 w') => hk2 p w' ⟨sm.1.keep k (by simp), sm.2⟩ (s04.keep k (by simp)) (s14.keep k (by simp))
          have ldB : ∀ w', Keep [] w4 w' → (Instr.loadAt 27 (.pointer (some ⟨q, 0, none⟩))).run Try.prog w' = .ok (.agg V.toArray) w' := fun w' k => load_arr (by decide) hVl (o4.keep k (by simp)) Try.underlying27 rfl i32
          clear hk2 Hf hVV hVZ Hrb
          go_upto_region 16 with (fail)
          clear hi1 hi2
          refine ske16 a0 N c0 a1 M c1 r i p q V.toArray w4 ldB hkk heq ?_
          intro w6 g6
          intros
          have hf := hR _ (G4.trans g6)
          clear hR hkk ldB
          go_wp2_with fail
          exact hf
        · obtain rfl : f = 1 := by have := Hf.out; simpa using this
          have hz := Lib.hid (hVZ.out rfl)
          clear Hf hVV hVZ Hrb
          go_upto_region 15 with (fail)
          clear hi1
          refine ske15 q V hVl hz w4 o4 heq ?_
          intro w6 g6
          intros
          have hf := hR _ (G4.trans g6)
          clear hR
          go_wp2_with fail
          exact hf
        · obtain rfl : f = 1 := by have := Hf.out; simpa using this
          have hz := Lib.hid (hVZ.out rfl)
          clear Hf hVV hVZ Hrb
          go_upto_region 15 with (fail)
          clear hi1 hi2
          refine ske15 q V hVl hz w4 o4 heq ?_
          intro w6 g6
          intros
          have hf := hR _ (G4.trans g6)
          clear hR
          go_wp2_with fail
          exact hf
end Go.Proofs.Ytaepfkpfageiaaa
