/- ProjKinds: its switch, its rounds. -/
import Derived.Test.YtgchbcopbkoomaaPl25k
namespace Go.Proofs.Ytgchbcopbkoomaa
open Go Go.RowKit


set_option maxRecDepth 100000 in
set_option maxHeartbeats 4000000 in
theorem pkSw (hid safe : Bool) (a3 : Int) (sz k q : Nat) (h1 : 1 ≤ sz) (h2 : sz ≤ 10) {c0 c5 c6 c7 c8 c9 c10 c12 c13 c15 c17 c18 c19 c20 c21 c22 c23 c24 c25 c26 c27 c28 c29 c30 c31 c32 c33 c34 c35 c36 c37 c38 c39 c40 c41 c42 c43 c44 c45 c46 c47 c48 c49 c50 c51 c52 c53 c54 c55 c56 c57 c58 c59 c60 c61 c62 c63 c64 c65 c66 c67 c68 c69 c70 c71 c72 c73 c74 c75 c76 c77 c78 c79 c80 c81 c82 c83 c84 c85 c86 c87 c88 c89 c90 c91 c92 c93 c94 c95 c96 c97 c98 c99 c100 c101 c102 c103 c104 c105 c106 c107 c108 c109 c110 c111 c112 c113 c114 c115 c116 c117 c118 c119 c120 c121 c122 c123 c124 c125 c126 c127 c128 c129 c130 c131 c132 c133 c134 c135 c136 c137 c138 c139 c140 c141 c142 c143 c144 c145 c146 c147 c148 c149 c150 c151 c152 c153 c154 c155 c156 c157 c158 c159 c160 c161 c162 c163 c164 c165 c166 : Value} (w : World) (o : Own w 35 1 (some ⟨q, 0, none⟩) 6 6 (doV pkA none 0)) {Q : Exit → Act → World → Prop}
    (hQ : ∀ w', Own w' 35 1 (some ⟨q, 0, none⟩) 6 6 (doV (pkC hid safe) none 0) → Keep [q] w w' → ∀ {u56 u57 u58 u59 u60 u61 u62 u63 u64 u65 u66 : Value}, Q .normal ⟨List.toArray (c0 :: .bool hid :: .bool safe :: .int .i64 a3 :: .int .i64 (sz : Int) :: c5 :: c6 :: c7 :: c8 :: c9 :: c10 :: .int .i64 ((if hid then rnd a3 (26 - sz) else k : Nat) : Int) :: c12 :: c13 :: .pointer (some ⟨q, 0, none⟩) :: c15 :: .int .i64 (if hid then 2 else 1) :: c17 :: c18 :: c19 :: c20 :: c21 :: c22 :: c23 :: c24 :: c25 :: c26 :: c27 :: c28 :: c29 :: c30 :: c31 :: c32 :: c33 :: c34 :: c35 :: c36 :: c37 :: c38 :: c39 :: c40 :: c41 :: c42 :: c43 :: c44 :: c45 :: c46 :: c47 :: c48 :: c49 :: c50 :: c51 :: c52 :: c53 :: c54 :: c55 :: u56 :: u57 :: u58 :: u59 :: u60 :: u61 :: u62 :: u63 :: u64 :: u65 :: u66 :: c67 :: c68 :: c69 :: c70 :: c71 :: c72 :: c73 :: c74 :: c75 :: c76 :: c77 :: c78 :: c79 :: c80 :: c81 :: c82 :: c83 :: c84 :: c85 :: c86 :: c87 :: c88 :: c89 :: c90 :: c91 :: c92 :: c93 :: c94 :: c95 :: c96 :: c97 :: c98 :: c99 :: c100 :: c101 :: c102 :: c103 :: c104 :: c105 :: c106 :: c107 :: c108 :: c109 :: c110 :: c111 :: c112 :: c113 :: c114 :: c115 :: c116 :: c117 :: c118 :: c119 :: c120 :: c121 :: c122 :: c123 :: c124 :: c125 :: c126 :: c127 :: c128 :: c129 :: c130 :: c131 :: c132 :: c133 :: c134 :: c135 :: c136 :: c137 :: c138 :: c139 :: c140 :: c141 :: c142 :: c143 :: c144 :: c145 :: c146 :: c147 :: c148 :: c149 :: c150 :: c151 :: c152 :: c153 :: c154 :: c155 :: c156 :: c157 :: c158 :: c159 :: c160 :: c161 :: c162 :: c163 :: c164 :: c165 :: c166 :: []), []⟩ w') :
    Code.wp Try.prog (blockAt Try.f4 0) Q ⟨List.toArray (c0 :: .bool hid :: .bool safe :: .int .i64 a3 :: .int .i64 (sz : Int) :: c5 :: c6 :: c7 :: c8 :: c9 :: c10 :: .int .i64 (k : Int) :: c12 :: c13 :: .pointer (some ⟨q, 0, none⟩) :: c15 :: .int .i64 1 :: c17 :: c18 :: c19 :: c20 :: c21 :: c22 :: c23 :: c24 :: c25 :: c26 :: c27 :: c28 :: c29 :: c30 :: c31 :: c32 :: c33 :: c34 :: c35 :: c36 :: c37 :: c38 :: c39 :: c40 :: c41 :: c42 :: c43 :: c44 :: c45 :: c46 :: c47 :: c48 :: c49 :: c50 :: c51 :: c52 :: c53 :: c54 :: c55 :: c56 :: c57 :: c58 :: c59 :: c60 :: c61 :: c62 :: c63 :: c64 :: c65 :: c66 :: c67 :: c68 :: c69 :: c70 :: c71 :: c72 :: c73 :: c74 :: c75 :: c76 :: c77 :: c78 :: c79 :: c80 :: c81 :: c82 :: c83 :: c84 :: c85 :: c86 :: c87 :: c88 :: c89 :: c90 :: c91 :: c92 :: c93 :: c94 :: c95 :: c96 :: c97 :: c98 :: c99 :: c100 :: c101 :: c102 :: c103 :: c104 :: c105 :: c106 :: c107 :: c108 :: c109 :: c110 :: c111 :: c112 :: c113 :: c114 :: c115 :: c116 :: c117 :: c118 :: c119 :: c120 :: c121 :: c122 :: c123 :: c124 :: c125 :: c126 :: c127 :: c128 :: c129 :: c130 :: c131 :: c132 :: c133 :: c134 :: c135 :: c136 :: c137 :: c138 :: c139 :: c140 :: c141 :: c142 :: c143 :: c144 :: c145 :: c146 :: c147 :: c148 :: c149 :: c150 :: c151 :: c152 :: c153 :: c154 :: c155 :: c156 :: c157 :: c158 :: c159 :: c160 :: c161 :: c162 :: c163 :: c164 :: c165 :: c166 :: []), []⟩ w := by
  have hml : maxLen = 9223372036854775807 := rfl
  have HQ := Lib.hid hQ
  clear hQ
  conv => arg 2; whnf
  refine wp_block ?_
  cases hid with
  | true =>
    obtain ⟨gq, v8, eq, hv8, hf8, hput⟩ := own_put o (i := 1) (by omega)
    cases eq
    have o8 := hput (.string (str [98])) rfl
    have k8 : Keep [q] w (w.setCell ⟨q, 1, none⟩ (.string (str [98]))) := Keep.setCell w ⟨q, 1, none⟩ (by simp) _
    have hr := roundC a3 (26 - sz) (by omega) (by omega)
    have er : ((25 : Int) - sz + 1) = ((26 - sz : Nat) : Int) := by omega
    obtain ⟨N, hN⟩ : ∃ N, N = 26 - sz := ⟨_, rfl⟩
    rw [← hN] at hr er
    have HN := Lib.hid hN
    clear hput hN o
    go_wp2_with fail
    refine hr _ _ ?_
    rw [HN.out]
    clear hr er
    go_wp2_with fail
    exact HQ.out _ o8 k8
  | false =>
    cases safe with
    | false =>
      go_wp2_with fail
      exact HQ.out _ o (Keep.refl _ _)
    | true =>
      have th1 := own_there o 6 rfl
      have al1 := one_all (doV_one pkP none 0)
      have o9 := own_whole o (Y := doV pkP none 0) rfl (doV_one pkP none 0)
      have k9 : Keep [q] w (w.setCells q 0 (doV pkP none 0)) := Keep.setCells _ _ _ _
      have hszF : (Try.prog.info? 35).map (·.size) = some (doV pkP none 0).toArray.size := by kernel_rfl
      clear o
      go_wp2_with (refine wpList_store_mid rfl 35 _ _ rfl q 0 (doV pkP none 0).toArray rfl rfl th1 hszF al1 ?_)
      exact HQ.out _ o9 k9

/-- The blocks of two lists of the call's own. -/
structure Apt (w0 w : World) (ao bo : Option Addr) : Prop where
  a : ∀ y ∈ blk ao, w0.heap.size ≤ y
  b : ∀ y ∈ blk bo, w0.heap.size ≤ y
  d : ∀ y ∈ blk ao, y ∉ blk bo
theorem Apt.left {w0 w w' : World} {ao ao' bo : Option Addr} (h : Apt w0 w ao bo) (g : Grow w0 w) (hb : ∀ y ∈ blk bo, y < w.heap.size) (n : ∀ y ∈ blk ao', y ∈ blk ao ∨ w.heap.size ≤ y) : Apt w0 w' ao' bo :=
  ⟨fun y hy => (n y hy).elim (h.a y) (fun e => Nat.le_trans g.size e), h.b, fun y hy hm => (n y hy).elim (fun e => h.d y e hm) (fun e => by have := hb y hm; omega)⟩
theorem Apt.right {w0 w w' : World} {ao bo bo' : Option Addr} (h : Apt w0 w ao bo) (g : Grow w0 w) (ha : ∀ y ∈ blk ao, y < w.heap.size) (n : ∀ y ∈ blk bo', y ∈ blk bo ∨ w.heap.size ≤ y) : Apt w0 w' ao bo' :=
  ⟨h.a, fun y hy => (n y hy).elim (h.b y) (fun e => Nat.le_trans g.size e), fun y hy hm => (n y hm).elim (fun e => h.d y hy e) (fun e => by have := ha y hy; omega)⟩

def rds (k sz n : Nat) : List StX := (List.replicate n (rdS k sz)).flatten
theorem rds_succ (k sz n : Nat) : rds k sz (n + 1) = rds k sz n ++ rdS k sz := by simp [rds, List.replicate_succ']
def kds (kw kd : Int) (n : Nat) : List Int := (List.replicate n [kw, kd, kd]).flatten
theorem kds_succ (kw kd : Int) (n : Nat) : kds kw kd (n + 1) = kds kw kd n ++ [kw, kd, kd] := by simp [kds, List.replicate_succ']
def pkw (hid safe inn : Bool) (kd : Int) : Int := if !hid && safe && inn then 2 else kd


set_option maxRecDepth 100000 in
set_option maxHeartbeats 4000000 in
theorem pkLp (hid safe inn : Bool) (sz k n m : Nat) (hsz : sz ≤ 10) (hn : n ≤ 15) (hm : m ≤ 100) (lo wo : Option Addr) (lc wc : Nat) (kd : Int) (lE : List Ex) (W : List Int) {c3 c5 c6 c7 c8 c9 c10 c14 c18 c19 c20 c21 c22 c23 c24 c25 c26 c27 c28 c29 c30 c31 c32 c33 c34 c35 c36 c37 c38 c39 c40 c41 c42 c43 c44 c45 c46 c47 c48 c49 c50 c51 c52 c53 c54 c55 c56 c57 c58 c59 c60 c61 c62 c63 c64 c65 c66 c67 c68 c69 c70 c71 c72 c73 c74 c75 c76 c77 c78 c79 c80 c81 c82 c83 c84 c85 c86 c87 c88 c89 c90 c91 c92 c93 c94 c95 c96 c97 c98 c99 c100 c101 c102 c103 c104 c105 c106 c107 c108 c109 c110 c111 c112 c113 c114 c115 c116 c117 c118 c119 c120 c121 c122 c123 c124 c125 c126 c127 c128 c129 c130 c131 c132 c133 c134 c135 c136 c137 c138 c139 c140 c141 c142 c143 c144 c145 c146 c147 c148 c149 c150 c151 c152 c153 c154 c155 c156 c157 c158 c159 c160 c161 c162 c163 c164 c165 c166 : Value} (w0 w : World) (g : Grow w0 w) (o : Own w 38 10 lo m lc (lE.flatMap exV)) (oW : Own w 3 1 wo m wc (W.map (.int .i64))) (ap : Apt w0 w lo wo) {Q : Exit → Act → World → Prop}
    (hQ : ∀ (lo' wo' : Option Addr) (lc' wc' : Nat) (lE' : List Ex) (w' : World), lE'.map (·.s) = lE.map (·.s) ++ rds k sz n → (∀ e ∈ lE', e ∈ lE ∨ e.s.cmd.data.length ≤ 1000) → Own w' 38 10 lo' (m + 3 * n) lc' (lE'.flatMap exV) → Own w' 3 1 wo' (m + 3 * n) wc' ((W ++ kds (pkw hid safe inn kd) kd n).map (.int .i64)) → Apt w0 w' lo' wo' → Grow w0 w' → ∀ {u17 u18 u84 u85 u86 u87 u88 u89 u90 u91 u92 u93 u94 u95 u96 u97 u98 u99 u100 u101 u102 u103 u104 u105 u106 u107 u108 u109 u110 u111 u112 u113 u114 u115 u116 : Value}, Q .normal ⟨List.toArray (.int .i64 (n : Int) :: .bool hid :: .bool safe :: c3 :: .int .i64 (sz : Int) :: c5 :: c6 :: c7 :: c8 :: c9 :: c10 :: .int .i64 (k : Int) :: .slice lo' (m + 3 * n : Nat) lc' :: .slice wo' (m + 3 * n : Nat) wc' :: c14 :: .bool inn :: .int .i64 kd :: u17 :: u18 :: c19 :: c20 :: c21 :: c22 :: c23 :: c24 :: c25 :: c26 :: c27 :: c28 :: c29 :: c30 :: c31 :: c32 :: c33 :: c34 :: c35 :: c36 :: c37 :: c38 :: c39 :: c40 :: c41 :: c42 :: c43 :: c44 :: c45 :: c46 :: c47 :: c48 :: c49 :: c50 :: c51 :: c52 :: c53 :: c54 :: c55 :: c56 :: c57 :: c58 :: c59 :: c60 :: c61 :: c62 :: c63 :: c64 :: c65 :: c66 :: c67 :: c68 :: c69 :: c70 :: c71 :: c72 :: c73 :: c74 :: c75 :: c76 :: c77 :: c78 :: c79 :: c80 :: c81 :: c82 :: c83 :: u84 :: u85 :: u86 :: u87 :: u88 :: u89 :: u90 :: u91 :: u92 :: u93 :: u94 :: u95 :: u96 :: u97 :: u98 :: u99 :: u100 :: u101 :: u102 :: u103 :: u104 :: u105 :: u106 :: u107 :: u108 :: u109 :: u110 :: u111 :: u112 :: u113 :: u114 :: u115 :: u116 :: c117 :: c118 :: c119 :: c120 :: c121 :: c122 :: c123 :: c124 :: c125 :: c126 :: c127 :: c128 :: c129 :: c130 :: c131 :: c132 :: c133 :: c134 :: c135 :: c136 :: c137 :: c138 :: c139 :: c140 :: c141 :: c142 :: c143 :: c144 :: c145 :: c146 :: c147 :: c148 :: c149 :: c150 :: c151 :: c152 :: c153 :: c154 :: c155 :: c156 :: c157 :: c158 :: c159 :: c160 :: c161 :: c162 :: c163 :: c164 :: c165 :: c166 :: []), []⟩ w') :
    Code.wp Try.prog (blockAt Try.f4 1) Q ⟨List.toArray (.int .i64 (n : Int) :: .bool hid :: .bool safe :: c3 :: .int .i64 (sz : Int) :: c5 :: c6 :: c7 :: c8 :: c9 :: c10 :: .int .i64 (k : Int) :: .slice lo m lc :: .slice wo m wc :: c14 :: .bool inn :: .int .i64 kd :: .int .i64 0 :: c18 :: c19 :: c20 :: c21 :: c22 :: c23 :: c24 :: c25 :: c26 :: c27 :: c28 :: c29 :: c30 :: c31 :: c32 :: c33 :: c34 :: c35 :: c36 :: c37 :: c38 :: c39 :: c40 :: c41 :: c42 :: c43 :: c44 :: c45 :: c46 :: c47 :: c48 :: c49 :: c50 :: c51 :: c52 :: c53 :: c54 :: c55 :: c56 :: c57 :: c58 :: c59 :: c60 :: c61 :: c62 :: c63 :: c64 :: c65 :: c66 :: c67 :: c68 :: c69 :: c70 :: c71 :: c72 :: c73 :: c74 :: c75 :: c76 :: c77 :: c78 :: c79 :: c80 :: c81 :: c82 :: c83 :: c84 :: c85 :: c86 :: c87 :: c88 :: c89 :: c90 :: c91 :: c92 :: c93 :: c94 :: c95 :: c96 :: c97 :: c98 :: c99 :: c100 :: c101 :: c102 :: c103 :: c104 :: c105 :: c106 :: c107 :: c108 :: c109 :: c110 :: c111 :: c112 :: c113 :: c114 :: c115 :: c116 :: c117 :: c118 :: c119 :: c120 :: c121 :: c122 :: c123 :: c124 :: c125 :: c126 :: c127 :: c128 :: c129 :: c130 :: c131 :: c132 :: c133 :: c134 :: c135 :: c136 :: c137 :: c138 :: c139 :: c140 :: c141 :: c142 :: c143 :: c144 :: c145 :: c146 :: c147 :: c148 :: c149 :: c150 :: c151 :: c152 :: c153 :: c154 :: c155 :: c156 :: c157 :: c158 :: c159 :: c160 :: c161 :: c162 :: c163 :: c164 :: c165 :: c166 :: []), []⟩ w := by
  have hml : maxLen = 9223372036854775807 := rfl
  have HQ := Lib.hid hQ
  have h22 := @pk22
  have h26 := @pk26
  clear hQ
  conv => arg 2; whnf
  refine wp_block ?_
  go_loopw [12, 13, 17] (fun vl vw vi wr => ∃ (i : Nat) (lo' wo' : Option Addr) (lc' wc' : Nat) (lE' : List Ex), vl = .slice lo' (m + 3 * i : Nat) lc' ∧ vw = .slice wo' (m + 3 * i : Nat) wc' ∧ vi = .int .i64 (i : Int) ∧ i ≤ n ∧ Hid (lE'.map (·.s) = lE.map (·.s) ++ rds k sz i) ∧ Hid (∀ e ∈ lE', e ∈ lE ∨ e.s.cmd.data.length ≤ 1000) ∧ Own wr 38 10 lo' (m + 3 * i) lc' (lE'.flatMap exV) ∧ Own wr 3 1 wo' (m + 3 * i) wc' ((W ++ kds (pkw hid safe inn kd) kd i).map (.int .i64)) ∧ Apt w0 wr lo' wo' ∧ Grow w0 wr) (fun _ _ vi _ => n - (intOf vi).toNat)
  case atStart => exact ⟨0, lo, wo, lc, wc, lE, rfl, rfl, by simp, by omega, Lib.hid (by simp [rds]), Lib.hid (fun e he => .inl he), o, by simpa [kds] using oW, ap, g⟩
  case round =>
    clear o oW ap g
    obtain ⟨i, lo1, wo1, lc1, wc1, lE1, rfl, rfl, rfl, hi, hs, hd, o, oW, ap, g⟩ := hrel
    by_cases hlt : i < n
    · go_upto_region 22 with (fail)
      refine h22 sz k (m + 3 * i) hsz (by omega) lo1 lc1 lE1 wr o ?_
      intro q lo2 lc2 w2 o2 k2 b2
      intros
      have aW := oW.lt
      have ap2 := ap.left (w' := w2) g aW b2
      have oW2 := oW.keep k2 (fun y hy hm => ap.d y hm hy)
      have g2 := g.then k2 (fun y hy => ap.a y hy)
      have hs2 : Hid ((lE1 ++ [eW k sz q, doE pkR none 0, doE pkS none 0]).map (·.s) = lE.map (·.s) ++ rds k sz (i + 1)) := Lib.hid (by rw [List.map_append, hs.out, rds_succ, List.append_assoc]; rfl)
      have hd2 : Hid (∀ e ∈ lE1 ++ [eW k sz q, doE pkR none 0, doE pkS none 0], e ∈ lE ∨ e.s.cmd.data.length ≤ 1000) := Lib.hid (fun e he => by
        rcases List.mem_append.1 he with h | h
        · exact hd.out e h
        · refine .inr ?_
          simp only [List.mem_cons, List.not_mem_nil, or_false] at h
          rcases h with rfl | rfl | rfl
          · show (pkW k sz).data.length ≤ 1000
            rw [pkW_len]; omega
          · decide
          · decide)
      clear o oW ap g aW b2 k2 hs hd h22
      generalize lE1 ++ [eW k sz q, doE pkR none 0, doE pkS none 0] = lE2 at *
      have fin : ∀ (kw : Int), kw = pkw hid safe inn kd → ∀ (wo3 : Option Addr) (wc3 : Nat) (w3 : World), Own w3 3 1 wo3 (m + 3 * i + 3) wc3 (((W ++ kds (pkw hid safe inn kd) kd i) ++ [kw, kd, kd]).map (.int .i64)) → Keep (blk wo1) w2 w3 → (∀ y ∈ blk wo3, y ∈ blk wo1 ∨ w2.heap.size ≤ y) → Own w3 38 10 lo2 (m + 3 * (i + 1)) lc2 (lE2.flatMap exV) ∧ Own w3 3 1 wo3 (m + 3 * (i + 1)) wc3 ((W ++ kds (pkw hid safe inn kd) kd (i + 1)).map (.int .i64)) ∧ Apt w0 w3 lo2 wo3 ∧ Grow w0 w3 := fun kw e wo3 wc3 w3 o3 k3 b3 => by
        refine ⟨o2.keep k3 (fun y hy hm => ap2.d y hy hm), ?_, ap2.right g2 o2.lt b3, g2.then k3 (fun y hy => ap2.b y hy)⟩
        rw [kds_succ, ← List.append_assoc]; rw [e] at o3; exact o3
      have Fin := Lib.hid fin
      have oW3 := Lib.hid oW2
      clear fin oW2 o2 ap2 g2
      cases hid <;> cases safe <;> cases inn
      · go_upto_region 26 with (fail)
        refine h26 (m + 3 * i) (by omega) wo1 wc1 kd kd (W ++ kds (pkw false false false kd) kd i) w2 oW3.out ?_
        intro wo3 wc3 w3 o3 k3 b3
        intros
        obtain ⟨f1, f2, f3, f4⟩ := Fin.out kd rfl wo3 wc3 w3 o3 k3 b3
        clear o3 k3 b3 Fin oW3 h26
        go_wp2_with fail
        exact ⟨⟨i + 1, lo2, wo3, lc2, wc3, lE2, by go_num, by go_num, by go_num, by omega, hs2, hd2, f1, f2, f3, f4⟩, by simp [intOf]; omega⟩
      · go_upto_region 26 with (fail)
        refine h26 (m + 3 * i) (by omega) wo1 wc1 kd kd (W ++ kds (pkw false false true kd) kd i) w2 oW3.out ?_
        intro wo3 wc3 w3 o3 k3 b3
        intros
        obtain ⟨f1, f2, f3, f4⟩ := Fin.out kd rfl wo3 wc3 w3 o3 k3 b3
        clear o3 k3 b3 Fin oW3 h26
        go_wp2_with fail
        exact ⟨⟨i + 1, lo2, wo3, lc2, wc3, lE2, by go_num, by go_num, by go_num, by omega, hs2, hd2, f1, f2, f3, f4⟩, by simp [intOf]; omega⟩
      · go_upto_region 26 with (fail)
        refine h26 (m + 3 * i) (by omega) wo1 wc1 kd kd (W ++ kds (pkw false true false kd) kd i) w2 oW3.out ?_
        intro wo3 wc3 w3 o3 k3 b3
        intros
        obtain ⟨f1, f2, f3, f4⟩ := Fin.out kd rfl wo3 wc3 w3 o3 k3 b3
        clear o3 k3 b3 Fin oW3 h26
        go_wp2_with fail
        exact ⟨⟨i + 1, lo2, wo3, lc2, wc3, lE2, by go_num, by go_num, by go_num, by omega, hs2, hd2, f1, f2, f3, f4⟩, by simp [intOf]; omega⟩
      · go_upto_region 26 with (fail)
        refine h26 (m + 3 * i) (by omega) wo1 wc1 2 kd (W ++ kds (pkw false true true kd) kd i) w2 oW3.out ?_
        intro wo3 wc3 w3 o3 k3 b3
        intros
        obtain ⟨f1, f2, f3, f4⟩ := Fin.out 2 rfl wo3 wc3 w3 o3 k3 b3
        clear o3 k3 b3 Fin oW3 h26
        go_wp2_with fail
        exact ⟨⟨i + 1, lo2, wo3, lc2, wc3, lE2, by go_num, by go_num, by go_num, by omega, hs2, hd2, f1, f2, f3, f4⟩, by simp [intOf]; omega⟩
      · go_upto_region 26 with (fail)
        refine h26 (m + 3 * i) (by omega) wo1 wc1 kd kd (W ++ kds (pkw true false false kd) kd i) w2 oW3.out ?_
        intro wo3 wc3 w3 o3 k3 b3
        intros
        obtain ⟨f1, f2, f3, f4⟩ := Fin.out kd rfl wo3 wc3 w3 o3 k3 b3
        clear o3 k3 b3 Fin oW3 h26
        go_wp2_with fail
        exact ⟨⟨i + 1, lo2, wo3, lc2, wc3, lE2, by go_num, by go_num, by go_num, by omega, hs2, hd2, f1, f2, f3, f4⟩, by simp [intOf]; omega⟩
      · go_upto_region 26 with (fail)
        refine h26 (m + 3 * i) (by omega) wo1 wc1 kd kd (W ++ kds (pkw true false true kd) kd i) w2 oW3.out ?_
        intro wo3 wc3 w3 o3 k3 b3
        intros
        obtain ⟨f1, f2, f3, f4⟩ := Fin.out kd rfl wo3 wc3 w3 o3 k3 b3
        clear o3 k3 b3 Fin oW3 h26
        go_wp2_with fail
        exact ⟨⟨i + 1, lo2, wo3, lc2, wc3, lE2, by go_num, by go_num, by go_num, by omega, hs2, hd2, f1, f2, f3, f4⟩, by simp [intOf]; omega⟩
      · go_upto_region 26 with (fail)
        refine h26 (m + 3 * i) (by omega) wo1 wc1 kd kd (W ++ kds (pkw true true false kd) kd i) w2 oW3.out ?_
        intro wo3 wc3 w3 o3 k3 b3
        intros
        obtain ⟨f1, f2, f3, f4⟩ := Fin.out kd rfl wo3 wc3 w3 o3 k3 b3
        clear o3 k3 b3 Fin oW3 h26
        go_wp2_with fail
        exact ⟨⟨i + 1, lo2, wo3, lc2, wc3, lE2, by go_num, by go_num, by go_num, by omega, hs2, hd2, f1, f2, f3, f4⟩, by simp [intOf]; omega⟩
      · go_upto_region 26 with (fail)
        refine h26 (m + 3 * i) (by omega) wo1 wc1 kd kd (W ++ kds (pkw true true true kd) kd i) w2 oW3.out ?_
        intro wo3 wc3 w3 o3 k3 b3
        intros
        obtain ⟨f1, f2, f3, f4⟩ := Fin.out kd rfl wo3 wc3 w3 o3 k3 b3
        clear o3 k3 b3 Fin oW3 h26
        go_wp2_with fail
        exact ⟨⟨i + 1, lo2, wo3, lc2, wc3, lE2, by go_num, by go_num, by go_num, by omega, hs2, hd2, f1, f2, f3, f4⟩, by simp [intOf]; omega⟩
    · obtain rfl : i = n := by omega
      clear h22 h26
      go_wp2_with fail
      exact HQ.out lo1 wo1 lc1 wc1 lE1 wr hs.out hd.out o oW ap g


set_option maxRecDepth 100000 in
set_option maxHeartbeats 4000000 in
theorem pkOdd (n : Nat) (hn : n ≤ 1000) (go : Option Addr) (gc : Nat) {c0 c1 c2 c3 c4 c5 c6 c7 c8 c9 c10 c11 c12 c13 c14 c15 c16 c17 c18 c21 c22 c23 c24 c25 c26 c27 c28 c29 c30 c31 c32 c33 c34 c35 c36 c37 c38 c39 c40 c41 c42 c43 c44 c45 c46 c47 c48 c49 c50 c51 c52 c53 c54 c55 c56 c57 c58 c59 c60 c61 c62 c63 c64 c65 c66 c67 c68 c69 c70 c71 c72 c73 c74 c75 c76 c77 c78 c79 c80 c81 c82 c83 c84 c85 c86 c87 c88 c89 c90 c91 c92 c93 c94 c95 c96 c97 c98 c99 c100 c101 c102 c103 c104 c105 c106 c107 c108 c109 c110 c111 c112 c113 c114 c115 c116 c117 c118 c119 c120 c121 c122 c123 c124 c125 c126 c127 c128 c129 c130 c131 c132 c133 c134 c135 c136 c137 c138 c139 c140 c141 c142 c143 c144 c145 c146 c147 c148 c149 c150 c151 c152 c153 c154 c155 c156 c157 c158 c159 c160 c161 c162 c163 c164 c165 c166 : Value} (w : World) (o : Sl w 1 go n gc (List.replicate n (.int .i64 4))) {Q : Exit → Act → World → Prop}
    (hQ : ∀ {u10 u20 u142 u143 u144 u145 u146 u147 u148 u149 u150 u151 u152 : Value}, Q .normal ⟨List.toArray (c0 :: c1 :: c2 :: c3 :: c4 :: c5 :: c6 :: c7 :: c8 :: c9 :: u10 :: c11 :: c12 :: c13 :: c14 :: c15 :: c16 :: c17 :: c18 :: .slice go n gc :: u20 :: c21 :: c22 :: c23 :: c24 :: c25 :: c26 :: c27 :: c28 :: c29 :: c30 :: c31 :: c32 :: c33 :: c34 :: c35 :: c36 :: c37 :: c38 :: c39 :: c40 :: c41 :: c42 :: c43 :: c44 :: c45 :: c46 :: c47 :: c48 :: c49 :: c50 :: c51 :: c52 :: c53 :: c54 :: c55 :: c56 :: c57 :: c58 :: c59 :: c60 :: c61 :: c62 :: c63 :: c64 :: c65 :: c66 :: c67 :: c68 :: c69 :: c70 :: c71 :: c72 :: c73 :: c74 :: c75 :: c76 :: c77 :: c78 :: c79 :: c80 :: c81 :: c82 :: c83 :: c84 :: c85 :: c86 :: c87 :: c88 :: c89 :: c90 :: c91 :: c92 :: c93 :: c94 :: c95 :: c96 :: c97 :: c98 :: c99 :: c100 :: c101 :: c102 :: c103 :: c104 :: c105 :: c106 :: c107 :: c108 :: c109 :: c110 :: c111 :: c112 :: c113 :: c114 :: c115 :: c116 :: c117 :: c118 :: c119 :: c120 :: c121 :: c122 :: c123 :: c124 :: c125 :: c126 :: c127 :: c128 :: c129 :: c130 :: c131 :: c132 :: c133 :: c134 :: c135 :: c136 :: c137 :: c138 :: c139 :: c140 :: c141 :: u142 :: u143 :: u144 :: u145 :: u146 :: u147 :: u148 :: u149 :: u150 :: u151 :: u152 :: c153 :: c154 :: c155 :: c156 :: c157 :: c158 :: c159 :: c160 :: c161 :: c162 :: c163 :: c164 :: c165 :: c166 :: []), []⟩ w) :
    Code.wp Try.prog (blockAt Try.f4 3) Q ⟨List.toArray (c0 :: c1 :: c2 :: c3 :: c4 :: c5 :: c6 :: c7 :: c8 :: c9 :: c10 :: c11 :: c12 :: c13 :: c14 :: c15 :: c16 :: c17 :: c18 :: .slice go n gc :: .int .i64 0 :: c21 :: c22 :: c23 :: c24 :: c25 :: c26 :: c27 :: c28 :: c29 :: c30 :: c31 :: c32 :: c33 :: c34 :: c35 :: c36 :: c37 :: c38 :: c39 :: c40 :: c41 :: c42 :: c43 :: c44 :: c45 :: c46 :: c47 :: c48 :: c49 :: c50 :: c51 :: c52 :: c53 :: c54 :: c55 :: c56 :: c57 :: c58 :: c59 :: c60 :: c61 :: c62 :: c63 :: c64 :: c65 :: c66 :: c67 :: c68 :: c69 :: c70 :: c71 :: c72 :: c73 :: c74 :: c75 :: c76 :: c77 :: c78 :: c79 :: c80 :: c81 :: c82 :: c83 :: c84 :: c85 :: c86 :: c87 :: c88 :: c89 :: c90 :: c91 :: c92 :: c93 :: c94 :: c95 :: c96 :: c97 :: c98 :: c99 :: c100 :: c101 :: c102 :: c103 :: c104 :: c105 :: c106 :: c107 :: c108 :: c109 :: c110 :: c111 :: c112 :: c113 :: c114 :: c115 :: c116 :: c117 :: c118 :: c119 :: c120 :: c121 :: c122 :: c123 :: c124 :: c125 :: c126 :: c127 :: c128 :: c129 :: c130 :: c131 :: c132 :: c133 :: c134 :: c135 :: c136 :: c137 :: c138 :: c139 :: c140 :: c141 :: c142 :: c143 :: c144 :: c145 :: c146 :: c147 :: c148 :: c149 :: c150 :: c151 :: c152 :: c153 :: c154 :: c155 :: c156 :: c157 :: c158 :: c159 :: c160 :: c161 :: c162 :: c163 :: c164 :: c165 :: c166 :: []), []⟩ w := by
  have hml : maxLen = 9223372036854775807 := rfl
  have h1 := o.hle
  have h2 := o.hcap
  conv => arg 2; whnf
  refine wp_block ?_
  go_loopw [20] (fun vi wr => ∃ (i : Nat), vi = .int .i64 (i : Int) ∧ i ≤ n ∧ wr = w) (fun vi _ => n - (intOf vi).toNat)
  case atStart => exact ⟨0, by simp, by omega, rfl⟩
  case round =>
    obtain ⟨i, rfl, hi, rfl⟩ := hrel
    by_cases hlt : i < n
    · obtain ⟨ga, oa, eg, hcs⟩ := o.hat (by omega)
      subst eg
      have c1 := hcs.at (i := i) (v := .int .i64 4) (by simp [hlt])
      clear hcs o
      go_wp2_with fail
      exact ⟨⟨i + 1, by go_num, by omega, by trivial⟩, by simp [intOf]; omega⟩
    · obtain rfl : i = n := by omega
      go_wp2_with fail
      exact hQ
end Go.Proofs.Ytgchbcopbkoomaa
