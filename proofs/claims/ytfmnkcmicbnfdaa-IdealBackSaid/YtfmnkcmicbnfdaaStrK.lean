/- stretch: Block and Key. -/
import Derived.Test.YtfmnkcmicbnfdaaStrB
namespace Go.Proofs.Ytfmnkcmicbnfdaa
open Go Go.RowKit

/-- May a key be asked for? -/
def mayB (pn sn : Nat) (r : Int) : Bool := decide (pn ≤ 128 ∧ sn ≤ 64 ∧ 1 ≤ r ∧ r ≤ 10000)
theorem mayB_true {pn sn : Nat} {r : Int} (h : mayB pn sn r = true) : pn ≤ 128 ∧ sn ≤ 64 ∧ 1 ≤ r ∧ r ≤ 10000 := by simpa [mayB] using h
theorem mayB_false {pn sn : Nat} {r : Int} (h : mayB pn sn r = false) : ¬ (pn ≤ 128 ∧ sn ≤ 64 ∧ 1 ≤ r ∧ r ≤ 10000) := by simpa [mayB] using h

set_option maxRecDepth 100000 in
theorem mayTopC (po : Option Addr) (pn pc : Nat) (w : World) (R : Ending → World → Prop) (hR : R (.returned (.bool (decide (pn ≤ 128)))) w) :
    Calls Try.prog 104 #[.slice po pn pc] w R := by
  by_cases h : pn ≤ 128
  · have hd : decide ((pn : Int) ≤ 128) = true := by simp; omega
    rw [decide_eq_true h] at hR
    go_enter Try.func104, Try.ntmps104
    go_wp2_with fail
    exact hR
  · have hd : decide ((pn : Int) ≤ 128) = false := by simp; omega
    rw [decide_eq_false h] at hR
    go_enter Try.func104, Try.ntmps104
    go_wp2_with fail
    exact hR
set_option maxRecDepth 100000 in
theorem mayC (po : Option Addr) (pn pc : Nat) (so : Option Addr) (sn sc : Nat) (r : Int) (w : World) (R : Ending → World → Prop) (hR : R (.returned (.bool (mayB pn sn r))) w) :
    Calls Try.prog 86 #[.slice po pn pc, .slice so sn sc, .int .i64 r] w R := by
  have hm := mayTopC po pn pc w
  by_cases h1 : pn ≤ 128
  · rw [decide_eq_true h1] at hm
    by_cases h2 : sn ≤ 64
    · have d2 : decide ((sn : Int) ≤ 64) = true := by simp; omega
      by_cases h3 : 1 ≤ r
      · have d3 : decide (1 ≤ r) = true := by simpa using h3
        by_cases h4 : r ≤ 10000
        · have d4 : decide (r ≤ 10000) = true := by simpa using h4
          rw [show mayB pn sn r = true from decide_eq_true ⟨h1, h2, h3, h4⟩] at hR
          clear h1 h2 h3 h4
          go_enter Try.func86, Try.ntmps86
          go_wp2_with fail
          refine hm _ ?_
          go_wp2_with fail
          exact hR
        · have d4 : decide (r ≤ 10000) = false := by simpa using h4
          rw [show mayB pn sn r = false from decide_eq_false (fun h => h4 h.2.2.2)] at hR
          clear h1 h2 h3 h4
          go_enter Try.func86, Try.ntmps86
          go_wp2_with fail
          refine hm _ ?_
          go_wp2_with fail
          exact hR
      · have d3 : decide (1 ≤ r) = false := by simpa using h3
        rw [show mayB pn sn r = false from decide_eq_false (fun h => h3 h.2.2.1)] at hR
        clear h1 h2 h3
        go_enter Try.func86, Try.ntmps86
        go_wp2_with fail
        refine hm _ ?_
        go_wp2_with fail
        exact hR
    · have d2 : decide ((sn : Int) ≤ 64) = false := by simp; omega
      rw [show mayB pn sn r = false from decide_eq_false (fun h => h2 h.2.1)] at hR
      clear h1 h2
      go_enter Try.func86, Try.ntmps86
      go_wp2_with fail
      refine hm _ ?_
      go_wp2_with fail
      exact hR
  · rw [decide_eq_false h1] at hm
    rw [show mayB pn sn r = false from decide_eq_false (fun h => h1 h.1)] at hR
    clear h1
    go_enter Try.func86, Try.ntmps86
    go_wp2_with fail
    refine hm _ ?_
    go_wp2_with fail
    exact hR
theorem ret_cs {P : Program} {fn : Func} {p q : Tmp} {ty : TypeId} (h : fn.results = #[.cell p ty, .tmp q]) (tmps : Array Value) (w : World) (g n : Nat) (F : List Value) (v : Value) {e : TypeId} {d : TypeDesc}
    (hp : tmps.getD p undef = .pointer (some ⟨g, 0, none⟩)) (hq : tmps.getD q undef = v) (o : Own w e 1 (some ⟨g, 0, none⟩) n n F) (h0 : 0 < n) (hu : P.underlying ty = some d) (hd : d.isRow = true) (hi : (P.info? ty).map (·.size) = some n) :
    (results fn tmps).run P w = .ok (.tuple #[.agg F.toArray, v]) w := by
  obtain ⟨g', off', eg, hcs⟩ := o.sl.hat h0
  cases eg
  have hl := o.row.1
  have h1 := run_loadVar_mid (P := P) w g 0 ty F d (fun j v hj => hcs.at hj) hu hd (by rw [hi]; congr 1; omega)
  have hp' : tmps[p]?.getD undef = .pointer (some ⟨g, 0, none⟩) := by simpa using hp
  have hq' : tmps[q]?.getD undef = v := by simpa using hq
  simp [results, h, hp', hq', asAddr, h1]

set_option maxRecDepth 100000 in
set_option maxHeartbeats 1000000 in
theorem strKL (pk : Nat) (pass : List UInt8) (so : Option Addr) (sn sc : Nat) (salt : List UInt8) (rn n : Nat) {c0 c4 c5 c6 c7 c8 c9 c13 c14 c15 c16 c17 c18 c19 c20 c21 c22 c23 c24 c25 c26 c27 c28 c29 c30 c31 c32 c33 c34 c35 c36 c37 c38 c39 c40 c41 c42 c43 c44 c45 c46 : Value} (w : World) (hk : Kd w pk pass) (s : Sl w 1 so sn sc (salt.map B)) (hsn : sn ≤ 1000) (hn : n ≤ 256) (hr : rn ≤ 10000) {Q : Exit → Act → World → Prop}
    (hQ : ∀ (ao : Option Addr) (l c : Nat) (w' : World), Hid (l = 32 * ((n + 31) / 32)) → Own w' 5 1 ao l c ((keyB pass salt rn ((n + 31) / 32)).map B) → Grow w w' → Fr (blk ao) w → ∀ {u12 u13 u29 u30 u31 u32 u33 u34 u35 u36 u37 u38 u39 u40 u41 u42 : Value}, Q .normal ⟨List.toArray (c0 :: .slice so sn sc :: .int .i64 ((rn : Int) + 1) :: .int .i64 (n : Int) :: c4 :: c5 :: c6 :: c7 :: c8 :: c9 :: .slice ao l c :: .pointer (some ⟨pk, 0, none⟩) :: u12 :: u13 :: c14 :: c15 :: c16 :: c17 :: c18 :: c19 :: c20 :: c21 :: c22 :: c23 :: c24 :: c25 :: c26 :: c27 :: c28 :: u29 :: u30 :: u31 :: u32 :: u33 :: u34 :: u35 :: u36 :: u37 :: u38 :: u39 :: u40 :: u41 :: u42 :: c43 :: c44 :: c45 :: c46 :: []), []⟩ w') :
    Code.wp Try.prog (blockAt Try.f58 0) Q ⟨List.toArray (c0 :: .slice so sn sc :: .int .i64 ((rn : Int) + 1) :: .int .i64 (n : Int) :: c4 :: c5 :: c6 :: c7 :: c8 :: c9 :: .slice none 0 0 :: .pointer (some ⟨pk, 0, none⟩) :: .int .i64 1 :: c13 :: c14 :: c15 :: c16 :: c17 :: c18 :: c19 :: c20 :: c21 :: c22 :: c23 :: c24 :: c25 :: c26 :: c27 :: c28 :: c29 :: c30 :: c31 :: c32 :: c33 :: c34 :: c35 :: c36 :: c37 :: c38 :: c39 :: c40 :: c41 :: c42 :: c43 :: c44 :: c45 :: c46 :: []), []⟩ w := by
  have hml : maxLen = 9223372036854775807 := rfl
  have hblk := fun i hi w' k s => strBlkC pk pass so sn sc salt rn i w' k s hsn hi hr
  have i32 : (Try.prog.info? 123).map (·.size) = some 32 := by kernel_rfl
  conv => arg 2; whnf
  refine wp_block ?_
  go_loopw [10, 12] (fun ov vi wr => ∃ (j l c : Nat) (ao : Option Addr), vi = .int .i64 ((j : Int) + 1) ∧ ov = .slice ao l c ∧ Hid (l = 32 * j) ∧ j ≤ (n + 31) / 32 ∧ Own wr 5 1 ao l c ((keyB pass salt rn j).map B) ∧ Grow w wr ∧ Fr (blk ao) w) (fun _ vi _ => n + 65 - 32 * (intOf vi).toNat)
  case atStart => exact ⟨0, 0, 0, none, by simp, rfl, Lib.hid rfl, by omega, by simpa [keyB] using Own.none w _ _, Grow.refl _, by simp [blk, Fr]⟩
  case round =>
    obtain ⟨j, l, c, ao, rfl, rfl, hl, hj, oi, g, hb⟩ := hrel
    by_cases hlt : l < n
    · have hl' := hl.out
      have hc := hblk (j + 1) (by omega) wr (hk.grow g) (s.grow g)
      rw [show ((j + 1 : Nat) : Int) = (j : Int) + 1 by omega] at hc
      have hWl : ((tS pass salt (j + 1) rn).map B).length = 32 := by rw [List.length_map]; exact tS_len _ _ _ _
      have hkb : (keyB pass salt rn j).map B ++ (tS pass salt (j + 1) rn).map B = (keyB pass salt rn (j + 1)).map B := by rw [keyB, List.map_append]
      obtain ⟨W, hW⟩ : ∃ V, V = (tS pass salt (j + 1) rn).map B := ⟨_, rfl⟩
      have hW1 : ∀ v ∈ W, v.oneCell' = true := by rw [hW]; exact B_one _
      rw [← hW] at hWl hkb
      simp only [← hW] at hc
      have Hkb := Lib.hid hkb
      have hl2 : Hid (l + 32 = 32 * (j + 1)) := Lib.hid (by omega)
      have hmeas : n + 65 - 32 * (j + 1 + 1) < n + 65 - 32 * (j + 1) := by omega
      have hjn : j + 1 ≤ (n + 31) / 32 := by omega
      have hll : l ≤ 1000 := by omega
      have Hmeas := Lib.hid hmeas
      clear hW hkb hblk hl hl' hQ hmeas
      go_wp2_with fail
      refine hc _ ?_
      clear hc
      intro w5 g5
      have G5 := g.trans g5
      have oi5 := oi.grow g5
      clear oi g g5
      obtain ⟨o13, ga1, th1, al1⟩ := newvar (t := 123) w5 (.int .u8 0) rfl (by omega) hWl hW1
      have hszF : (Try.prog.info? 123).map (·.size) = some W.toArray.size := by rw [List.size_toArray, hWl]; exact i32
      go_upto_region 9 with (refine wpList_store_mid rfl 123 _ _ rfl w5.heap.size 0 W.toArray rfl rfl th1 hszF al1 ?_)
      change Code.wp _ _ _ ⟨_, _⟩ ((w5.alloc (.cells (List.replicate 32 (.int .u8 0)).toArray 123)).setCells w5.heap.size 0 W)
      have G6 := G5.trans ga1
      have oi6 := oi5.grow ga1
      obtain ⟨q, hq⟩ : ∃ q, q = w5.heap.size := ⟨_, rfl⟩
      generalize (w5.alloc (.cells (List.replicate 32 (.int .u8 0)).toArray 123)).setCells w5.heap.size 0 W = w6 at *
      rw [← hq] at o13 ⊢
      clear hq th1 al1 ga1 G5 oi5
      have so13 := o13.sl
      clear o13
      go_wp2_with (at_builtin; refine wpList_app TBy rfl rfl oi6 so13 (by omega) (by omega) ?_; intro ao1 cap1 w7 own7 _ kp7 blk7; rw [Hkb.out] at own7)
      have G7 := G6.then kp7 hb
      have hb7 : Fr (blk ao1) w := fun y hy => by
        rcases blk7 y hy with h | h
        · exact hb y h
        · have := G6.size; omega
      clear oi6 so13 kp7 blk7 Hkb G6
      go_roundw
      case rel => exact ⟨j + 1, l + 32, cap1, ao1, by go_num, rfl, hl2, hjn, own7, G7, hb7⟩
      case measure =>
        have := Hmeas.out
        simp [intOf]
        omega
    · have hjj : j = (n + 31) / 32 := by have := hl.out; omega
      have hl2 : Hid (l = 32 * ((n + 31) / 32)) := Lib.hid (by rw [hl.out, hjj])
      rw [hjj] at oi
      clear hl hblk hjj hj
      go_wp2_with fail
      exact hQ ao l c wr hl2 oi g hb

set_option maxRecDepth 100000 in
set_option maxHeartbeats 1000000 in
theorem strKeyNo (po : Option Addr) (pn pc : Nat) (so : Option Addr) (sn sc : Nat) (r n : Int) (w : World) (hno : mayB pn sn r = false ∨ n < 0 ∨ 256 < n)
    (R : Ending → World → Prop) (hR : R (.returned (.tuple #[.slice none 0 0, .int .i64 1])) w) :
    Calls Try.prog 58 #[.slice po pn pc, .slice so sn sc, .int .i64 r, .int .i64 n] w R := by
  have hmay := fun w => mayC po pn pc so sn sc r w
  obtain ⟨m, hm⟩ : ∃ m, m = mayB pn sn r := ⟨_, rfl⟩
  rw [← hm] at hno
  simp only [← hm] at hmay
  clear hm
  have hside : ∃ b1 b2 : Bool, decide (n < 0) = b1 ∧ decide (256 < n) = b2 ∧ (m && !b1 && !b2) = false := ⟨_, _, rfl, rfl, by
    rcases hno with rfl | h | h
    · rfl
    · simp [h]
    · simp [h]⟩
  obtain ⟨b1, b2, d1, d2, hb⟩ := hside
  clear hno
  have hcases : m = false ∨ m = true ∧ b1 = true ∨ m = true ∧ b1 = false ∧ b2 = true := by
    cases m <;> cases b1 <;> cases b2 <;> simp_all
  clear hb
  rcases hcases with rfl | ⟨rfl, rfl⟩ | ⟨rfl, rfl, rfl⟩
  all_goals
    go_enter Try.func58, Try.ntmps58
    go_wp2_with (go_at_call 86; refine hmay _ _ ?_)
    first | exact hR | trace_state

set_option maxRecDepth 100000 in
set_option maxHeartbeats 1000000 in
theorem strKeyOk (po : Option Addr) (pc : Nat) (pass : List UInt8) (so : Option Addr) (sn sc : Nat) (salt : List UInt8) (rn n : Nat) (w : World) (sp : Sl w 1 po pass.length pc (pass.map B)) (s : Sl w 1 so sn sc (salt.map B)) (hm : mayB pass.length sn ((rn : Int) + 1) = true) (hn : n ≤ 256)
    (R : Ending → World → Prop) (hR : ∀ ao c w', Own w' 5 1 ao n c ((keyS pass salt rn n).map B) → Grow w w' → Fr (blk ao) w → R (.returned (.tuple #[.slice ao n c, .int .i64 0])) w') :
    Calls Try.prog 58 #[.slice po pass.length pc, .slice so sn sc, .int .i64 ((rn : Int) + 1), .int .i64 (n : Int)] w R := by
  have hml : maxLen = 9223372036854775807 := rfl
  obtain ⟨m1, m2, m3, m4⟩ := mayB_true hm
  have hmay := fun w => mayC po pass.length pc so sn sc ((rn : Int) + 1) w
  rw [hm] at hmay
  have hnew := fun w s => newM po pc pass w s (by omega)
  have d1 : decide ((n : Int) < 0) = false := by simp
  have d2 : decide (256 < (n : Int)) = false := by simp; omega
  obtain ⟨pn, hpn⟩ : ∃ n, n = pass.length := ⟨_, rfl⟩
  simp only [← hpn] at sp hmay hnew ⊢
  have hks : Hid ((keyB pass salt rn ((n + 31) / 32)).take n = keyS pass salt rn n) := Lib.hid rfl
  clear hm hpn m1
  go_enter Try.func58, Try.ntmps58
  go_wp2_with (go_at_call 86; refine hmay _ _ ?_)
  clear d1 d2 hmay
  refine hnew w sp _ ?_
  intro pk w2 hk g2 _
  clear hnew
  go_upto_block 0 with (fail)
  refine strKL pk pass so sn sc salt rn n w2 hk (s.grow g2) (by omega) hn (by omega) ?_
  intro ao l c w3 hl o3 g3 f3
  intros
  have hl' := hl.out
  have hnl : n ≤ l := by omega
  have G3 := g2.trans g3
  have hs2 := g2.size
  obtain ⟨xo, xc, hcut, sk, -⟩ := run_cut0 TBy o3.sl (n : Int) n rfl hnl
  rw [Nat.mul_one, ← List.map_take, hks.out] at sk
  have hcl := cloneB xo n xc _ w3 sk (by omega)
  clear hl hl' hk g2 g3 hks sk o3 f3
  go_wp2_with fail
  refine hcl _ ?_
  clear hcl
  intro bo d w4 o4 g4 f4
  have hf := hR bo d w4 o4 (G3.trans g4) (Fr.mono f4 G3.size)
  clear hR
  go_wp2_with fail
  exact hf
end Go.Proofs.Ytfmnkcmicbnfdaa
