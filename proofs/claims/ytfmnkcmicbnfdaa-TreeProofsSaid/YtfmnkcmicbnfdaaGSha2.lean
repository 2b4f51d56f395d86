/- sha.words. · Arrays of bytes, and of words, compared. · sha: (*Summer).mix. -/
import Derived.Test.YtfmnkcmicbnfdaaGSha1
import Derived.Stop.BytesEq

namespace Go.Proofs.Ytfmnkcmicbnfdaa
open Go Go.RowKit

def s0 (x : Nat) : Nat := rotr x 7 ^^^ rotr x 18 ^^^ (x / 8)
def s1 (x : Nat) : Nat := rotr x 17 ^^^ rotr x 19 ^^^ (x / 1024)
/-- Four bytes as a word. -/
def be (a b c d : Nat) : Nat := ((a * 16777216 ||| b * 65536) ||| c * 256) ||| d
theorem be_val (a b c d : Nat) (ha : a < 256) (hb : b < 256) (hc : c < 256) (hd : d < 256) :
    bits BinOp.or IntKind.u32 (bits BinOp.or IntKind.u32 (bits BinOp.or IntKind.u32 ((a : Int) * 16777216) ((b : Int) * 65536)) ((c : Int) * 256)) (d : Int) = ((be a b c d : Nat) : Int) := by
  have e1 : (a : Int) * 16777216 = ((a * 16777216 : Nat) : Int) := by simp
  have e2 : (b : Int) * 65536 = ((b * 65536 : Nat) : Int) := by simp
  have e3 : (c : Int) * 256 = ((c * 256 : Nat) : Int) := by simp
  have h1 : (a * 16777216 ||| b * 65536) < 2 ^ 32 := Nat.or_lt_two_pow (by omega) (by omega)
  have h2 : ((a * 16777216 ||| b * 65536) ||| c * 256) < 2 ^ 32 := Nat.or_lt_two_pow h1 (by omega)
  rw [e1, e2, e3, u32_or_nat _ _ (by omega) (by omega), u32_or_nat _ _ (by omega) (by omega), u32_or_nat _ _ (by omega) (by omega)]
  rfl
theorem xor3_val (a b c : Nat) (ha : a < 4294967296) (hb : b < 4294967296) (hc : c < 4294967296) :
    bits BinOp.xor IntKind.u32 (bits BinOp.xor IntKind.u32 (a : Int) (b : Int)) (c : Int) = ((a ^^^ b ^^^ c : Nat) : Int) := by
  have h1 : (a ^^^ b) < 2 ^ 32 := Nat.xor_lt_two_pow (by omega) (by omega)
  rw [u32_xor_nat _ _ ha hb, u32_xor_nat _ _ (by omega) hc]
/-- The next word. -/
def wNew (l : List UInt8) (W : List Nat) : Nat :=
  if W.length < 16 then be (l.getD (4 * W.length) 0).toNat (l.getD (4 * W.length + 1) 0).toNat (l.getD (4 * W.length + 2) 0).toNat (l.getD (4 * W.length + 3) 0).toNat
  else (W.getD (W.length - 16) 0 + s0 (W.getD (W.length - 15) 0) + W.getD (W.length - 7) 0 + s1 (W.getD (W.length - 2) 0)) % 4294967296
def wOf (l : List UInt8) : Nat → List Nat
  | 0 => []
  | k + 1 => wOf l k ++ [wNew l (wOf l k)]
theorem wOf_len (l : List UInt8) : ∀ k, (wOf l k).length = k
  | 0 => rfl
  | k + 1 => by simp [wOf, wOf_len l k]
theorem xor3_lt {a b c : Nat} (ha : a < 4294967296) (hb : b < 4294967296) (hc : c < 4294967296) : a ^^^ b ^^^ c < 4294967296 :=
  Nat.xor_lt_two_pow (n := 32) (Nat.xor_lt_two_pow (n := 32) ha hb) hc
theorem s0_lt {x : Nat} (h : x < 4294967296) : s0 x < 4294967296 := xor3_lt (rotr_lt _ _ h) (rotr_lt _ _ h) (Nat.lt_of_le_of_lt (Nat.div_le_self _ _) h)
theorem s1_lt {x : Nat} (h : x < 4294967296) : s1 x < 4294967296 := xor3_lt (rotr_lt _ _ h) (rotr_lt _ _ h) (Nat.lt_of_le_of_lt (Nat.div_le_self _ _) h)
theorem be_lt {a b c d : Nat} (ha : a < 256) (hb : b < 256) (hc : c < 256) (hd : d < 256) : be a b c d < 4294967296 :=
  Nat.or_lt_two_pow (n := 32) (Nat.or_lt_two_pow (n := 32) (Nat.or_lt_two_pow (n := 32) (by omega) (by omega)) (by omega)) (by omega)
theorem wNew_lt (l : List UInt8) (W : List Nat) : wNew l W < 4294967296 := by
  unfold wNew
  split
  · exact be_lt (UInt8.toNat_lt _) (UInt8.toNat_lt _) (UInt8.toNat_lt _) (UInt8.toNat_lt _)
  · exact Nat.mod_lt _ (by decide)
theorem wOf_lt (l : List UInt8) : ∀ k, ∀ x ∈ wOf l k, x < 4294967296
  | 0, x, h => by simp [wOf] at h
  | k + 1, x, h => by
    simp only [wOf, List.mem_append, List.mem_singleton] at h
    rcases h with h | h
    · exact wOf_lt l k x h
    · subst h; exact wNew_lt _ _

/-- Words as values; an array that is being filled. -/
def U (k : Nat) : Value := .int .u32 (k : Int)
def arr (W : List Nat) : List Value := W.map U ++ List.replicate (64 - W.length) (U 0)
theorem arr_at (W : List Nat) (j : Nat) (h : j < W.length) : (arr W)[j]? = some (U (W.getD j 0)) := by
  unfold arr
  rw [List.getElem?_append_left (by simpa using h)]
  simp [h]
theorem arr_next (W : List Nat) (x : Nat) (h : W.length < 64) : arr (W ++ [x]) = (arr W).set W.length (U x) := by
  unfold arr
  rw [List.set_append_right _ _ (by simp)]
  obtain ⟨k, hk⟩ : ∃ k, 64 - W.length = k + 1 := ⟨64 - W.length - 1, by omega⟩
  rw [List.map_append, List.length_append, hk, List.replicate_succ]
  simp only [List.length_map, Nat.sub_self, List.set_cons_zero, List.map_cons, List.map_nil, List.append_assoc, List.cons_append, List.nil_append, List.length_singleton]
  rw [show 64 - (W.length + 1) = k by omega]
/-- A result that is an array: it is read out of its cells. -/
theorem results_mid {P : Program} {fn : Func} {p : Tmp} {ty : TypeId} (h : fn.results = #[.cell p ty]) (tmps : Array Value) (w : World) (g : Nat) (cs : List Value) (d : TypeDesc)
    (hp : tmps.getD p undef = .pointer (some ⟨g, 0, none⟩)) (hc : w.rangeAt g 0 cs) (hu : P.underlying ty = some d) (hd : d.isRow = true) (hi : (P.info? ty).map (·.size) = some cs.length) :
    (results fn tmps).run P w = .ok (.agg cs.toArray) w := by
  have hp' : tmps[p]?.getD undef = .pointer (some ⟨g, 0, none⟩) := by simpa using hp
  simp [results, h, hp', asAddr, run_loadVar_mid w g 0 ty cs d hc hu hd hi]
theorem Keep.setCells (g : Nat) : ∀ (vs : List Value) (o : Nat) (w : World), Keep [g] w (w.setCells g o vs)
  | [], _, w => Keep.refl _ w
  | v :: r, o, w => (Keep.setCell (fp := [g]) w ⟨g, o, none⟩ (by simp) v).trans (Keep.setCells g r (o + 1) _)
/-- A store into a block of the call's own. -/
theorem own_put {w : World} {e : TypeId} {sz : Nat} {ao : Option Addr} {n cap : Nat} {xs : List Value} (h : Own w e sz ao n cap xs) {i : Nat} (hi : i < n * sz) :
    ∃ g v, ao = some ⟨g, 0, none⟩ ∧ w.cell? ⟨g, i, none⟩ = some v ∧ w.frozen? ⟨g, i, none⟩ = false ∧ ∀ u : Value, u.oneCell' = true → Own (w.setCell ⟨g, i, none⟩ u) e sz ao n cap (xs.set i u) := by
  obtain ⟨g, off, rfl, hc⟩ := h.sl.hat (by rcases Nat.eq_zero_or_pos n with h | h; subst h; simp at hi; exact h)
  have h0 : off = 0 := by
    rcases h.row.2 with ⟨hv, -⟩ | ⟨g', cap', cur, hv, -⟩
    · simp at hv
    · simp only [Value.slice.injEq, Option.some.injEq, Addr.mk.injEq, and_true] at hv
      exact hv.1.2
  subst h0
  have hl := h.row.1
  have := hc i (by omega)
  rw [Nat.zero_add] at this
  refine ⟨g, _, rfl, this, h.row.frozenAt i, fun u hu => ⟨(h.row.stored i u).1, fun v hv => ?_⟩⟩
  rcases List.mem_or_eq_of_mem_set hv with h' | h'
  · exact h.one v h'
  · exact h' ▸ hu
theorem put_next {w : World} {e : TypeId} {g : Nat} {W : List Nat} (o : Own w e 1 (some ⟨g, 0, none⟩) 64 64 (arr W)) (h : W.length < 64) (v : Int) (x : Nat) (hv : v = (x : Int)) :
    Own (w.setCell ⟨g, W.length, none⟩ (.int .u32 v)) e 1 (some ⟨g, 0, none⟩) 64 64 (arr (W ++ [x])) := by
  obtain ⟨g', u, e', -, -, hs⟩ := own_put o (i := W.length) (by omega)
  cases e'
  rw [arr_next W x h, hv]
  exact hs (U x) rfl

set_option maxRecDepth 100000 in
set_option maxHeartbeats 2000000 in
theorem wordsC (bo : Option Addr) (cap : Nat) (l : List UInt8) (hl : l.length = 64) (w : World) (s : Sl w 1 bo 64 cap (l.map B)) (R : Ending → World → Prop) (hR : ∀ w', Grow w w' → R (.returned (.agg ((wOf l 64).map U).toArray)) w') :
    Calls Try.prog 119 #[.slice bo 64 cap] w R := by
  have oz : Own (w.alloc (.cells (List.replicate 64 (U 0)).toArray 143)) 143 1 (some ⟨w.heap.size, 0, none⟩) 64 64 (arr []) := Own.made (n := 64) (heap_alloc_new w _) rfl (by decide) (by simp [U, Value.oneCell'])
  obtain ⟨bg, boff, e, hcs⟩ := s.hat (by omega)
  subst e
  have hbg : bg < w.heap.size := World.block_lt_of_cell? w _ (hcs 0 (by simp [hl]))
  obtain ⟨g, hg⟩ : ∃ g, g = w.heap.size := ⟨_, rfl⟩
  have gA := Grow.alloc w (.cells (List.replicate 64 (U 0)).toArray 143)
  go_enter Try.func119, Try.ntmps119
  go_wp2_with fail
  change Code.wp _ _ _ _ (w.alloc (.cells (List.replicate 64 (U 0)).toArray 143))
  generalize w.alloc (.cells (List.replicate 64 (U 0)).toArray 143) = w2 at *
  rw [← hg] at oz hbg ⊢
  have Hg := Lib.hid hg
  clear hg
  go_loopw [8] (fun a wr => ∃ i : Nat, a = .int .i64 (i : Int) ∧ i ≤ 64 ∧ Own wr 143 1 (some ⟨g, 0, none⟩) 64 64 (arr (wOf l i)) ∧ Keep [g] w2 wr) (fun a _ => 64 - (intOf a).toNat)
  case atStart => exact ⟨0, by simp, by omega, oz, Keep.refl _ _⟩
  case round =>
    obtain ⟨i, rfl, hi, oi, ki⟩ := hrel
    have hWl := wOf_len l i
    by_cases h64 : i < 64
    · by_cases h16 : i < 16
      · have hb := fun j (hj : j < 64) => KW.cell (fp := []) (p0 := tt) ((((hcs.keep (Keep.of_grow [] gA) (by simp)).keep ki (by simp; omega))).at (i := j) (v := .int .u8 ((l.getD j 0).toNat : Int)) (by simp [hl, hj, B])) (by simp)
        have b0 := hb (4 * i) (by omega)
        have b1 := hb (4 * i + 1) (by omega)
        have b2 := hb (4 * i + 2) (by omega)
        have b3 := hb (4 * i + 3) (by omega)
        have hwn : wNew l (wOf l i) = be (l.getD (4 * i) 0).toNat (l.getD (4 * i + 1) 0).toNat (l.getD (4 * i + 2) 0).toNat (l.getD (4 * i + 3) 0).toNat := by
          unfold wNew; rw [hWl, if_pos h16]
        have x0 : _ < 256 := UInt8.toNat_lt (l.getD (4 * i) 0)
        have x1 : _ < 256 := UInt8.toNat_lt (l.getD (4 * i + 1) 0)
        have x2 : _ < 256 := UInt8.toNat_lt (l.getD (4 * i + 2) 0)
        have x3 : _ < 256 := UInt8.toNat_lt (l.getD (4 * i + 3) 0)
        obtain ⟨y0, e0⟩ : ∃ y, y = (l.getD (4 * i) 0).toNat := ⟨_, rfl⟩
        obtain ⟨y1, e1⟩ : ∃ y, y = (l.getD (4 * i + 1) 0).toNat := ⟨_, rfl⟩
        obtain ⟨y2, e2⟩ : ∃ y, y = (l.getD (4 * i + 2) 0).toNat := ⟨_, rfl⟩
        obtain ⟨y3, e3⟩ : ∃ y, y = (l.getD (4 * i + 3) 0).toNat := ⟨_, rfl⟩
        rw [← e0] at b0 x0 hwn
        rw [← e1] at b1 x1 hwn
        rw [← e2] at b2 x2 hwn
        rw [← e3] at b3 x3 hwn
        have Hwn := Lib.hid hwn
        clear e0 e1 e2 e3 hb hwn
        go_wp2_with fail
        refine wp_region_R (segL wr) (by kernel_rfl) segL_drew ?_
        unfold segL segK segR
        repeat (first | (refine wpV_skp rfl rfl ?_; simp only [List.set_cons_succ, List.set_cons_zero]) | (refine wpV_look rfl rfl rfl rfl rfl (fun K hK => ?_); go_big_quiet_op; refine hK _ ?_; clear hK K))
        refine wpV_end0 rfl rfl (by kernel_rfl) (fun w4 hC hF => ?_)
        obtain ⟨⟨w4, hk4, -⟩, rfl⟩ := hC
        clear hF b0 b1 b2 b3
        have o4 := oi.keep hk4 (by simp)
        obtain ⟨g3, v, eg, hv, hfz, -⟩ := own_put o4 (i := i) (by omega)
        cases eg
        unfold yields
        go_simp
        simp only [yUpon]
        have hk2 := fun u : Value => (ki.trans (Keep.of_nil hk4)).trans (Keep.setCell (fp := [g]) w4 ⟨g, i, none⟩ (by simp) u)
        have hn := put_next o4 (by omega : (wOf l i).length < 64)
        rw [hWl] at hn
        clear hv hfz o4 oi
        go_wp2_with fail
        go_roundw
        case rel =>
          refine ⟨i + 1, by go_num, by omega, ?_, hk2 _⟩
          simp only [wOf]
          rw [Hwn.out]
          exact hn _ _ (be_val _ _ _ _ x0 x1 x2 x3)
        case measure => simp [intOf]; omega
      · have hWlt := wOf_lt l i
        obtain ⟨g', off', eg, hca⟩ := oi.sl.hat (by omega)
        cases eg
        have ha : ∀ j, j < i → ∀ n : KW [] tt wr, n.w.cell? ⟨g, j, none⟩ = some (.int .u32 (((wOf l i).getD j 0 : Nat) : Int)) := fun j hj => KW.cell (fp := []) (p0 := tt) (by have := hca.at (arr_at (wOf l i) j (by omega)); rwa [Nat.zero_add] at this) (by simp)
        have hlt : ∀ j, (wOf l i).getD j 0 < 4294967296 := fun j => by
          rw [List.getD_eq_getElem?_getD]
          by_cases h : j < (wOf l i).length
          · rw [List.getElem?_eq_getElem h]; exact hWlt _ (List.getElem_mem h)
          · rw [List.getElem?_eq_none (by omega)]; decide
        have a16 := ha (i - 16) (by omega)
        have a15 := ha (i - 15) (by omega)
        have a7 := ha (i - 7) (by omega)
        have a2 := ha (i - 2) (by omega)
        have l16 := hlt (i - 16)
        have l15 := hlt (i - 15)
        have l7 := hlt (i - 7)
        have l2 := hlt (i - 2)
        have hwn : wNew l (wOf l i) = ((wOf l i).getD (i - 16) 0 + s0 ((wOf l i).getD (i - 15) 0) + (wOf l i).getD (i - 7) 0 + s1 ((wOf l i).getD (i - 2) 0)) % 4294967296 := by
          unfold wNew; rw [hWl, if_neg h16]
        obtain ⟨y16, e0⟩ : ∃ y, y = (wOf l i).getD (i - 16) 0 := ⟨_, rfl⟩
        obtain ⟨y15, e1⟩ : ∃ y, y = (wOf l i).getD (i - 15) 0 := ⟨_, rfl⟩
        obtain ⟨y7, e2⟩ : ∃ y, y = (wOf l i).getD (i - 7) 0 := ⟨_, rfl⟩
        obtain ⟨y2, e3⟩ : ∃ y, y = (wOf l i).getD (i - 2) 0 := ⟨_, rfl⟩
        rw [← e0] at a16 l16 hwn
        rw [← e1] at a15 l15 hwn
        rw [← e2] at a7 l7 hwn
        rw [← e3] at a2 l2 hwn
        have Hwn := Lib.hid hwn
        clear e0 e1 e2 e3 ha hlt hwn hca hWlt
        have r1 := rotC y15 7 l15 (by decide)
        have r2 := rotC y15 18 l15 (by decide)
        have r3 := rotC y2 17 l2 (by decide)
        have r4 := rotC y2 19 l2 (by decide)
        have q1 := rotr_lt y15 7 l15
        have q2 := rotr_lt y15 18 l15
        have q3 := rotr_lt y2 17 l2
        have q4 := rotr_lt y2 19 l2
        have v0 : bits BinOp.xor IntKind.u32 (bits BinOp.xor IntKind.u32 ((rotr y15 7 : Nat) : Int) ((rotr y15 18 : Nat) : Int)) ((y15 : Int) / 8) = ((s0 y15 : Nat) : Int) := by
          rw [show (y15 : Int) / 8 = ((y15 / 8 : Nat) : Int) by simp, xor3_val _ _ _ q1 q2 (by omega)]; rfl
        have v1 : bits BinOp.xor IntKind.u32 (bits BinOp.xor IntKind.u32 ((rotr y2 17 : Nat) : Int) ((rotr y2 19 : Nat) : Int)) ((y2 : Int) / 1024) = ((s1 y2 : Nat) : Int) := by
          rw [show (y2 : Int) / 1024 = ((y2 / 1024 : Nat) : Int) by simp, xor3_val _ _ _ q3 q4 (by omega)]; rfl
        have t0 := s0_lt l15
        have t1 := s1_lt l2
        go_wp2_with fail
        refine wp_region_R (segL wr) (by kernel_rfl) segL_drew ?_
        unfold segL segK segR
        repeat (first | (refine wpV_skp rfl rfl ?_; simp only [List.set_cons_succ, List.set_cons_zero]) | (refine wpV_look rfl rfl rfl rfl rfl (fun K hK => ?_); go_big_quiet_op; refine hK _ ?_; clear hK K))
        refine wpV_nil ?_
        intro w3 hC _
        obtain ⟨⟨w3, hk3, -⟩, rfl⟩ := hC
        have o3 := oi.keep hk3 (by simp)
        have k3 := ki.trans (Keep.of_nil hk3)
        have c16 : w3.cell? _ = _ := a16 ⟨w3, hk3, trivial⟩
        have c7 : w3.cell? _ = _ := a7 ⟨w3, hk3, trivial⟩
        have d16 := KW.cell (fp := []) (p0 := tt) c16 (by simp)
        have d7 := KW.cell (fp := []) (p0 := tt) c7 (by simp)
        clear a16 a15 a7 a2 oi ki c16 c7
        go_wp2_with fail
        refine r1 _ _ ?_
        go_wp2_with fail
        refine r2 _ _ ?_
        go_wp2_with fail
        refine r3 _ _ ?_
        go_wp2_with fail
        refine r4 _ _ ?_
        go_wp2_with fail
        refine wp_region_R (segL w3) (by kernel_rfl) segL_drew ?_
        unfold segL segK segR
        repeat (first | (refine wpV_skp rfl rfl ?_; simp only [List.set_cons_succ, List.set_cons_zero]) | (refine wpV_look rfl rfl rfl rfl rfl (fun K hK => ?_); go_big_quiet_op; refine hK _ ?_; clear hK K))
        refine wpV_end0 rfl rfl (by kernel_rfl) (fun w4 hC hF => ?_)
        obtain ⟨⟨w4, hk4, -⟩, rfl⟩ := hC
        clear hF d16 d7
        have o4 := o3.keep hk4 (by simp)
        obtain ⟨g3, v, eg, hv, hfz, -⟩ := own_put o4 (i := i) (by omega)
        cases eg
        unfold yields
        go_simp
        simp only [yUpon]
        have hk2 := fun u : Value => (k3.trans (Keep.of_nil hk4)).trans (Keep.setCell (fp := [g]) w4 ⟨g, i, none⟩ (by simp) u)
        have hn := put_next o4 (by omega : (wOf l i).length < 64)
        rw [hWl] at hn
        clear hv hfz o4 o3
        go_wp2_with fail
        go_roundw
        case rel =>
          refine ⟨i + 1, by go_num, by omega, ?_, hk2 _⟩
          simp only [wOf]
          rw [Hwn.out]
          exact hn _ _ (by omega)
        case measure => simp [intOf]; omega
    · obtain rfl : i = 64 := by omega
      rw [show arr (wOf l 64) = (wOf l 64).map U by unfold arr; rw [hWl]; simp] at oi
      obtain ⟨g', off', eg, hca⟩ := oi.sl.hat (by omega)
      cases eg
      have hrg : wr.rangeAt g 0 ((wOf l 64).map U) := fun j v hj => hca.at hj
      have hth : wr.there g 0 ((wOf l 64).map U).toArray.size := fun j hj => by
        have hj' : j < 64 := by simpa [hWl] using hj
        obtain ⟨g3, v, eg, hv, hfz, -⟩ := own_put oi (i := j) (by omega)
        cases eg
        rw [Nat.zero_add]
        exact ⟨by rw [hv]; rfl, hfz⟩
      have hsz : (Try.prog.info? 143).map (·.size) = some ((wOf l 64).map U).length := by rw [List.length_map, hWl]; kernel_rfl
      have hall : ((wOf l 64).map U).toArray.all (·.oneCell') = true := by
        rw [Array.all_eq_true_iff_forall_mem]
        intro v hv
        obtain ⟨x, -, rfl⟩ := List.mem_map.1 (by simpa using hv)
        rfl
      go_wp2_with (first | refine wpList_load_mid rfl 143 _ rfl g 0 rfl ((wOf l 64).map U) _ hrg Try.underlying143 rfl hsz ?_ | refine wpList_store_mid rfl 143 _ _ rfl g 0 ((wOf l 64).map U).toArray rfl rfl hth (by simpa using hsz) hall ?_)
      have hrg2 : (wr.setCells g 0 ((wOf l 64).map U)).rangeAt g 0 ((wOf l 64).map U) := World.rangeAt_setCells_same _ _ _ _ (by simpa using hth)
      have kk := (ki.trans (Keep.setCells g ((wOf l 64).map U) 0 wr))
      have gg := gA.then kk (fun x hx => by simp at hx; have := Hg.out; omega)
      refine bodyPost_ret (v := .agg ((wOf l 64).map U).toArray) (results_mid Try.results119 _ _ g _ _ rfl hrg2 Try.underlying143 rfl hsz) rfl (hR _ gg)
end Go.Proofs.Ytfmnkcmicbnfdaa

namespace Go.Proofs.Ytfmnkcmicbnfdaa
open Go Go.RowKit

theorem all_range_eqN : ∀ (xs ys : List Nat), xs.length = ys.length → ((List.range xs.length).all fun i => xs.getD i 0 == ys.getD i 0) = (xs == ys)
  | [], [], _ => rfl
  | x :: xs, y :: ys, h => by
    have ih := all_range_eqN xs ys (by simpa using h)
    rw [List.length_cons, List.range_succ_eq_map, List.all_cons, List.all_map]
    simp only [List.getD_cons_zero, Function.comp_def, List.getD_cons_succ, ih]
    simp [List.cons_beq_cons]
  | [], _ :: _, h => by simp at h
  | _ :: _, [], h => by simp at h
/-- Arrays of words. -/
theorem run_equalIn_words {P : Program} (w : World) (d : Nat) (t e : TypeId) (n : Nat) (ht : P.underlying t = some (.array n e)) (he : P.underlying e = some (.int .u32)) (hsz : ∀ w, (sizeOf e).run P w = .ok 1 w)
    (xs ys : List Nat) (hx : xs.length = n) (hy : ys.length = n) :
    (Op.equalIn (d + 2) t (.agg (xs.map U).toArray) (.agg (ys.map U).toArray)).run P w = .ok (xs == ys) w := by
  rw [← all_range_eqN xs ys (hx.trans hy.symm), hx, List.range_eq_range', Op.equalIn]
  simp only [Sem.run_bind, run_underlying ht, Result.andThen_ok, hsz, Std.Legacy.Range.forIn_eq_forIn_range', Std.Legacy.Range.size, Nat.sub_zero, Nat.add_sub_cancel, Nat.div_one]
  have hl : ∀ i ∈ List.range' 0 n 1, i < n := fun i hi => by simpa using (List.mem_range'_1.1 hi).2
  generalize List.range' 0 n 1 = l at hl ⊢
  induction l with
  | nil => simp
  | cons i l ih =>
    have hi : i < n := hl i (by simp)
    have px : (part e (xs.map U).toArray (i * 1)).run P w = .ok (U (xs.getD i 0)) w := by
      simp [part, isAgg, run_underlying he, List.getD, List.getElem?_eq_getElem (show i < xs.length by omega)]
    have py : (part e (ys.map U).toArray (i * 1)).run P w = .ok (U (ys.getD i 0)) w := by
      simp [part, isAgg, run_underlying he, List.getD, List.getElem?_eq_getElem (show i < ys.length by omega)]
    have pe : (Op.equalIn (d + 1) e (U (xs.getD i 0)) (U (ys.getD i 0))).run P w = .ok (xs.getD i 0 == ys.getD i 0) w := by
      rw [U, U, run_equalIn_int w d e .u32 .u32 _ _ he]
      congr 1
      rw [Bool.eq_iff_iff]
      simp
      omega
    simp only [List.forIn_cons, Sem.run_bind, px, py, pe, Result.andThen_ok, List.all_cons]
    cases hb : (xs.getD i 0 == ys.getD i 0)
    · simp
    · simp only [Bool.not_true, Bool.false_eq_true, if_false, Sem.run_pure, Result.andThen_ok, Bool.true_and]
      exact ih fun j hj => hl j (by simp [hj])
theorem sizeOf_of {P : Program} {e : TypeId} {n : Nat} (h : (P.info? e).map (·.size) = some n) (w : World) : (sizeOf e).run P w = .ok n w := by
  cases hq : P.info? e with
  | none => rw [hq] at h; cases h
  | some i =>
    have : i.size = n := by rw [hq] at h; simpa using h
    simp [sizeOf, typeInfo, hq, this]
/-- Sums compared. -/
theorem eq_hash (xs ys : List UInt8) (hx : xs.length = 32) (hy : ys.length = 32) (w : World) : (Op.equalIn 10000 123 (.agg (xs.map B).toArray) (.agg (ys.map B).toArray)).run Try.prog w = .ok (xs == ys) w :=
  run_equalIn_bytes w 9998 123 5 32 Try.underlying123 Try.underlying5 (sizeOf_of (by kernel_rfl)) xs ys hx hy
end Go.Proofs.Ytfmnkcmicbnfdaa

namespace Go.Proofs.Ytfmnkcmicbnfdaa
open Go Go.RowKit

def S1 (e : Nat) : Nat := rotr e 6 ^^^ rotr e 11 ^^^ rotr e 25
def S0 (a : Nat) : Nat := rotr a 2 ^^^ rotr a 13 ^^^ rotr a 22
def ch (e f g : Nat) : Nat := (e &&& f) ^^^ ((4294967295 - e) &&& g)
def mj (a b c : Nat) : Nat := (a &&& b) ^^^ (a &&& c) ^^^ (b &&& c)
theorem S1_lt {x : Nat} (h : x < 4294967296) : S1 x < 4294967296 := xor3_lt (rotr_lt _ _ h) (rotr_lt _ _ h) (rotr_lt _ _ h)
theorem S0_lt {x : Nat} (h : x < 4294967296) : S0 x < 4294967296 := xor3_lt (rotr_lt _ _ h) (rotr_lt _ _ h) (rotr_lt _ _ h)
theorem and_lt32 {a b : Nat} (h : a < 4294967296) : a &&& b < 4294967296 := Nat.lt_of_le_of_lt Nat.and_le_left h
theorem ch_lt {e f g : Nat} (h : e < 4294967296) : ch e f g < 4294967296 := Nat.xor_lt_two_pow (n := 32) (and_lt32 h) (and_lt32 (by omega))
theorem mj_lt {a b c : Nat} (h : a < 4294967296) (h2 : b < 4294967296) : mj a b c < 4294967296 := xor3_lt (and_lt32 h) (and_lt32 h) (and_lt32 h2)
theorem mj_val (a b c : Nat) (ha : a < 4294967296) (hb : b < 4294967296) (hc : c < 4294967296) :
    bits BinOp.xor IntKind.u32 (bits BinOp.xor IntKind.u32 (bits BinOp.and IntKind.u32 (a : Int) (b : Int)) (bits BinOp.and IntKind.u32 (a : Int) (c : Int))) (bits BinOp.and IntKind.u32 (b : Int) (c : Int)) = ((mj a b c : Nat) : Int) := by
  rw [u32_and_nat _ _ ha hb, u32_and_nat _ _ ha hc, u32_and_nat _ _ hb hc, xor3_val _ _ _ (and_lt32 ha) (and_lt32 ha) (and_lt32 hb)]
  rfl
theorem ch_val (e f g : Nat) (he : e < 4294967296) (hf : f < 4294967296) (hg : g < 4294967296) :
    bits BinOp.xor IntKind.u32 (bits BinOp.and IntKind.u32 (e : Int) (f : Int)) (bits BinOp.and IntKind.u32 ((4294967295 - e : Nat) : Int) (g : Int)) = ((ch e f g : Nat) : Int) := by
  rw [u32_and_nat _ _ he hf, u32_and_nat _ _ (by omega) hg, u32_xor_nat _ _ (and_lt32 he) (and_lt32 (by omega))]
  rfl

theorem not_val (e : Nat) (he : e < 4294967296) : bits BinOp.xor IntKind.u32 (if IntKind.u32.signed = true then -1 else IntKind.u32.max) (e : Int) = ((4294967295 - e : Nat) : Int) := by
  rw [show (if IntKind.u32.signed = true then (-1 : Int) else IntKind.u32.max) = ((4294967295 : Nat) : Int) from rfl, u32_xor_nat _ _ (by decide) he]
  congr 1
  refine Nat.eq_of_testBit_eq fun i => ?_
  rw [show 4294967295 - e = 2 ^ 32 - (e + 1) by omega, Nat.testBit_two_pow_sub_succ he, Nat.testBit_xor, show 4294967295 = 2 ^ 32 - 1 by decide, Nat.testBit_two_pow_sub_one]
  by_cases h : i < 32
  · simp [h]
  · have : e.testBit i = false := Nat.testBit_lt_two_pow (Nat.lt_of_lt_of_le he (Nat.pow_le_pow_right (n := 2) (by omega) (by omega : 32 ≤ i)))
    simp [h, this]

/-- The eight words. -/
structure St where
  a : Nat
  b : Nat
  c : Nat
  d : Nat
  e : Nat
  f : Nat
  g : Nat
  h : Nat
def rd (K W : Nat) (s : St) : St :=
  ⟨((s.h + S1 s.e + ch s.e s.f s.g + K + W) % 4294967296 + (S0 s.a + mj s.a s.b s.c) % 4294967296) % 4294967296, s.a, s.b, s.c, (s.d + (s.h + S1 s.e + ch s.e s.f s.g + K + W) % 4294967296) % 4294967296, s.e, s.f, s.g⟩
def rds (K W : List Nat) (s : St) : Nat → St
  | 0 => s
  | i + 1 => rd (K.getD i 0) (W.getD i 0) (rds K W s i)
def St.ok (s : St) : Prop := s.a < 4294967296 ∧ s.b < 4294967296 ∧ s.c < 4294967296 ∧ s.d < 4294967296 ∧ s.e < 4294967296 ∧ s.f < 4294967296 ∧ s.g < 4294967296 ∧ s.h < 4294967296
theorem rds_ok (K W : List Nat) (s : St) (h : s.ok) : ∀ i, (rds K W s i).ok
  | 0 => h
  | i + 1 => by
    obtain ⟨h1, h2, h3, h4, h5, h6, h7, h8⟩ := rds_ok K W s h i
    exact ⟨Nat.mod_lt _ (by decide), h1, h2, h3, Nat.mod_lt _ (by decide), h5, h6, h7⟩
def St.list (s : St) : List Nat := [s.a, s.b, s.c, s.d, s.e, s.f, s.g, s.h]
def St.add (s t : St) : St := ⟨(s.a + t.a) % 4294967296, (s.b + t.b) % 4294967296, (s.c + t.c) % 4294967296, (s.d + t.d) % 4294967296, (s.e + t.e) % 4294967296, (s.f + t.f) % 4294967296, (s.g + t.g) % 4294967296, (s.h + t.h) % 4294967296⟩
/-- A block mixed in. -/
def mixS (K : List Nat) (s : St) (l : List UInt8) : St := s.add (rds K (wOf l 64) s 64)

/-- The first j of eight sums. -/
def addN (A X : List Nat) (j : Nat) : List Nat := (List.range 8).map fun i => if i < j then (A.getD i 0 + X.getD i 0) % 4294967296 else A.getD i 0
theorem addN_len (A X : List Nat) (j : Nat) : (addN A X j).length = 8 := by simp [addN]
theorem addN_at (A X : List Nat) (j i : Nat) (h : i < 8) : ((addN A X j).map U)[i]? = some (U (if i < j then (A.getD i 0 + X.getD i 0) % 4294967296 else A.getD i 0)) := by
  simp [addN, h]
theorem addN_succ (A X : List Nat) (j : Nat) (h : j < 8) : (addN A X (j + 1)).map U = ((addN A X j).map U).set j (U ((A.getD j 0 + X.getD j 0) % 4294967296)) := by
  refine List.ext_getElem? fun i => ?_
  by_cases hi : i < 8
  · rw [addN_at _ _ _ _ hi, List.getElem?_set]
    by_cases e : j = i
    · subst e; rw [if_pos rfl, if_pos (by omega), if_pos (by rw [List.length_map, addN_len]; exact h)]
    · rw [if_neg e, addN_at _ _ _ _ hi]
      by_cases h2 : i < j
      · rw [if_pos h2, if_pos (by omega)]
      · rw [if_neg h2, if_neg (by omega)]
  · rw [List.getElem?_eq_none (by simp [addN_len]; omega), List.getElem?_eq_none (by simp [addN_len]; omega)]
/-- A summer: what it begins with, and what its rounds add. -/
def Sm (w : World) (p : Nat) (H K : List Nat) : Prop := Cells w p 0 ((H ++ K).map U) ∧ H.length = 8 ∧ K.length = 64 ∧ (∀ x ∈ K, x < 4294967296)

set_option maxRecDepth 100000 in
set_option maxHeartbeats 4000000 in
theorem mixC (p : Nat) (H K : List Nat) (s : St) (hs : s.ok) (bo : Option Addr) (cap : Nat) (l : List UInt8) (hl : l.length = 64) (w : World) (sm : Sm w p H K) (sl : Sl w 1 bo 64 cap (l.map B)) (R : Ending → World → Prop) (hR : ∀ w', Grow w w' → R (.returned (.agg ((mixS K s l).list.map U).toArray)) w') :
    Calls Try.prog 112 #[.pointer (some ⟨p, 0, none⟩), .agg (s.list.map U).toArray, .slice bo 64 cap] w R := by
  obtain ⟨a, b, c, d, e, f, g, h⟩ := s
  obtain ⟨h1, h2, h3, h4, h5, h6, h7, h8⟩ := hs
  simp only at h1 h2 h3 h4 h5 h6 h7 h8
  simp only [mixS] at hR
  simp only [St.list, List.map_cons, List.map_nil, U]
  have hwc := wordsC bo cap l hl
  have hWl := wOf_len l 64
  have hWlt := wOf_lt l 64
  obtain ⟨Wl, hWe⟩ : ∃ x, x = wOf l 64 := ⟨_, rfl⟩
  rw [← hWe] at hR hWl hWlt
  simp only [← hWe] at hwc
  clear hWe
  have oh : Own (w.alloc (.cells ([a, b, c, d, e, f, g, h].map U).toArray 141)) 141 1 (some ⟨w.heap.size, 0, none⟩) 8 8 ([a, b, c, d, e, f, g, h].map U) := Own.made (n := 8) (heap_alloc_new w _) rfl (by decide) (by simp [U, Value.oneCell'])
  have oh1 := oh.grow (Grow.alloc _ (.cells (List.replicate 8 (U 0)).toArray 141))
  have oz : Own ((w.alloc (.cells ([a, b, c, d, e, f, g, h].map U).toArray 141)).alloc (.cells (List.replicate 8 (U 0)).toArray 141)) 141 1 (some ⟨w.heap.size + 1, 0, none⟩) 8 8 (List.replicate 8 (U 0)) := by
    have := Own.made (n := 8) (sz := 1) (heap_alloc_new (w.alloc (.cells ([a, b, c, d, e, f, g, h].map U).toArray 141)) (.cells (List.replicate 8 (U 0)).toArray 141)) rfl (by decide) (by simp [U, Value.oneCell'])
    rwa [show (w.alloc (.cells ([a, b, c, d, e, f, g, h].map U).toArray 141)).heap.size = w.heap.size + 1 from Array.size_push _] at this
  have g1 : Grow w ((w.alloc (.cells ([a, b, c, d, e, f, g, h].map U).toArray 141)).alloc (.cells (List.replicate 8 (U 0)).toArray 141)) := (Grow.alloc w _).trans (Grow.alloc _ _)
  have hsz1 : ((w.alloc (.cells ([a, b, c, d, e, f, g, h].map U).toArray 141)).alloc (.cells (List.replicate 8 (U 0)).toArray 141)).heap.size = w.heap.size + 2 := by
    rw [show ∀ (w' : World) (o : Obj), (w'.alloc o).heap.size = w'.heap.size + 1 from fun w' o => Array.size_push _, show ∀ (w' : World) (o : Obj), (w'.alloc o).heap.size = w'.heap.size + 1 from fun w' o => Array.size_push _]
  obtain ⟨q, hq⟩ : ∃ q, q = w.heap.size := ⟨_, rfl⟩
  have hpq : p < w.heap.size := World.block_lt_of_cell? w _ (sm.1 0 (by simp [sm.2.1]; omega))
  clear oh
  go_enter Try.func112, Try.ntmps112
  go_wp2_with fail
  change Calls _ _ _ ((w.alloc (.cells ([a, b, c, d, e, f, g, h].map U).toArray 141)).alloc (.cells (List.replicate 8 (U 0)).toArray 141)) _
  generalize ((w.alloc (.cells ([a, b, c, d, e, f, g, h].map U).toArray 141)).alloc (.cells (List.replicate 8 (U 0)).toArray 141)) = w1 at *
  rw [← hq] at oh1 oz hpq hsz1 ⊢
  have Hq := Lib.hid hq
  clear hq
  refine hwc w1 (sl.grow g1) _ ?_
  intro w2 g2
  have oh2 := oh1.grow g2
  have oz2 := oz.grow g2
  have z2 := g2.size
  have o7 : Own (w2.alloc (.cells (List.replicate 64 (U 0)).toArray 143)) 143 1 (some ⟨w2.heap.size, 0, none⟩) 64 64 (List.replicate 64 (U 0)) := Own.made (n := 64) (heap_alloc_new w2 _) rfl (by decide) (by simp [U, Value.oneCell'])
  have hth : (w2.alloc (.cells (List.replicate 64 (U 0)).toArray 143)).there w2.heap.size 0 (Wl.map U).toArray.size := fun j hj => by
    have hj' : j < 64 := by simpa [hWl] using hj
    obtain ⟨g3, v, eg, hv, hfz, -⟩ := own_put o7 (i := j) (by omega)
    cases eg
    rw [Nat.zero_add]
    exact ⟨by rw [hv]; rfl, hfz⟩
  have hsz : (Try.prog.info? 143).map (·.size) = some (Wl.map U).length := by rw [List.length_map, hWl]; kernel_rfl
  have hall : (Wl.map U).toArray.all (·.oneCell') = true := by
    rw [Array.all_eq_true_iff_forall_mem]
    intro v hv
    obtain ⟨x, -, rfl⟩ := List.mem_map.1 (by simpa using hv)
    rfl
  have crg := World.rangeAt_setCells_same (w2.alloc (.cells (List.replicate 64 (U 0)).toArray 143)) w2.heap.size 0 (Wl.map U) (by simpa using hth)
  have kk : Keep [w2.heap.size] w2 ((w2.alloc (.cells (List.replicate 64 (U 0)).toArray 143)).setCells w2.heap.size 0 (Wl.map U)) := (Keep.alloc _ w2 _).trans (Keep.setCells _ _ _ _)
  have gk : Grow w2 ((w2.alloc (.cells (List.replicate 64 (U 0)).toArray 143)).setCells w2.heap.size 0 (Wl.map U)) := (Grow.refl w2).then kk (fun x hx => by simp at hx; omega)
  go_wp2_with (refine wpList_store_mid rfl 143 _ _ rfl w2.heap.size 0 (Wl.map U).toArray rfl rfl hth (by simpa using hsz) hall ?_)
  change Code.wp _ _ _ _ ((w2.alloc (.cells (List.replicate 64 (U 0)).toArray 143)).setCells w2.heap.size 0 (Wl.map U))
  generalize ((w2.alloc (.cells (List.replicate 64 (U 0)).toArray 143)).setCells w2.heap.size 0 (Wl.map U)) = w3 at *
  obtain ⟨q7, hq7⟩ : ∃ q7, q7 = w2.heap.size := ⟨_, rfl⟩
  rw [← hq7] at crg kk z2 ⊢
  have oh3 := oh2.grow gk
  have oz3 := oz2.grow gk
  have g3 := (g1.trans g2).trans gk
  have sm3 : Cells w3 p 0 ((H ++ K).map U) := sm.1.keep (Keep.of_grow [] g3) (by simp)
  have cU : ∀ j (hj : j < 8), w3.cell? ⟨q, j, none⟩ = some (([a, b, c, d, e, f, g, h].map U)[j]'(by simpa using hj)) := fun j hj => by
    obtain ⟨g', off', eg, hca⟩ := oh3.sl.hat (by omega)
    cases eg
    have := hca j (by simpa using hj)
    rwa [Nat.zero_add] at this
  have e0 := KW.cell (fp := []) (p0 := tt) (cU 0 (by omega)) (by simp)
  have e1 := KW.cell (fp := []) (p0 := tt) (cU 1 (by omega)) (by simp)
  have e2 := KW.cell (fp := []) (p0 := tt) (cU 2 (by omega)) (by simp)
  have e3 := KW.cell (fp := []) (p0 := tt) (cU 3 (by omega)) (by simp)
  have e4 := KW.cell (fp := []) (p0 := tt) (cU 4 (by omega)) (by simp)
  have e5 := KW.cell (fp := []) (p0 := tt) (cU 5 (by omega)) (by simp)
  have e6 := KW.cell (fp := []) (p0 := tt) (cU 6 (by omega)) (by simp)
  have e7 := KW.cell (fp := []) (p0 := tt) (cU 7 (by omega)) (by simp)
  simp only [List.map_cons, List.map_nil, List.getElem_cons_zero, List.getElem_cons_succ, U] at e0 e1 e2 e3 e4 e5 e6 e7
  simp only [Act.put]
  clear hth kk hq7 cU oh1 oh2 oz oz2 o7 gk
  refine wp_region_R (segL w3) (by kernel_rfl) segL_drew ?_
  unfold segL segK segR
  repeat (first | (refine wpV_skp rfl rfl ?_; simp only [List.set_cons_succ, List.set_cons_zero]) | (refine wpV_look rfl rfl rfl rfl rfl (fun K hK => ?_); go_big_quiet_op; refine hK _ ?_; clear hK K))
  refine wpV_nil ?_
  intro w4 hC _
  obtain ⟨⟨w4, hk4, -⟩, rfl⟩ := hC
  have sm4 := sm3.keep hk4 (by simp)
  have crg4 : Cells w4 q7 0 (Wl.map U) := Cells.keep (fun i hi => by have := crg i _ (List.getElem?_eq_getElem hi); exact this) hk4 (by simp)
  have oh4 := oh3.keep hk4 (by simp)
  have oz4 := oz3.keep hk4 (by simp)
  have g4 := g3.trans hk4.grow
  clear e0 e1 e2 e3 e4 e5 e6 e7 sm3 crg oh3 oz3 g3
  go_wp2_with fail
  have hs0 : St.ok ⟨a, b, c, d, e, f, g, h⟩ := ⟨h1, h2, h3, h4, h5, h6, h7, h8⟩
  clear hwc
  go_loopw [8, 9, 10, 11, 12, 13, 14, 15, 41] (fun va vb vc vd ve vf vg vh vk wr => ∃ (k : Nat) (s : St), rds K Wl ⟨a, b, c, d, e, f, g, h⟩ k = s ∧ va = U s.a ∧ vb = U s.b ∧ vc = U s.c ∧ vd = U s.d ∧ ve = U s.e ∧ vf = U s.f ∧ vg = U s.g ∧ vh = U s.h ∧ vk = .int .i64 (k : Int) ∧ k ≤ 64 ∧ s.ok ∧ Grow w4 wr) (fun _ _ _ _ _ _ _ _ vk _ => 64 - (intOf vk).toNat)
  case atStart => exact ⟨0, ⟨a, b, c, d, e, f, g, h⟩, rfl, rfl, rfl, rfl, rfl, rfl, rfl, rfl, rfl, by simp, by omega, hs0, Grow.refl _⟩
  case round =>
    obtain ⟨k, s, hrd, rfl, rfl, rfl, rfl, rfl, rfl, rfl, rfl, rfl, hk, hok, hg⟩ := hrel
    by_cases h64 : k < 64
    · obtain ⟨sa, sb, sc, sd, se, sf, sg, sh⟩ := s
      obtain ⟨i1, i2, i3, i4, i5, i6, i7, i8⟩ := hok
      simp only at i1 i2 i3 i4 i5 i6 i7 i8
      simp only [U]
      have hkl : k < K.length := by rw [sm.2.2.1]; exact h64
      have cK : wr.cell? ⟨p, 8 + k, none⟩ = some (.int .u32 ((K.getD k 0 : Nat) : Int)) := by
        have := hg.cell (sm4.at (i := 8 + k) (v := U (K.getD k 0)) (by rw [List.map_append, List.getElem?_append_right (by simp [sm.2.1])]; simp [sm.2.1, hkl]))
        rwa [Nat.zero_add] at this
      have cW : wr.cell? ⟨q7, k, none⟩ = some (.int .u32 ((Wl.getD k 0 : Nat) : Int)) := by
        have := hg.cell (crg4.at (i := k) (v := U (Wl.getD k 0)) (by simp [hWl, h64]))
        rwa [Nat.zero_add] at this
      have hKk : K.getD k 0 < 4294967296 := by
        rw [List.getD_eq_getElem?_getD, List.getElem?_eq_getElem hkl]; exact sm.2.2.2 _ (List.getElem_mem hkl)
      have hWk : Wl.getD k 0 < 4294967296 := by
        rw [List.getD_eq_getElem?_getD, List.getElem?_eq_getElem (by omega)]; exact hWlt _ (List.getElem_mem (by omega))
      have hnext : rds K Wl ⟨a, b, c, d, e, f, g, h⟩ (k + 1) = rd (K.getD k 0) (Wl.getD k 0) ⟨sa, sb, sc, sd, se, sf, sg, sh⟩ := by rw [rds, hrd]
      obtain ⟨Kk, eK⟩ : ∃ x, x = K.getD k 0 := ⟨_, rfl⟩
      obtain ⟨Wk, eW⟩ : ∃ x, x = Wl.getD k 0 := ⟨_, rfl⟩
      rw [← eK] at cK hKk hnext
      rw [← eW] at cW hWk hnext
      have Hn := Lib.hid hnext
      have eK1 := KW.cell (fp := []) (p0 := tt) cK (by simp)
      have eW1 := KW.cell (fp := []) (p0 := tt) cW (by simp)
      clear eK eW hrd hnext cK cW
      have r1 := rotC se 6 i5 (by decide)
      have r2 := rotC se 11 i5 (by decide)
      have r3 := rotC se 25 i5 (by decide)
      have r4 := rotC sa 2 i1 (by decide)
      have r5 := rotC sa 13 i1 (by decide)
      have r6 := rotC sa 22 i1 (by decide)
      have v1 := xor3_val _ _ _ (rotr_lt se 6 i5) (rotr_lt se 11 i5) (rotr_lt se 25 i5)
      have v0 := xor3_val _ _ _ (rotr_lt sa 2 i1) (rotr_lt sa 13 i1) (rotr_lt sa 22 i1)
      rw [show rotr se 6 ^^^ rotr se 11 ^^^ rotr se 25 = S1 se from rfl] at v1
      rw [show rotr sa 2 ^^^ rotr sa 13 ^^^ rotr sa 22 = S0 sa from rfl] at v0
      have vc := ch_val se sf sg i5 i6 i7
      have vm := mj_val sa sb sc i1 i2 i3
      have t1 := S1_lt i5
      have t0 := S0_lt i1
      have tc := ch_lt (f := sf) (g := sg) i5
      have tm := mj_lt (c := sc) i1 i2
      go_wp2_with fail
      refine r1 _ _ ?_
      go_wp2_with fail
      refine r2 _ _ ?_
      go_wp2_with fail
      refine r3 _ _ ?_
      go_wp2_with fail
      refine wp_region_R (segL wr) (by kernel_rfl) segL_drew ?_
      unfold segL segK segR
      repeat (first | (refine wpV_skp rfl rfl ?_; simp only [List.set_cons_succ, List.set_cons_zero]) | (refine wpV_look rfl rfl rfl rfl rfl (fun K hK => ?_); go_big_quiet_op; refine hK _ ?_; clear hK K))
      refine wpV_nil ?_
      intro w5 hC _
      obtain ⟨⟨w5, hk5, -⟩, rfl⟩ := hC
      have g5 := hg.trans hk5.grow
      obtain ⟨T1, hT1⟩ : ∃ x, x = (sh + S1 se + ch se sf sg + Kk + Wk) % 4294967296 := ⟨_, rfl⟩
      have hT1l : T1 < 4294967296 := by rw [hT1]; exact Nat.mod_lt _ (by decide)
      have ev : ((((sh : Int) + (S1 se : Nat) + (ch se sf sg : Nat) + (Kk : Int)) % 4294967296 + (Wk : Int)) % 4294967296) = ((T1 : Nat) : Int) := by omega
      simp only [not_val se i5, vc, ev]
      have HT1 := Lib.hid hT1
      clear eK1 eW1 vc ev v1 r1 r2 r3 hT1
      go_wp2_with fail
      refine r4 _ _ ?_
      go_wp2_with fail
      refine r5 _ _ ?_
      go_wp2_with fail
      refine r6 _ _ ?_
      go_wp2_with fail
      go_roundw
      case rel =>
        have e := Hn.out
        simp only [rd] at e
        rw [← HT1.out] at e
        exact ⟨k + 1, _, e, by simp, rfl, rfl, rfl, by simp, rfl, rfl, rfl, by go_num, by omega, ⟨Nat.mod_lt _ (by decide), i1, i2, i3, Nat.mod_lt _ (by decide), i5, i6, i7⟩, g5⟩
      case measure => simp [intOf]; omega
    · obtain rfl : k = 64 := by omega
      obtain ⟨sa, sb, sc, sd, se, sf, sg, sh⟩ := s
      obtain ⟨i1, i2, i3, i4, i5, i6, i7, i8⟩ := hok
      simp only at i1 i2 i3 i4 i5 i6 i7 i8
      simp only [U]
      rw [hrd] at hR
      have o9 : Own (wr.alloc (.cells ([sa, sb, sc, sd, se, sf, sg, sh].map U).toArray 140)) 140 1 (some ⟨wr.heap.size, 0, none⟩) 8 8 ([sa, sb, sc, sd, se, sf, sg, sh].map U) := Own.made (n := 8) (heap_alloc_new wr _) rfl (by decide) (by simp [U, Value.oneCell'])
      have oh5 := (oh4.grow hg).grow (Grow.alloc wr (.cells ([sa, sb, sc, sd, se, sf, sg, sh].map U).toArray 140))
      have oz5 := (oz4.grow hg).grow (Grow.alloc wr (.cells ([sa, sb, sc, sd, se, sf, sg, sh].map U).toArray 140))
      have g5 := (g4.trans hg).trans (Grow.alloc wr (.cells ([sa, sb, sc, sd, se, sf, sg, sh].map U).toArray 140))
      have zq := (oh4.grow hg).lt q (by simp [blk])
      obtain ⟨q9, hq9⟩ : ∃ q9, q9 = wr.heap.size := ⟨_, rfl⟩
      go_wp2_with fail
      change Code.wp _ _ _ _ (wr.alloc (.cells ([sa, sb, sc, sd, se, sf, sg, sh].map U).toArray 140))
      generalize (wr.alloc (.cells ([sa, sb, sc, sd, se, sf, sg, sh].map U).toArray 140)) = w6 at *
      rw [← hq9] at o9 zq ⊢
      clear hq9
      obtain ⟨A, hA⟩ : ∃ A, A = [a, b, c, d, e, f, g, h] := ⟨_, rfl⟩
      obtain ⟨X, hX⟩ : ∃ X, X = [sa, sb, sc, sd, se, sf, sg, sh] := ⟨_, rfl⟩
      have hAl : A.length = 8 := by rw [hA]; rfl
      have hXl : X.length = 8 := by rw [hX]; rfl
      have hA0 : addN A X 0 = A := by rw [hA]; rfl
      have hA8 : addN A X 8 = (St.add ⟨a, b, c, d, e, f, g, h⟩ ⟨sa, sb, sc, sd, se, sf, sg, sh⟩).list := by rw [hA, hX]; rfl
      have hAlt : ∀ j, A.getD j 0 < 4294967296 := fun j => by
        rw [hA]
        match j with
        | 0 | 1 | 2 | 3 | 4 | 5 | 6 | 7 => assumption
        | j + 8 => exact (by decide : 0 < 4294967296)
      have hXlt : ∀ j, X.getD j 0 < 4294967296 := fun j => by
        rw [hX]
        match j with
        | 0 | 1 | 2 | 3 | 4 | 5 | 6 | 7 => assumption
        | j + 8 => exact (by decide : 0 < 4294967296)
      rw [← hA] at oh5
      rw [← hX] at o9
      rw [← hA0] at oh5
      rw [← hA8] at hR
      clear hA0 hA8
      have HA := Lib.hid hA
      have HX := Lib.hid hX
      clear hA hX
      go_loopw [119] (fun vk wr => ∃ j : Nat, vk = .int .i64 (j : Int) ∧ j ≤ 8 ∧ Own wr 141 1 (some ⟨q, 0, none⟩) 8 8 ((addN A X j).map U) ∧ Keep [q] w6 wr) (fun vk _ => 8 - (intOf vk).toNat)
      case atStart => exact ⟨0, by simp, by omega, oh5, Keep.refl _ _⟩
      case round =>
        obtain ⟨j, rfl, hj, oj, kj⟩ := hrel
        by_cases hj8 : j < 8
        · obtain ⟨g', off', eg, hcx⟩ := (o9.keep kj (by simp [blk]; omega)).sl.hat (by omega)
          cases eg
          have cx := hcx.at (i := j) (v := U (X.getD j 0)) (by simp [hXl, hj8])
          rw [Nat.zero_add] at cx
          obtain ⟨g3, v, eg, hv, hfz, hs'⟩ := own_put oj (i := j) (by omega)
          cases eg
          obtain ⟨g4', off4, eg, hcj⟩ := oj.sl.hat (by omega)
          cases eg
          have cj := hcj.at (addN_at A X j j hj8)
          rw [Nat.zero_add, if_neg (by omega)] at cj
          have ha := hAlt j
          have hx := hXlt j
          have hnx := addN_succ A X j hj8
          obtain ⟨aj, eaj⟩ : ∃ x, x = A.getD j 0 := ⟨_, rfl⟩
          obtain ⟨xj, exj⟩ : ∃ x, x = X.getD j 0 := ⟨_, rfl⟩
          rw [← eaj] at cj ha hnx
          rw [← exj] at cx hx hnx
          have eU : U ((aj + xj) % 4294967296) = .int .u32 (((aj : Int) + (xj : Int)) % 4294967296) := by simp [U]
          rw [eU] at hnx
          have hs2 := hs' (.int .u32 (((aj : Int) + (xj : Int)) % 4294967296)) rfl
          rw [← hnx] at hs2
          have kj2 := kj.trans (Keep.setCell (fp := [q]) wr ⟨q, j, none⟩ (by simp) (.int .u32 (((aj : Int) + (xj : Int)) % 4294967296)))
          simp only [U] at cx cj
          clear eU
          clear eaj exj hnx hs' hcx hcj hv
          go_wp2_with fail
          go_roundw
          case rel => exact ⟨j + 1, by go_num, by omega, hs2, kj2⟩
          case measure => simp [intOf]; omega
        · obtain rfl : j = 8 := by omega
          have hNl := addN_len A X 8
          obtain ⟨N8, hN8⟩ : ∃ N, N = addN A X 8 := ⟨_, rfl⟩
          rw [← hN8] at oj hR hNl
          clear hN8
          obtain ⟨g4', off4, eg, hcj⟩ := oj.sl.hat (by omega)
          cases eg
          have hrg : wr.rangeAt q 0 (N8.map U) := fun j v hj => hcj.at hj
          have oz6 := oz5.keep kj (by simp [blk])
          have hth8 : wr.there (q + 1) 0 (N8.map U).toArray.size := fun j hj => by
            have hj' : j < 8 := by simpa [hNl] using hj
            obtain ⟨g3, v, eg, hv, hfz, -⟩ := own_put oz6 (i := j) (by omega)
            cases eg
            rw [Nat.zero_add]
            exact ⟨by rw [hv]; rfl, hfz⟩
          have hsz8 : (Try.prog.info? 141).map (·.size) = some (N8.map U).length := by rw [List.length_map, hNl]; kernel_rfl
          have hall8 : (N8.map U).toArray.all (·.oneCell') = true := by
            rw [Array.all_eq_true_iff_forall_mem]
            intro v hv
            obtain ⟨x, -, rfl⟩ := List.mem_map.1 (by simpa using hv)
            rfl
          have hrg2 := World.rangeAt_setCells_same wr (q + 1) 0 (N8.map U) (by simpa using hth8)
          have gg := (g5.then kj (fun x hx => by simp at hx; have := Hq.out; omega)).then (Keep.setCells (q + 1) (N8.map U) 0 wr) (fun x hx => by simp at hx; have := Hq.out; omega)
          go_wp2_with (first | refine wpList_load_mid rfl 141 _ rfl q 0 rfl (N8.map U) _ hrg Try.underlying141 rfl hsz8 ?_ | refine wpList_store_mid rfl 141 _ _ rfl (q + 1) 0 (N8.map U).toArray rfl rfl hth8 (by simpa using hsz8) hall8 ?_)
          exact bodyPost_ret (v := .agg (N8.map U).toArray) (results_mid Try.results112 _ _ (q + 1) _ _ rfl hrg2 Try.underlying141 rfl hsz8) rfl (hR _ gg)
end Go.Proofs.Ytfmnkcmicbnfdaa
