/- sha.words. -/
import Derived.Test.YtaepfkpfageiaaaSha
namespace Go.Proofs.Ytaepfkpfageiaaa
open Go Go.RowKit

def s0 (x : Nat) : Nat := rotr x 7 ^^^ rotr x 18 ^^^ (x / 8)
def s1 (x : Nat) : Nat := rotr x 17 ^^^ rotr x 19 ^^^ (x / 1024)
/-- Four bytes as a word. -/
def be (a b c d : Nat) : Nat := ((a * 16777216 ||| b * 65536) ||| c * 256) ||| d
theorem be_val (a b c d : Nat) (ha : a < 256) (hb : b < 256) (hc : c < 256) (hd : d < 256) :
    bits BinOp.or IntKind.u32 (bits BinOp.or IntKind.u32 (bits BinOp.or IntKind.u32 ((a : Int) * 16777216) ((b : Int) * 65536)) ((c : Int) * 256)) (d : Int) = ((be a b c d : Nat) : Int) := by
  have e1 : (a : Int) * 16777216 = ((a * 16777216 : Nat) : Int) := by simp
  have e2 : (b : Int) * 65536 = ((b * 65536 : Nat) : Int) := by simp
  have e3 : (c : Int) * 256 = ((c * 256 : Nat) : Int) := by simp
  have h1 : (a * 16777216 ||| b * 65536) < 2 ^ 32 := Nat.or_lt_two_pow (by omega) (by omega)
  have h2 : ((a * 16777216 ||| b * 65536) ||| c * 256) < 2 ^ 32 := Nat.or_lt_two_pow h1 (by omega)
  rw [e1, e2, e3, u32_or_nat _ _ (by omega) (by omega), u32_or_nat _ _ (by omega) (by omega), u32_or_nat _ _ (by omega) (by omega)]
  rfl
theorem xor3_val (a b c : Nat) (ha : a < 4294967296) (hb : b < 4294967296) (hc : c < 4294967296) :
    bits BinOp.xor IntKind.u32 (bits BinOp.xor IntKind.u32 (a : Int) (b : Int)) (c : Int) = ((a ^^^ b ^^^ c : Nat) : Int) := by
  have h1 : (a ^^^ b) < 2 ^ 32 := Nat.xor_lt_two_pow (by omega) (by omega)
  rw [u32_xor_nat _ _ ha hb, u32_xor_nat _ _ (by omega) hc]
/-- The next word. -/
def wNew (l : List UInt8) (W : List Nat) : Nat :=
  if W.length < 16 then be (l.getD (4 * W.length) 0).toNat (l.getD (4 * W.length + 1) 0).toNat (l.getD (4 * W.length + 2) 0).toNat (l.getD (4 * W.length + 3) 0).toNat
  else (W.getD (W.length - 16) 0 + s0 (W.getD (W.length - 15) 0) + W.getD (W.length - 7) 0 + s1 (W.getD (W.length - 2) 0)) % 4294967296
def wOf (l : List UInt8) : Nat → List Nat
  | 0 => []
  | k + 1 => wOf l k ++ [wNew l (wOf l k)]
theorem wOf_len (l : List UInt8) : ∀ k, (wOf l k).length = k
  | 0 => rfl
  | k + 1 => by simp [wOf, wOf_len l k]
theorem xor3_lt {a b c : Nat} (ha : a < 4294967296) (hb : b < 4294967296) (hc : c < 4294967296) : a ^^^ b ^^^ c < 4294967296 :=
  Nat.xor_lt_two_pow (n := 32) (Nat.xor_lt_two_pow (n := 32) ha hb) hc
theorem s0_lt {x : Nat} (h : x < 4294967296) : s0 x < 4294967296 := xor3_lt (rotr_lt _ _ h) (rotr_lt _ _ h) (Nat.lt_of_le_of_lt (Nat.div_le_self _ _) h)
theorem s1_lt {x : Nat} (h : x < 4294967296) : s1 x < 4294967296 := xor3_lt (rotr_lt _ _ h) (rotr_lt _ _ h) (Nat.lt_of_le_of_lt (Nat.div_le_self _ _) h)
theorem be_lt {a b c d : Nat} (ha : a < 256) (hb : b < 256) (hc : c < 256) (hd : d < 256) : be a b c d < 4294967296 :=
  Nat.or_lt_two_pow (n := 32) (Nat.or_lt_two_pow (n := 32) (Nat.or_lt_two_pow (n := 32) (by omega) (by omega)) (by omega)) (by omega)
theorem wNew_lt (l : List UInt8) (W : List Nat) : wNew l W < 4294967296 := by
  unfold wNew
  split
  · exact be_lt (UInt8.toNat_lt _) (UInt8.toNat_lt _) (UInt8.toNat_lt _) (UInt8.toNat_lt _)
  · exact Nat.mod_lt _ (by decide)
theorem wOf_lt (l : List UInt8) : ∀ k, ∀ x ∈ wOf l k, x < 4294967296
  | 0, x, h => by simp [wOf] at h
  | k + 1, x, h => by
    simp only [wOf, List.mem_append, List.mem_singleton] at h
    rcases h with h | h
    · exact wOf_lt l k x h
    · subst h; exact wNew_lt _ _

/-- Words as values; an array that is being filled. -/
def U (k : Nat) : Value := .int .u32 (k : Int)
def arr (W : List Nat) : List Value := W.map U ++ List.replicate (64 - W.length) (U 0)
theorem arr_at (W : List Nat) (j : Nat) (h : j < W.length) : (arr W)[j]? = some (U (W.getD j 0)) := by
  unfold arr
  rw [List.getElem?_append_left (by simpa using h)]
  simp [h]
theorem arr_next (W : List Nat) (x : Nat) (h : W.length < 64) : arr (W ++ [x]) = (arr W).set W.length (U x) := by
  unfold arr
  rw [List.set_append_right _ _ (by simp)]
  obtain ⟨k, hk⟩ : ∃ k, 64 - W.length = k + 1 := ⟨64 - W.length - 1, by omega⟩
  rw [List.map_append, List.length_append, hk, List.replicate_succ]
  simp only [List.length_map, Nat.sub_self, List.set_cons_zero, List.map_cons, List.map_nil, List.append_assoc, List.cons_append, List.nil_append, List.length_singleton]
  rw [show 64 - (W.length + 1) = k by omega]
/-- A result that is an array: it is read out of its cells. -/
theorem results_mid {P : Program} {fn : Func} {p : Tmp} {ty : TypeId} (h : fn.results = #[.cell p ty]) (tmps : Array Value) (w : World) (g : Nat) (cs : List Value) (d : TypeDesc)
    (hp : tmps.getD p undef = .pointer (some ⟨g, 0, none⟩)) (hc : w.rangeAt g 0 cs) (hu : P.underlying ty = some d) (hd : d.isRow = true) (hi : (P.info? ty).map (·.size) = some cs.length) :
    (results fn tmps).run P w = .ok (.agg cs.toArray) w := by
  have hp' : tmps[p]?.getD undef = .pointer (some ⟨g, 0, none⟩) := by simpa using hp
  simp [results, h, hp', asAddr, run_loadVar_mid w g 0 ty cs d hc hu hd hi]
theorem Keep.setCells (g : Nat) : ∀ (vs : List Value) (o : Nat) (w : World), Keep [g] w (w.setCells g o vs)
  | [], _, w => Keep.refl _ w
  | v :: r, o, w => (Keep.setCell (fp := [g]) w ⟨g, o, none⟩ (by simp) v).trans (Keep.setCells g r (o + 1) _)
/-- A store into a block of the call's own. -/
theorem own_put {w : World} {e : TypeId} {sz : Nat} {ao : Option Addr} {n cap : Nat} {xs : List Value} (h : Own w e sz ao n cap xs) {i : Nat} (hi : i < n * sz) :
    ∃ g v, ao = some ⟨g, 0, none⟩ ∧ w.cell? ⟨g, i, none⟩ = some v ∧ w.frozen? ⟨g, i, none⟩ = false ∧ ∀ u : Value, u.oneCell' = true → Own (w.setCell ⟨g, i, none⟩ u) e sz ao n cap (xs.set i u) := by
  obtain ⟨g, off, rfl, hc⟩ := h.sl.hat (by rcases Nat.eq_zero_or_pos n with h | h; subst h; simp at hi; exact h)
  have h0 : off = 0 := by
    rcases h.row.2 with ⟨hv, -⟩ | ⟨g', cap', cur, hv, -⟩
    · simp at hv
    · simp only [Value.slice.injEq, Option.some.injEq, Addr.mk.injEq, and_true] at hv
      exact hv.1.2
  subst h0
  have hl := h.row.1
  have := hc i (by omega)
  rw [Nat.zero_add] at this
  refine ⟨g, _, rfl, this, h.row.frozenAt i, fun u hu => ⟨(h.row.stored i u).1, fun v hv => ?_⟩⟩
  rcases List.mem_or_eq_of_mem_set hv with h' | h'
  · exact h.one v h'
  · exact h' ▸ hu
theorem put_next {w : World} {e : TypeId} {g : Nat} {W : List Nat} (o : Own w e 1 (some ⟨g, 0, none⟩) 64 64 (arr W)) (h : W.length < 64) (v : Int) (x : Nat) (hv : v = (x : Int)) :
    Own (w.setCell ⟨g, W.length, none⟩ (.int .u32 v)) e 1 (some ⟨g, 0, none⟩) 64 64 (arr (W ++ [x])) := by
  obtain ⟨g', u, e', -, -, hs⟩ := own_put o (i := W.length) (by omega)
  cases e'
  rw [arr_next W x h, hv]
  exact hs (U x) rfl

set_option maxRecDepth 100000 in
set_option maxHeartbeats 2000000 in
theorem wordsC (bo : Option Addr) (cap : Nat) (l : List UInt8) (hl : l.length = 64) (w : World) (s : Sl w 1 bo 64 cap (l.map B)) (R : Ending → World → Prop) (hR : ∀ w', Grow w w' → R (.returned (.agg ((wOf l 64).map U).toArray)) w') :
    Calls Try.prog 86 #[.slice bo 64 cap] w R := by
  have oz : Own (w.alloc (.cells (List.replicate 64 (U 0)).toArray 79)) 79 1 (some ⟨w.heap.size, 0, none⟩) 64 64 (arr []) := Own.made (n := 64) (heap_alloc_new w _) rfl (by decide) (by simp [U, Value.oneCell'])
  obtain ⟨bg, boff, e, hcs⟩ := s.hat (by omega)
  subst e
  have hbg : bg < w.heap.size := World.block_lt_of_cell? w _ (hcs 0 (by simp [hl]))
  obtain ⟨g, hg⟩ : ∃ g, g = w.heap.size := ⟨_, rfl⟩
  have gA := Grow.alloc w (.cells (List.replicate 64 (U 0)).toArray 79)
  go_enter Try.func86, Try.ntmps86
  go_wp2_with fail
  change Code.wp _ _ _ _ (w.alloc (.cells (List.replicate 64 (U 0)).toArray 79))
  generalize w.alloc (.cells (List.replicate 64 (U 0)).toArray 79) = w2 at *
  rw [← hg] at oz hbg ⊢
  have Hg := Lib.hid hg
  clear hg
  go_loopw [8] (fun a wr => ∃ i : Nat, a = .int .i64 (i : Int) ∧ i ≤ 64 ∧ Own wr 79 1 (some ⟨g, 0, none⟩) 64 64 (arr (wOf l i)) ∧ Keep [g] w2 wr) (fun a _ => 64 - (intOf a).toNat)
  case atStart => exact ⟨0, by simp, by omega, oz, Keep.refl _ _⟩
  case round =>
    obtain ⟨i, rfl, hi, oi, ki⟩ := hrel
    have hWl := wOf_len l i
    by_cases h64 : i < 64
    · by_cases h16 : i < 16
      · have hb := fun j (hj : j < 64) => KW.cell (fp := []) (p0 := tt) ((((hcs.keep (Keep.of_grow [] gA) (by simp)).keep ki (by simp; omega))).at (i := j) (v := .int .u8 ((l.getD j 0).toNat : Int)) (by simp [hl, hj, B])) (by simp)
        have b0 := hb (4 * i) (by omega)
        have b1 := hb (4 * i + 1) (by omega)
        have b2 := hb (4 * i + 2) (by omega)
        have b3 := hb (4 * i + 3) (by omega)
        have hwn : wNew l (wOf l i) = be (l.getD (4 * i) 0).toNat (l.getD (4 * i + 1) 0).toNat (l.getD (4 * i + 2) 0).toNat (l.getD (4 * i + 3) 0).toNat := by
          unfold wNew; rw [hWl, if_pos h16]
        have x0 : _ < 256 := UInt8.toNat_lt (l.getD (4 * i) 0)
        have x1 : _ < 256 := UInt8.toNat_lt (l.getD (4 * i + 1) 0)
        have x2 : _ < 256 := UInt8.toNat_lt (l.getD (4 * i + 2) 0)
        have x3 : _ < 256 := UInt8.toNat_lt (l.getD (4 * i + 3) 0)
        obtain ⟨y0, e0⟩ : ∃ y, y = (l.getD (4 * i) 0).toNat := ⟨_, rfl⟩
        obtain ⟨y1, e1⟩ : ∃ y, y = (l.getD (4 * i + 1) 0).toNat := ⟨_, rfl⟩
        obtain ⟨y2, e2⟩ : ∃ y, y = (l.getD (4 * i + 2) 0).toNat := ⟨_, rfl⟩
        obtain ⟨y3, e3⟩ : ∃ y, y = (l.getD (4 * i + 3) 0).toNat := ⟨_, rfl⟩
        rw [← e0] at b0 x0 hwn
        rw [← e1] at b1 x1 hwn
        rw [← e2] at b2 x2 hwn
        rw [← e3] at b3 x3 hwn
        have Hwn := Lib.hid hwn
        clear e0 e1 e2 e3 hb hwn
        go_wp2_with fail
        refine wp_region_R (segL wr) (by kernel_rfl) segL_drew ?_
        unfold segL segK segR
        repeat (first | (refine wpV_skp rfl rfl ?_; simp only [List.set_cons_succ, List.set_cons_zero]) | (refine wpV_look rfl rfl rfl rfl rfl (fun K hK => ?_); go_big_quiet_op; refine hK _ ?_; clear hK K))
        refine wpV_end0 rfl rfl (by kernel_rfl) (fun w4 hC hF => ?_)
        obtain ⟨⟨w4, hk4, -⟩, rfl⟩ := hC
        clear hF b0 b1 b2 b3
        have o4 := oi.keep hk4 (by simp)
        obtain ⟨g3, v, eg, hv, hfz, -⟩ := own_put o4 (i := i) (by omega)
        cases eg
        unfold yields
        go_simp
        simp only [yUpon]
        have hk2 := fun u : Value => (ki.trans (Keep.of_nil hk4)).trans (Keep.setCell (fp := [g]) w4 ⟨g, i, none⟩ (by simp) u)
        have hn := put_next o4 (by omega : (wOf l i).length < 64)
        rw [hWl] at hn
        clear hv hfz o4 oi
        go_wp2_with fail
        go_roundw
        case rel =>
          refine ⟨i + 1, by go_num, by omega, ?_, hk2 _⟩
          simp only [wOf]
          rw [Hwn.out]
          exact hn _ _ (be_val _ _ _ _ x0 x1 x2 x3)
        case measure => simp [intOf]; omega
      · have hWlt := wOf_lt l i
        obtain ⟨g', off', eg, hca⟩ := oi.sl.hat (by omega)
        cases eg
        have ha : ∀ j, j < i → ∀ n : KW [] tt wr, n.w.cell? ⟨g, j, none⟩ = some (.int .u32 (((wOf l i).getD j 0 : Nat) : Int)) := fun j hj => KW.cell (fp := []) (p0 := tt) (by have := hca.at (arr_at (wOf l i) j (by omega)); rwa [Nat.zero_add] at this) (by simp)
        have hlt : ∀ j, (wOf l i).getD j 0 < 4294967296 := fun j => by
          rw [List.getD_eq_getElem?_getD]
          by_cases h : j < (wOf l i).length
          · rw [List.getElem?_eq_getElem h]; exact hWlt _ (List.getElem_mem h)
          · rw [List.getElem?_eq_none (by omega)]; decide
        have a16 := ha (i - 16) (by omega)
        have a15 := ha (i - 15) (by omega)
        have a7 := ha (i - 7) (by omega)
        have a2 := ha (i - 2) (by omega)
        have l16 := hlt (i - 16)
        have l15 := hlt (i - 15)
        have l7 := hlt (i - 7)
        have l2 := hlt (i - 2)
        have hwn : wNew l (wOf l i) = ((wOf l i).getD (i - 16) 0 + s0 ((wOf l i).getD (i - 15) 0) + (wOf l i).getD (i - 7) 0 + s1 ((wOf l i).getD (i - 2) 0)) % 4294967296 := by
          unfold wNew; rw [hWl, if_neg h16]
        obtain ⟨y16, e0⟩ : ∃ y, y = (wOf l i).getD (i - 16) 0 := ⟨_, rfl⟩
        obtain ⟨y15, e1⟩ : ∃ y, y = (wOf l i).getD (i - 15) 0 := ⟨_, rfl⟩
        obtain ⟨y7, e2⟩ : ∃ y, y = (wOf l i).getD (i - 7) 0 := ⟨_, rfl⟩
        obtain ⟨y2, e3⟩ : ∃ y, y = (wOf l i).getD (i - 2) 0 := ⟨_, rfl⟩
        rw [← e0] at a16 l16 hwn
        rw [← e1] at a15 l15 hwn
        rw [← e2] at a7 l7 hwn
        rw [← e3] at a2 l2 hwn
        have Hwn := Lib.hid hwn
        clear e0 e1 e2 e3 ha hlt hwn hca hWlt
        have r1 := rotC y15 7 l15 (by decide)
        have r2 := rotC y15 18 l15 (by decide)
        have r3 := rotC y2 17 l2 (by decide)
        have r4 := rotC y2 19 l2 (by decide)
        have q1 := rotr_lt y15 7 l15
        have q2 := rotr_lt y15 18 l15
        have q3 := rotr_lt y2 17 l2
        have q4 := rotr_lt y2 19 l2
        have v0 : bits BinOp.xor IntKind.u32 (bits BinOp.xor IntKind.u32 ((rotr y15 7 : Nat) : Int) ((rotr y15 18 : Nat) : Int)) ((y15 : Int) / 8) = ((s0 y15 : Nat) : Int) := by
          rw [show (y15 : Int) / 8 = ((y15 / 8 : Nat) : Int) by simp, xor3_val _ _ _ q1 q2 (by omega)]; rfl
        have v1 : bits BinOp.xor IntKind.u32 (bits BinOp.xor IntKind.u32 ((rotr y2 17 : Nat) : Int) ((rotr y2 19 : Nat) : Int)) ((y2 : Int) / 1024) = ((s1 y2 : Nat) : Int) := by
          rw [show (y2 : Int) / 1024 = ((y2 / 1024 : Nat) : Int) by simp, xor3_val _ _ _ q3 q4 (by omega)]; rfl
        have t0 := s0_lt l15
        have t1 := s1_lt l2
        go_wp2_with fail
        refine wp_region_R (segL wr) (by kernel_rfl) segL_drew ?_
        unfold segL segK segR
        repeat (first | (refine wpV_skp rfl rfl ?_; simp only [List.set_cons_succ, List.set_cons_zero]) | (refine wpV_look rfl rfl rfl rfl rfl (fun K hK => ?_); go_big_quiet_op; refine hK _ ?_; clear hK K))
        refine wpV_nil ?_
        intro w3 hC _
        obtain ⟨⟨w3, hk3, -⟩, rfl⟩ := hC
        have o3 := oi.keep hk3 (by simp)
        have k3 := ki.trans (Keep.of_nil hk3)
        have c16 : w3.cell? _ = _ := a16 ⟨w3, hk3, trivial⟩
        have c7 : w3.cell? _ = _ := a7 ⟨w3, hk3, trivial⟩
        have d16 := KW.cell (fp := []) (p0 := tt) c16 (by simp)
        have d7 := KW.cell (fp := []) (p0 := tt) c7 (by simp)
        clear a16 a15 a7 a2 oi ki c16 c7
        go_wp2_with fail
        refine r1 _ _ ?_
        go_wp2_with fail
        refine r2 _ _ ?_
        go_wp2_with fail
        refine r3 _ _ ?_
        go_wp2_with fail
        refine r4 _ _ ?_
        go_wp2_with fail
        refine wp_region_R (segL w3) (by kernel_rfl) segL_drew ?_
        unfold segL segK segR
        repeat (first | (refine wpV_skp rfl rfl ?_; simp only [List.set_cons_succ, List.set_cons_zero]) | (refine wpV_look rfl rfl rfl rfl rfl (fun K hK => ?_); go_big_quiet_op; refine hK _ ?_; clear hK K))
        refine wpV_end0 rfl rfl (by kernel_rfl) (fun w4 hC hF => ?_)
        obtain ⟨⟨w4, hk4, -⟩, rfl⟩ := hC
        clear hF d16 d7
        have o4 := o3.keep hk4 (by simp)
        obtain ⟨g3, v, eg, hv, hfz, -⟩ := own_put o4 (i := i) (by omega)
        cases eg
        unfold yields
        go_simp
        simp only [yUpon]
        have hk2 := fun u : Value => (k3.trans (Keep.of_nil hk4)).trans (Keep.setCell (fp := [g]) w4 ⟨g, i, none⟩ (by simp) u)
        have hn := put_next o4 (by omega : (wOf l i).length < 64)
        rw [hWl] at hn
        clear hv hfz o4 o3
        go_wp2_with fail
        go_roundw
        case rel =>
          refine ⟨i + 1, by go_num, by omega, ?_, hk2 _⟩
          simp only [wOf]
          rw [Hwn.out]
          exact hn _ _ (by omega)
        case measure => simp [intOf]; omega
    · obtain rfl : i = 64 := by omega
      rw [show arr (wOf l 64) = (wOf l 64).map U by unfold arr; rw [hWl]; simp] at oi
      obtain ⟨g', off', eg, hca⟩ := oi.sl.hat (by omega)
      cases eg
      have hrg : wr.rangeAt g 0 ((wOf l 64).map U) := fun j v hj => hca.at hj
      have hth : wr.there g 0 ((wOf l 64).map U).toArray.size := fun j hj => by
        have hj' : j < 64 := by simpa [hWl] using hj
        obtain ⟨g3, v, eg, hv, hfz, -⟩ := own_put oi (i := j) (by omega)
        cases eg
        rw [Nat.zero_add]
        exact ⟨by rw [hv]; rfl, hfz⟩
      have hsz : (Try.prog.info? 79).map (·.size) = some ((wOf l 64).map U).length := by rw [List.length_map, hWl]; kernel_rfl
      have hall : ((wOf l 64).map U).toArray.all (·.oneCell') = true := by
        rw [Array.all_eq_true_iff_forall_mem]
        intro v hv
        obtain ⟨x, -, rfl⟩ := List.mem_map.1 (by simpa using hv)
        rfl
      go_wp2_with (first | refine wpList_load_mid rfl 79 _ rfl g 0 rfl ((wOf l 64).map U) _ hrg Try.underlying79 rfl hsz ?_ | refine wpList_store_mid rfl 79 _ _ rfl g 0 ((wOf l 64).map U).toArray rfl rfl hth (by simpa using hsz) hall ?_)
      have hrg2 : (wr.setCells g 0 ((wOf l 64).map U)).rangeAt g 0 ((wOf l 64).map U) := World.rangeAt_setCells_same _ _ _ _ (by simpa using hth)
      have kk := (ki.trans (Keep.setCells g ((wOf l 64).map U) 0 wr))
      have gg := gA.then kk (fun x hx => by simp at hx; have := Hg.out; omega)
      refine bodyPost_ret (v := .agg ((wOf l 64).map U).toArray) (results_mid Try.results86 _ _ g _ _ rfl hrg2 Try.underlying79 rfl hsz) rfl (hR _ gg)
end Go.Proofs.Ytaepfkpfageiaaa
