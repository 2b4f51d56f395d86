/- marks: bits in bytes, and what a Marks is in memory. -/
import Derived.Test.YtoelddjmjhnbaaaTape
import Derived.Test.YtoelddjmjhnbaaaSkip
import Derived.Laws.ShiftsVar
import Derived.Laws.MakeOwn
namespace Go.Proofs.Ytoelddjmjhnbaaa
open Go Go.RowKit

/-- Eight bits as a number. -/
def by8 (f : Nat → Bool) (q : Nat) : Nat := (f (8 * q)).toNat + 2 * (f (8 * q + 1)).toNat + 4 * (f (8 * q + 2)).toNat + 8 * (f (8 * q + 3)).toNat + 16 * (f (8 * q + 4)).toNat + 32 * (f (8 * q + 5)).toNat + 64 * (f (8 * q + 6)).toNat + 128 * (f (8 * q + 7)).toNat
theorem by8_lt (f : Nat → Bool) (q : Nat) : by8 f q < 256 := by
  have h : ∀ c : Bool, c.toNat ≤ 1 := by decide
  unfold by8
  have := h (f (8 * q)); have := h (f (8 * q + 1)); have := h (f (8 * q + 2)); have := h (f (8 * q + 3))
  have := h (f (8 * q + 4)); have := h (f (8 * q + 5)); have := h (f (8 * q + 6)); have := h (f (8 * q + 7))
  omega
theorem by8_bit (f : Nat → Bool) (q r : Nat) (hr : r < 8) : by8 f q / 2 ^ r % 2 = (f (8 * q + r)).toNat := by
  have h : ∀ c : Bool, c.toNat ≤ 1 := by decide
  have h0 := h (f (8 * q)); have h1 := h (f (8 * q + 1)); have h2 := h (f (8 * q + 2)); have h3 := h (f (8 * q + 3))
  have h4 := h (f (8 * q + 4)); have h5 := h (f (8 * q + 5)); have h6 := h (f (8 * q + 6)); have h7 := h (f (8 * q + 7))
  unfold by8
  match r, hr with
  | 0, _ => simp only [Nat.add_zero]; omega
  | 1, _ => omega
  | 2, _ => omega
  | 3, _ => omega
  | 4, _ => omega
  | 5, _ => omega
  | 6, _ => omega
  | 7, _ => omega
theorem by8_congr {f g : Nat → Bool} {q : Nat} (h : ∀ r, r < 8 → f (8 * q + r) = g (8 * q + r)) : by8 f q = by8 g q := by
  unfold by8
  have h0 := h 0 (by omega)
  rw [Nat.add_zero] at h0
  rw [h0, h 1 (by omega), h 2 (by omega), h 3 (by omega), h 4 (by omega), h 5 (by omega), h 6 (by omega), h 7 (by omega)]
theorem by8_ext {x y : Nat} (hx : x < 256) (hy : y < 256) (h : ∀ r, r < 8 → x / 2 ^ r % 2 = y / 2 ^ r % 2) : x = y := by
  have h0 := h 0 (by omega); have h1 := h 1 (by omega); have h2 := h 2 (by omega); have h3 := h 3 (by omega)
  have h4 := h 4 (by omega); have h5 := h 5 (by omega); have h6 := h 6 (by omega); have h7 := h 7 (by omega)
  omega
theorem or_bit (x r k : Nat) : (x ||| 2 ^ r) / 2 ^ k % 2 = if k = r then 1 else x / 2 ^ k % 2 := by
  have e : ∀ y : Nat, y / 2 ^ k % 2 = (y.testBit k).toNat := fun y => by
    rw [Nat.testBit_eq_decide_div_mod_eq]
    rcases Nat.mod_two_eq_zero_or_one (y / 2 ^ k) with h | h <;> simp [h]
  rw [e, e, Nat.testBit_or, Nat.testBit_two_pow]
  by_cases h : k = r
  · simp [h]
  · simp [h, Ne.symm h]
/-- A bit set. -/
theorem by8_set (f g : Nat → Bool) (q r : Nat) (hr : r < 8) (h : ∀ j, g j = if j = 8 * q + r then true else f j) : by8 f q ||| 2 ^ r = by8 g q := by
  refine by8_ext (Nat.or_lt_two_pow (n := 8) (by8_lt f q) (Nat.pow_lt_pow_right (by omega) hr)) (by8_lt g q) fun k hk => ?_
  rw [or_bit, by8_bit f q k hk, by8_bit g q k hk, h]
  by_cases e : k = r
  · simp [e]
  · rw [if_neg e, if_neg (by omega)]

/-- The bit of a list; none beyond. -/
def bt (b : List Bool) (i : Nat) : Bool := b.getD i false
/-- Bits as bytes. -/
def pack (b : List Bool) : List UInt8 := (List.range ((b.length + 7) / 8)).map fun q => UInt8.ofNat (by8 (bt b) q)
theorem pack_len (b : List Bool) : (pack b).length = (b.length + 7) / 8 := by simp [pack]
theorem pack_at (b : List Bool) (q : Nat) (h : q < (b.length + 7) / 8) : ((pack b).map B)[q]? = some (.int .u8 ((by8 (bt b) q : Nat) : Int)) := by
  have := by8_lt (bt b) q
  simp only [pack, List.map_map, List.getElem?_map, List.getElem?_range h, Option.map_some, Function.comp, B, UInt8.toNat_ofNat', Option.some.injEq, Value.int.injEq, true_and]
  omega

/-- A store into a slice of the call's own. -/
theorem own_put {w : World} {e : TypeId} {sz : Nat} {ao : Option Addr} {n cap : Nat} {xs : List Value} (h : Own w e sz ao n cap xs) {i : Nat} (hi : i < n * sz) :
    ∃ g v, ao = some ⟨g, 0, none⟩ ∧ w.cell? ⟨g, i, none⟩ = some v ∧ w.frozen? ⟨g, i, none⟩ = false ∧ ∀ u : Value, u.oneCell' = true → Own (w.setCell ⟨g, i, none⟩ u) e sz ao n cap (xs.set i u) := by
  obtain ⟨g, off, rfl, hc⟩ := h.sl.hat (by rcases Nat.eq_zero_or_pos n with h | h; subst h; simp at hi; exact h)
  have h0 : off = 0 := by
    rcases h.row.2 with ⟨hv, -⟩ | ⟨g', cap', cur, hv, -⟩
    · simp at hv
    · simp only [Value.slice.injEq, Option.some.injEq, Addr.mk.injEq, and_true] at hv
      exact hv.1.2
  subst h0
  have hl := h.row.1
  have := hc i (by omega)
  rw [Nat.zero_add] at this
  refine ⟨g, _, rfl, this, h.row.frozenAt i, fun u hu => ⟨(h.row.stored i u).1, fun v hv => ?_⟩⟩
  rcases List.mem_or_eq_of_mem_set hv with h' | h'
  · exact h.one v h'
  · exact h' ▸ hu

/-- n marks at block p, their bytes in block h. -/
structure Mk (w : World) (p h c : Nat) (b : List Bool) : Prop where
  n : Cells w p 0 [.int .i64 b.length, .slice (some ⟨h, 0, none⟩) ((b.length + 7) / 8) c]
  own : Own w 5 1 (some ⟨h, 0, none⟩) ((b.length + 7) / 8) c ((pack b).map B)
  ne : p ≠ h
  lt : p < w.heap.size
  one : 1 ≤ b.length
  max : b.length ≤ 65536
theorem Mk.keep {w w' : World} {fp : List Nat} {p h c : Nat} {b : List Bool} (m : Mk w p h c b) (k : Keep fp w w') (h1 : p ∉ fp) (h2 : h ∉ fp) : Mk w' p h c b :=
  ⟨m.n.keep k h1, m.own.keep k (by simpa [blk] using h2), m.ne, Nat.lt_of_lt_of_le m.lt k.size, m.one, m.max⟩
theorem Mk.grow {w w' : World} {p h c : Nat} {b : List Bool} (m : Mk w p h c b) (k : Grow w w') : Mk w' p h c b := m.keep (Keep.of_grow [] k) (by simp) (by simp)

theorem sz_alloc (w : World) (o : Obj) : (w.alloc o).heap.size = w.heap.size + 1 := Array.size_push o
/-- A Marks that is made of bytes of its own. -/
theorem Mk.made {w : World} {h c : Nat} {b : List Bool} (o : Own w 5 1 (some ⟨h, 0, none⟩) ((b.length + 7) / 8) c ((pack b).map B)) (h1 : 1 ≤ b.length) (h2 : b.length ≤ 65536) :
    Mk (w.alloc (.cells #[.int .i64 b.length, .slice (some ⟨h, 0, none⟩) ((b.length + 7) / 8) c] 95)) w.heap.size h c b := by
  have ho := heap_alloc_new w (.cells #[.int .i64 b.length, .slice (some ⟨h, 0, none⟩) ((b.length + 7) / 8) c] 95)
  have hl := o.lt h (by simp [blk])
  refine ⟨fun i hi => ?_, o.grow (Grow.alloc w _), by omega, by rw [sz_alloc]; omega, h1, h2⟩
  rw [Nat.zero_add]
  exact obj_cell ho i (by match i, hi with | 0, _ => rfl | 1, _ => rfl)

theorem sizeC (p h c : Nat) (b : List Bool) (w : World) (m : Mk w p h c b) (R : Ending → World → Prop) (hR : ∀ w', Grow w w' → R (.returned (.int .i64 (b.length : Int))) w') :
    Calls Try.prog 49 #[.pointer (some ⟨p, 0, none⟩)] w R := by
  have c0 := m.n 0 (by simp)
  simp only [List.getElem_cons_zero, Nat.zero_add] at c0
  go_enter Try.func49, Try.ntmps49
  go_wp2
  exact Grow.refl w
theorem sizeN (w : World) (R : Ending → World → Prop) (hR : ∀ w', Grow w w' → R (.returned (.int .i64 0)) w') :
    Calls Try.prog 49 #[.pointer none] w R := by
  go_enter Try.func49, Try.ntmps49
  go_wp2
  exact Grow.refl w
set_option maxRecDepth 100000 in
theorem hasC (p h c : Nat) (b : List Bool) (at_ : Int) (w : World) (m : Mk w p h c b) (hwf : (Lit.int .i64 at_).wf = true) (R : Ending → World → Prop) (hR : ∀ w', Grow w w' → R (.returned (.bool (decide (0 ≤ at_) && bt b at_.toNat))) w') :
    Calls Try.prog 45 #[.pointer (some ⟨p, 0, none⟩), .int .i64 at_] w R := by
  by_cases h0 : at_ < 0
  · rw [show decide (0 ≤ at_) = false by simp; omega, Bool.false_and] at hR
    go_enter Try.func45, Try.ntmps45
    go_wp2
    exact Grow.refl w
  obtain ⟨k, rfl⟩ : ∃ k : Nat, at_ = k := ⟨at_.toNat, by omega⟩
  rw [show decide (0 ≤ (k : Int)) = true by simp, Bool.true_and, Int.toNat_natCast] at hR
  by_cases hk : b.length ≤ k
  · rw [show bt b k = false by unfold bt; simp [hk]] at hR
    go_enter Try.func45, Try.ntmps45
    go_wp2_with fail
    refine sizeC p h c b w m _ ?_
    intro w1 g1
    go_wp2
    exact g1
  have hlt : k < b.length := by omega
  have hn := m.max
  go_enter Try.func45, Try.ntmps45
  go_wp2_with fail
  refine sizeC p h c b w m _ ?_
  intro w1 g1
  have m1 := m.grow g1
  have c1 := m1.n 1 (by simp)
  simp only [List.getElem_cons_succ, List.getElem_cons_zero, Nat.zero_add] at c1
  have s := m1.own.sl
  obtain ⟨g, off, e, hc⟩ := s.hat (by omega)
  cases e
  have c2 := hc.at (pack_at b (k / 8) (by omega))
  rw [Nat.zero_add] at c2
  obtain ⟨x, hx⟩ : ∃ x, x = by8 (bt b) (k / 8) := ⟨_, rfl⟩
  have hx8 := by8_lt (bt b) (k / 8)
  have hxb := by8_bit (bt b) (k / 8) (k % 8) (by omega)
  rw [show 8 * (k / 8) + k % 8 = k by omega] at hxb
  rw [← hx] at c2 hx8 hxb
  clear hx s m1 m hc
  have hbit : (bits BinOp.and IntKind.u8 ((x : Int) / 2 ^ (k % 8)) 1 != 0) = bt b k := by
    have e : (x : Int) / 2 ^ (k % 8) = ((x / 2 ^ (k % 8) : Nat) : Int) := by simp
    rw [e, show (1 : Int) = ((1 : Nat) : Int) from rfl, u8_and_nat _ _ (Nat.lt_of_le_of_lt (Nat.div_le_self _ _) hx8) (by omega), nat_mask1, hxb]
    cases bt b k <;> rfl
  go_wp2
  exact g1

/-- Bytes that are made. -/
theorem makeB (w : World) (l : Int) (h0 : 0 ≤ l) (h1 : l ≤ 1000000) : (Instr.makeSlice 22 (.int .i64 l) (.int .i64 l)).run Try.prog w = .ok (.slice (some ⟨w.heap.size, 0, none⟩) l.toNat l.toNat) (w.alloc (.cells (madeCells #[.int .u8 0] l.toNat) 5)) := by
  obtain ⟨i, z, hi, hz, hs, hb, hc, -⟩ := TB.info
  obtain rfl : z = .int .u8 0 := by
    have : (Try.prog.info? 5).map (·.zero) = some (some (.int .u8 0)) := by kernel_rfl
    rw [hi] at this
    simp [hz] at this
    exact this
  have := run_make (P := Try.prog) w 22 5 i _ TB.und hi hz .i64 .i64 l l h0 (Int.le_refl _) (by rw [hb]; omega) (by omega)
  rw [hs, Nat.mul_one] at this
  exact this
theorem madeB (n : Nat) : (madeCells #[.int .u8 0] n).toList = List.replicate n (.int .u8 0) := by
  refine List.ext_getElem (by simp [madeCells]) fun i h1 h2 => ?_
  simp [madeCells, Nat.mod_one]

set_option maxRecDepth 100000 in
theorem newN (n : Int) (hn : n < 1 ∨ 65536 < n) (w : World) (R : Ending → World → Prop) (hR : ∀ w', Grow w w' → R (.returned (.tuple #[.pointer none, .int .i64 1])) w') :
    Calls Try.prog 39 #[.int .i64 n] w R := by
  rcases hn with h | h
  · go_enter Try.func39, Try.ntmps39
    go_wp2
    exact Grow.refl w
  · go_enter Try.func39, Try.ntmps39
    go_wp2
    exact Grow.refl w
set_option maxRecDepth 100000 in
theorem newC (n : Nat) (h1 : 1 ≤ n) (h2 : n ≤ 65536) (w : World) (R : Ending → World → Prop)
    (hR : ∀ p h c w', Mk w' p h c (List.replicate n false) → Grow w w' → w.heap.size ≤ p → w.heap.size ≤ h → R (.returned (.tuple #[.pointer (some ⟨p, 0, none⟩), .int .i64 0])) w') :
    Calls Try.prog 39 #[.int .i64 n] w R := by
  have hL : ((n : Int) + 8 - 1) / 8 = (((n + 7) / 8 : Nat) : Int) := by omega
  go_enter Try.func39, Try.ntmps39
  have hmk := makeB w (((n : Int) + 7) / 8) (by omega) (by omega)
  have hz : (pack (List.replicate n false)).map B = List.replicate ((n + 7) / 8) (.int .u8 0) := by
    refine List.ext_getElem? fun i => ?_
    by_cases h : i < (n + 7) / 8
    · rw [pack_at _ _ (by simpa using h), List.getElem?_replicate, if_pos h]
      have : by8 (bt (List.replicate n false)) i = 0 := by
        have e : ∀ j, bt (List.replicate n false) j = false := fun j => by unfold bt; rw [List.getD_eq_getElem?_getD, List.getElem?_replicate]; split <;> rfl
        unfold by8
        simp [e]
      rw [this]
      rfl
    · rw [List.getElem?_eq_none (by simpa [pack_len] using h), List.getElem?_eq_none (by simpa using h)]
  have ow : Own (w.alloc (.cells (madeCells #[.int .u8 0] ((n + 7) / 8)) 5)) 5 1 (some ⟨w.heap.size, 0, none⟩) (((List.replicate n false).length + 7) / 8) ((n + 7) / 8) ((pack (List.replicate n false)).map B) := by
    have := Own.made (sz := 1) (n := (n + 7) / 8) (heap_alloc_new w (.cells (madeCells #[.int .u8 0] ((n + 7) / 8)) 5)) (by simp [size_madeCells]) (by unfold maxLen; omega) (by rw [madeB]; intro u hu; rw [List.eq_of_mem_replicate hu]; rfl)
    rw [hz, List.length_replicate, ← madeB]
    exact this
  have hm := Mk.made ow (by simpa using h1) (by simpa using h2)
  rw [List.length_replicate, sz_alloc] at hm
  go_wp2
  exact hR _ _ _ _ hm ((Grow.alloc w _).trans (Grow.alloc _ _)) (by omega) (Nat.le_refl _)

set_option maxRecDepth 100000 in
theorem bytesC (p h c : Nat) (b : List Bool) (w : World) (m : Mk w p h c b) (R : Ending → World → Prop)
    (hR : ∀ h' c' w', Own w' 5 1 (some ⟨h', 0, none⟩) ((b.length + 7) / 8) c' ((pack b).map B) → Grow w w' → w.heap.size ≤ h' → R (.returned (.slice (some ⟨h', 0, none⟩) ((b.length + 7) / 8) c')) w') :
    Calls Try.prog 42 #[.pointer (some ⟨p, 0, none⟩)] w R := by
  have c1 := m.n 1 (by simp)
  simp only [List.getElem_cons_succ, List.getElem_cons_zero, Nat.zero_add] at c1
  have h1 := m.one
  have h2 := m.max
  go_enter Try.func42, Try.ntmps42
  go_wp2_with fail
  refine cloneB _ _ _ _ w m.own.sl (by omega) _ ?_
  intro ao' cap' w1 o1 g1 f1
  obtain ⟨g, v, e, -⟩ := own_put o1 (i := 0) (by omega)
  subst e
  have := f1 g (by simp [blk])
  go_wp2
  exact hR _ _ _ o1 g1 this
theorem bytesN (w : World) (R : Ending → World → Prop) (hR : ∀ w', Grow w w' → R (.returned (.slice none 0 0)) w') :
    Calls Try.prog 42 #[.pointer none] w R := by
  go_enter Try.func42, Try.ntmps42
  go_wp2
  exact Grow.refl w
theorem copyN (w : World) (R : Ending → World → Prop) (hR : ∀ w', Grow w w' → R (.returned (.pointer none)) w') :
    Calls Try.prog 43 #[.pointer none] w R := by
  go_enter Try.func43, Try.ntmps43
  go_wp2
  exact Grow.refl w
/-- What a copy's operations leave: bytes; a Marks. -/
def vBy (B0 : Nat) (b : List Bool) : Value → World → Prop := fun v w => ∃ h c, v = .slice (some ⟨h, 0, none⟩) ((b.length + 7) / 8) c ∧ Own w 5 1 (some ⟨h, 0, none⟩) ((b.length + 7) / 8) c ((pack b).map B) ∧ B0 ≤ h
def vMk (B0 : Nat) (b : List Bool) : Value → World → Prop := fun v w => ∃ p h c, v = .pointer (some ⟨p, 0, none⟩) ∧ Mk w p h c b ∧ B0 ≤ p ∧ B0 ≤ h
theorem vBy.st {B0 : Nat} {b : List Bool} {v : Value} {w w' : World} (k : Keep [] w w') (h : vBy B0 b v w) : vBy B0 b v w' := by
  obtain ⟨h, c, e, o, l⟩ := h; exact ⟨h, c, e, o.keep k (by simp), l⟩
theorem vMk.st {B0 : Nat} {b : List Bool} {v : Value} {w w' : World} (k : Keep [] w w') (h : vMk B0 b v w) : vMk B0 b v w' := by
  obtain ⟨p, h, c, e, o, l⟩ := h; exact ⟨p, h, c, e, o.keep k (by simp) (by simp), l⟩
set_option maxRecDepth 100000 in
theorem copyC (p h c : Nat) (b : List Bool) (w : World) (m : Mk w p h c b) (R : Ending → World → Prop)
    (hR : ∀ p' h' c' w', Mk w' p' h' c' b → Grow w w' → w.heap.size ≤ p' → w.heap.size ≤ h' → R (.returned (.pointer (some ⟨p', 0, none⟩))) w') :
    Calls Try.prog 43 #[.pointer (some ⟨p, 0, none⟩)] w R := by
  have c0 := m.n 0 (by simp)
  simp only [List.getElem_cons_zero, Nat.zero_add] at c0
  have e0 := KW.cell (fp := []) (p0 := tt) c0 (by simp)
  go_enter Try.func43, Try.ntmps43
  go_wp2_with fail
  let V : Nat → Array Value → Value → World → Prop := fun i _ v w' =>
    match i with
    | 5 => vBy w.heap.size b v w'
    | _ => vMk w.heap.size b v w'
  refine wp_region_R (segK [] w [5, 7] V ?_) (by kernel_rfl) segK_drew ?_
  · intro i vs v wa wb kk
    show V i vs v wa → V i vs v wb
    simp only [V]
    split <;> first | exact vBy.st kk | exact vMk.st kk
  unfold segK segR
  repeat (first | (refine wpV_skp rfl rfl ?_; simp only [List.set_cons_succ, List.set_cons_zero]) | (refine wpV_look rfl rfl rfl rfl rfl (fun K hK => ?_); go_big_quiet_op; refine hK _ ?_; clear hK K))
  refine wpV_mk rfl rfl rfl [] rfl (fun _ w7 hC _ => yields_call (by kernel_rfl) ?_) (fun _ v w7 hC hV _ => ?_)
  · obtain ⟨⟨w7, hk, -⟩, rfl⟩ := hC
    refine bytesC p h c b w7 (m.keep hk (by simp) (by simp)) _ ?_
    intro h8 c8 w8 o8 g8 l8
    have := hk.size
    exact ⟨_, rfl, ⟨Keep.of_grow [] g8, trivial⟩, h8, c8, rfl, o8, by omega⟩
  obtain ⟨h8, c8, rfl, -, -⟩ : vBy _ b v w7 := hV
  clear hC
  simp only [List.set_cons_succ, List.set_cons_zero]
  repeat (first | (refine wpV_skp rfl rfl ?_; simp only [List.set_cons_succ, List.set_cons_zero]) | (refine wpV_look rfl rfl rfl rfl rfl (fun K hK => ?_); go_big_quiet_op; refine hK _ ?_; clear hK K))
  refine wpV_mk rfl rfl rfl [5] (by kernel_rfl) (fun _ w7 hC hF => ?_) (fun _ v w7 hC hV _ => ?_)
  · obtain ⟨⟨w7, hk, -⟩, rfl⟩ := hC
    obtain ⟨h9, c9, e9, o9, l9⟩ : vBy w.heap.size b _ w7 := (hF 5 (by simp)).2 rfl
    cases e9
    have := hk.size
    unfold yields
    go_simp
    exact ⟨⟨Keep.alloc _ _ _, trivial⟩, _, _, _, rfl, Mk.made o9 m.one m.max, by omega, l9⟩
  obtain ⟨p9, h9, c9, rfl, m9, l9, l9'⟩ : vMk _ b v w7 := hV
  clear hC
  simp only [List.set_cons_succ, List.set_cons_zero]
  repeat (first | (refine wpV_skp rfl rfl ?_; simp only [List.set_cons_succ, List.set_cons_zero]) | (refine wpV_look rfl rfl rfl rfl rfl (fun K hK => ?_); go_big_quiet_op; refine hK _ ?_; clear hK K))
  refine wpV_nil ?_
  intro w8 hC hF
  obtain ⟨⟨w8, hk8, -⟩, rfl⟩ := hC
  obtain ⟨p9, h9, c9, e9, m9, l9, l9'⟩ : vMk w.heap.size b _ w8 := (hF 7).2 rfl
  cases e9
  go_wp2
  exact hR _ _ _ _ m9 hk8.grow l9 l9'

/-- Some marked. -/
def mark (b : List Bool) (f c : Nat) : List Bool := (List.range b.length).map fun i => bt b i || (decide (f ≤ i) && decide (i < f + c))
theorem mark_len (b : List Bool) (f c : Nat) : (mark b f c).length = b.length := by simp [mark]
theorem bt_out (b : List Bool) (i : Nat) (h : b.length ≤ i) : bt b i = false := by unfold bt; simp [h]
theorem bt_mark (b : List Bool) (f c i : Nat) : bt (mark b f c) i = (decide (i < b.length) && (bt b i || (decide (f ≤ i) && decide (i < f + c)))) := by
  by_cases h : i < b.length
  · have : (mark b f c)[i]? = some (bt b i || (decide (f ≤ i) && decide (i < f + c))) := by simp [mark, h]
    unfold bt at this ⊢
    rw [List.getD_eq_getElem?_getD, this]
    simp [h]
  · rw [bt_out _ _ (by rw [mark_len]; omega)]
    simp [h]
theorem bt_ext {a b : List Bool} (hl : a.length = b.length) (h : ∀ i, i < a.length → bt a i = bt b i) : a = b := by
  refine List.ext_getElem hl fun i h1 h2 => ?_
  have := h i h1
  unfold bt at this
  simpa [h1, h2] using this
theorem mark_zero (b : List Bool) (f : Nat) : mark b f 0 = b := by
  refine bt_ext (mark_len _ _ _) fun i hi => ?_
  rw [mark_len] at hi
  rw [bt_mark, show (decide (f ≤ i) && decide (i < f + 0)) = false by simp]
  simp [hi]
theorem pack_put (b b' : List Bool) (k : Nat) (hk : k < b.length) (hl : b'.length = b.length) (h : ∀ j, bt b' j = if j = k then true else bt b j) :
    (pack b').map B = ((pack b).map B).set (k / 8) (.int .u8 ((by8 (bt b) (k / 8) ||| 2 ^ (k % 8) : Nat) : Int)) := by
  refine List.ext_getElem? fun i => ?_
  by_cases hi : i < (b.length + 7) / 8
  · rw [pack_at _ _ (by rw [hl]; exact hi), List.getElem?_set]
    by_cases e : k / 8 = i
    · subst e
      rw [if_pos rfl, if_pos (by simpa [pack_len] using hi), by8_set (bt b) (bt b') (k / 8) (k % 8) (by omega) (fun j => by rw [h j, show 8 * (k / 8) + k % 8 = k by omega])]
    · rw [if_neg e, pack_at _ _ hi, by8_congr fun r hr => ?_]
      rw [h, if_neg (by omega)]
  · rw [List.getElem?_eq_none (by simpa [pack_len, hl] using hi), List.getElem?_eq_none (by simpa [pack_len] using hi)]
theorem Mk.put {w : World} {p h c : Nat} {b b' : List Bool} (m : Mk w p h c b) (k : Nat) (hk : k < b.length) (hl : b'.length = b.length) (e : ∀ j, bt b' j = if j = k then true else bt b j) :
    Mk (w.setCell ⟨h, k / 8, none⟩ (.int .u8 ((by8 (bt b) (k / 8) ||| 2 ^ (k % 8) : Nat) : Int))) p h c b' := by
  obtain ⟨g, v, eg, -, -, hs⟩ := own_put m.own (i := k / 8) (by omega)
  cases eg
  have k1 := Keep.setCell (fp := [h]) w ⟨h, k / 8, none⟩ (by simp) (.int .u8 ((by8 (bt b) (k / 8) ||| 2 ^ (k % 8) : Nat) : Int))
  have hne := m.ne
  refine ⟨by rw [hl]; exact m.n.keep k1 (by simpa using hne), ?_, m.ne, Nat.lt_of_lt_of_le m.lt k1.size, by rw [hl]; exact m.one, by rw [hl]; exact m.max⟩
  rw [hl, pack_put b b' k hk hl e]
  exact hs _ rfl
theorem or_val (x k : Nat) (hx : x < 256) (hk : k < 8) : bits BinOp.or IntKind.u8 (x : Int) ((2 : Int) ^ k % 256) = ((x ||| 2 ^ k : Nat) : Int) := by
  have h : 2 ^ k < 2 ^ 8 := Nat.pow_lt_pow_right (by omega) hk
  have e : (2 : Int) ^ k % 256 = ((2 ^ k : Nat) : Int) := by
    have : (2 : Int) ^ k = ((2 ^ k : Nat) : Int) := by simp
    obtain ⟨y, hy⟩ : ∃ y, y = 2 ^ k := ⟨_, rfl⟩
    rw [this, ← hy]
    rw [← hy] at h
    omega
  rw [e, u8_or_nat _ _ hx (by omega)]
theorem mark_succ (b : List Bool) (f i : Nat) (h : f + i < b.length) (j : Nat) : bt (mark b f (i + 1)) j = if j = f + i then true else bt (mark b f i) j := by
  rw [bt_mark, bt_mark]
  by_cases e : j = f + i
  · subst e; simp [h]
  · rw [if_neg e, show (decide (j < f + (i + 1))) = decide (j < f + i) by simp only [decide_eq_decide]; omega]

set_option maxRecDepth 100000 in
theorem setBad (p h c : Nat) (b : List Bool) (first count : Int) (w : World) (m : Mk w p h c b) (hf : (Lit.int .i64 first).wf = true) (hc : (Lit.int .i64 count).wf = true)
    (hbad : count < 0 ∨ (0 < count ∧ (first < 0 ∨ (b.length : Int) < count ∨ (b.length : Int) - count < first))) (R : Ending → World → Prop) (hR : ∀ w', Grow w w' → R (.returned (.int .i64 3)) w') :
    Calls Try.prog 40 #[.pointer (some ⟨p, 0, none⟩), .int .i64 first, .int .i64 count] w R := by
  have c0 := m.n 0 (by simp)
  simp only [List.getElem_cons_zero, Nat.zero_add] at c0
  have hn := m.max
  by_cases h1 : count < 0
  · clear hbad
    go_enter Try.func40, Try.ntmps40
    go_wp2
    exact Grow.refl w
  have h2 : 0 < count := by omega
  by_cases h3 : first < 0
  · clear hbad
    go_enter Try.func40, Try.ntmps40
    go_wp2
    exact Grow.refl w
  by_cases h4 : (b.length : Int) < count
  · clear hbad
    go_enter Try.func40, Try.ntmps40
    go_wp2
    exact Grow.refl w
  have h5 : (b.length : Int) - count < first := by omega
  clear hbad
  go_enter Try.func40, Try.ntmps40
  go_wp2
  exact Grow.refl w
theorem setNil (first count : Int) (w : World) (R : Ending → World → Prop) (hR : ∀ w', Grow w w' → R (.returned (.int .i64 3)) w') :
    Calls Try.prog 40 #[.pointer none, .int .i64 first, .int .i64 count] w R := by
  go_enter Try.func40, Try.ntmps40
  go_wp2
  exact Grow.refl w
set_option maxRecDepth 100000 in
theorem setNone (p h c : Nat) (b : List Bool) (first : Int) (w : World) (m : Mk w p h c b) (hf : (Lit.int .i64 first).wf = true) (R : Ending → World → Prop) (hR : ∀ w', Grow w w' → R (.returned (.int .i64 0)) w') :
    Calls Try.prog 40 #[.pointer (some ⟨p, 0, none⟩), .int .i64 first, .int .i64 0] w R := by
  go_enter Try.func40, Try.ntmps40
  go_wp2_with fail
  go_loopw [39] (fun a wr => a = .int .i64 0 ∧ Grow w wr) (fun _ _ => 0)
  case atStart => exact ⟨rfl, Grow.refl w⟩
  case round =>
    obtain ⟨rfl, hg⟩ := hrel
    go_wp2
    exact hg
set_option maxRecDepth 100000 in
theorem setC (p h c : Nat) (b : List Bool) (first count : Nat) (w : World) (m : Mk w p h c b) (h1 : 1 ≤ count) (h2 : first + count ≤ b.length) (R : Ending → World → Prop)
    (hR : ∀ w', Mk w' p h c (mark b first count) → Keep [h] w w' → R (.returned (.int .i64 0)) w') :
    Calls Try.prog 40 #[.pointer (some ⟨p, 0, none⟩), .int .i64 first, .int .i64 count] w R := by
  have c0 := m.n 0 (by simp)
  simp only [List.getElem_cons_zero, Nat.zero_add] at c0
  have hn := m.max
  have f1 : decide ((first : Int) < 0) = false := by simp
  have f2 : decide (b.length < count) = false := by simp; omega
  have f3 : decide ((b.length : Int) - count < first) = false := by simp; omega
  have f4 : decide ((count : Int) < 0) = false := by simp
  go_enter Try.func40, Try.ntmps40
  go_wp2_with fail
  go_loopw [39] (fun a wr => ∃ i : Nat, a = .int .i64 (i : Int) ∧ i ≤ count ∧ Mk wr p h c (mark b first i) ∧ Keep [h] w wr) (fun a _ => count - (intOf a).toNat)
  case atStart => exact ⟨0, by simp, by omega, by rw [mark_zero]; exact m, Keep.refl _ _⟩
  case round =>
    obtain ⟨i, rfl, hi, hm, hk⟩ := hrel
    by_cases hlt : i < count
    · have c1 := hm.n 1 (by simp)
      simp only [List.getElem_cons_succ, List.getElem_cons_zero, Nat.zero_add, mark_len] at c1
      have e1 := KW.cell (fp := []) (p0 := tt) c1 (by simp)
      have hml := mark_len b first i
      obtain ⟨g', off', eg, hcs⟩ := hm.own.sl.hat (by omega)
      cases eg
      have c2 := hcs.at (pack_at (mark b first i) ((first + i) / 8) (by omega))
      rw [Nat.zero_add] at c2
      have hx8 := by8_lt (bt (mark b first i)) ((first + i) / 8)
      have e2 := KW.cell (fp := []) (p0 := tt) c2 (by simp)
      clear hcs
      go_wp2_with fail
      refine wp_region_R (segL wr) (by kernel_rfl) segL_drew ?_
      unfold segL segK segR
      repeat (first | (refine wpV_skp rfl rfl ?_; simp only [List.set_cons_succ, List.set_cons_zero]) | (refine wpV_look rfl rfl rfl rfl rfl (fun K hK => ?_); go_big_quiet_op; refine hK _ ?_; clear hK K))
      refine wpV_end0 rfl rfl (by kernel_rfl) (fun w4 hC hF => ?_)
      obtain ⟨⟨w4, hk4, -⟩, rfl⟩ := hC
      clear hF e1 e2 c1 c2
      have m4 := hm.keep hk4 (by simp) (by simp)
      obtain ⟨g, v, eg, hv, hfz, -⟩ := own_put m4.own (i := (first + i) / 8) (by omega)
      cases eg
      have hput := m4.put (b' := mark b first (i + 1)) (first + i) (by omega) (by rw [mark_len, mark_len]) (mark_succ b first i (by omega))
      unfold yields
      go_simp
      rw [or_val _ _ hx8 (by omega)]
      simp only [yUpon]
      have hk2 := (hk.trans (Keep.of_nil hk4)).trans (Keep.setCell (fp := [h]) w4 ⟨h, (first + i) / 8, none⟩ (by simp) (.int .u8 ((by8 (bt (mark b first i)) ((first + i) / 8) ||| 2 ^ ((first + i) % 8) : Nat) : Int)))
      clear hv hfz m4 hm
      go_wp2_with fail
      go_roundw
      case rel => exact ⟨i + 1, by go_num, by omega, hput, hk2⟩
      case measure => simp [intOf]; omega
    · obtain rfl : i = count := by omega
      go_wp2_with fail
      exact hR _ hm hk
end Go.Proofs.Ytoelddjmjhnbaaa
