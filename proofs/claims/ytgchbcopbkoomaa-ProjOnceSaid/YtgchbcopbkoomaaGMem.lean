/- Memory in words: what a slice reads, what a call owns, which blocks may have turned. · A region's operation whose guard says no, at a frame that is written out. · A block of a function's code, by its number: so a loop is a declaration of its own. · Structs built of parts that are whole arrays. · Slices with room of their own behind them: cut at the front, appended to. · Operations whose run is known by an equation; rows that are written; slices cut at plain addresses. · From what a reading of the arguments gives to what the walks ask. -/
import Derived.Test.YtgchbcopbkoomaaReg
import Derived.Maps.AppendAt
import Derived.Laws.BytesArg
import Derived.Laws.AppendOwnNone
import Derived.WalkSpells
import Derived.Deep.MidRow
import Derived.Lib.Hide
import Derived.WalkLawsBesides
import Derived.Deep.CutBlock
import Derived.Laws.Tables
import Derived.Laws.IdiomCopy
import Derived.Lib.AppendZerosOnto
import Derived.Lib.SliceRun
import Derived.Deep.Slices
import Derived.Deep.Fields
import Derived.Deep.Strs

namespace Go.Proofs.Ytgchbcopbkoomaa
open Go Go.RowKit

/-- All blocks but those named are as they were. -/
structure Keep (fp : List Nat) (w w' : World) : Prop where
  os : w'.os = w.os
  tape : w'.tape = w.tape
  output : w'.output = w.output
  size : w.heap.size ≤ w'.heap.size
  block : ∀ k, k < w.heap.size → k ∉ fp → w'.heap[k]? = w.heap[k]?
theorem Keep.refl (fp : List Nat) (w : World) : Keep fp w w := ⟨rfl, rfl, rfl, Nat.le_refl _, fun _ _ _ => rfl⟩
theorem Keep.trans {fp : List Nat} {a b c : World} (h : Keep fp a b) (k : Keep fp b c) : Keep fp a c :=
  ⟨k.os.trans h.os, k.tape.trans h.tape, k.output.trans h.output, Nat.le_trans h.size k.size, fun i hi hn => (k.block i (Nat.lt_of_lt_of_le hi h.size) hn).trans (h.block i hi hn)⟩
theorem Keep.mono {fp fp' : List Nat} {w w' : World} (h : Keep fp w w') (hs : ∀ k ∈ fp, k ∈ fp') : Keep fp' w w' :=
  ⟨h.os, h.tape, h.output, h.size, fun i hi hn => h.block i hi fun hm => hn (hs i hm)⟩
/-- What is named may also be new: a later step that turns only what is new, or named. -/
theorem Keep.trans' {fp fp' : List Nat} {a b c : World} (h : Keep fp a b) (k : Keep fp' b c) (hs : ∀ i ∈ fp', i ∈ fp ∨ a.heap.size ≤ i) : Keep fp a c :=
  ⟨k.os.trans h.os, k.tape.trans h.tape, k.output.trans h.output, Nat.le_trans h.size k.size, fun i hi hn =>
    (k.block i (Nat.lt_of_lt_of_le hi h.size) fun hm => by rcases hs i hm with h1 | h1; exact hn h1; omega).trans (h.block i hi hn)⟩
theorem Keep.of_grow {w w' : World} (fp : List Nat) (h : Grow w w') : Keep fp w w' := ⟨Below.os h, Below.tape h, Below.output h, Below.size h, fun i hi _ => Below.block h i hi⟩
theorem Keep.grow {w w' : World} (h : Keep [] w w') : Grow w w' := ⟨h.os, h.tape, h.output, h.size, fun i hi => h.block i hi (by simp)⟩
theorem Keep.below {fp : List Nat} {B : Nat} {w w' : World} (h : Keep fp w w') (hB : B ≤ w.heap.size) (hf : ∀ k ∈ fp, B ≤ k) : Below B w w' :=
  ⟨h.os, h.tape, h.output, h.size, fun i hi => h.block i (by omega) fun hm => by have := hf i hm; omega⟩
theorem Keep.of_below {fp : List Nat} {w w' : World} (h : Below w.heap.size w w') : Keep fp w w' := Keep.of_grow fp h
theorem Keep.drew (fp : List Nat) (w : World) : Keep fp w w.drew := Keep.of_grow fp (Grow.drew w)
theorem Keep.alloc (fp : List Nat) (w : World) (o : Obj) : Keep fp w (w.alloc o) := Keep.of_grow fp (Grow.alloc w o)
theorem Keep.setCell {fp : List Nat} (w : World) (p : Addr) (hp : p.block ∈ fp) (u : Value) : Keep fp w (w.setCell p u) :=
  ⟨rfl, rfl, rfl, by simp [World.setCell], fun k _ hn => Below.heap_setCell _ _ _ _ (by intro e; subst e; exact hn hp)⟩
theorem Keep.grown {fp : List Nat} {w w' : World} {row : Option Nat} (hg : w.grownBy w' row) (hr : ∀ k, row = some k → k ∈ fp) : Keep fp w w' :=
  ⟨hg.os, hg.tape, hg.output, hg.size, fun k hk hn => hg.block k hk fun e => hn (hr k e.symm)⟩
theorem Keep.obj {fp : List Nat} {w w' : World} (h : Keep fp w w') {k : Nat} {o : Obj} (hv : w.heap[k]? = some o) (hk : k ∉ fp) : w'.heap[k]? = some o :=
  (h.block k (Array.getElem?_eq_some_iff.1 hv).1 hk).trans hv
theorem Keep.cell {fp : List Nat} {w w' : World} (h : Keep fp w w') {p : Addr} {v : Value} (hv : w.cell? p = some v) (hk : p.block ∉ fp) : w'.cell? p = some v :=
  (World.cell?_of_block (w := w) (h.block p.block (World.block_lt_of_cell? w p hv) hk)).trans hv

/-- Worlds that have come out of one, but for the blocks named, and of which something is known. -/
structure KW (fp : List Nat) (p : World → Prop) (w0 : World) where
  w : World
  h : Keep fp w0 w
  p : p w
def tt : World → Prop := fun _ => True
instance KW.nonempty (fp : List Nat) (w0 : World) : Nonempty (KW fp tt w0) := ⟨⟨w0, Keep.refl fp w0, trivial⟩⟩
/-- FP: what may turn at all; fps i: what operation i may turn; p: what stays true. -/
def segR (FP : List Nat) (fps : Nat → List Nat) (p : World → Prop) (w0 : World) (es : List Nat) (V : Nat → Array Value → Value → World → Prop) (hf : ∀ i, ∀ k ∈ fps i, k ∈ FP)
    (hV : ∀ i j vs v w w', i ≠ j → Keep (fps i) w w' → V j vs v w → V j vs v w') : Seg where
  C w := ∃ n : KW FP p w0, w = n.w
  R i w w' := Keep (fps i) w w' ∧ p w'
  V := V
  es := es
  hC := fun i w w' ⟨n, h⟩ hr => ⟨⟨w', by subst h; exact Keep.trans n.h (hr.1.mono (hf i)), hr.2⟩, rfl⟩
  hV := fun i j vs v w w' hn _ hr h => hV i j vs v w w' hn hr.1 h
/-- Every operation may turn fp. -/
def segK (fp : List Nat) (w0 : World) (es : List Nat) (V : Nat → Array Value → Value → World → Prop) (hV : ∀ i vs v w w', Keep fp w w' → V i vs v w → V i vs v w') : Seg :=
  segR fp (fun _ => fp) tt w0 es V (fun _ _ h => h) (fun _ j vs v w w' _ hr h => hV j vs v w w' hr h)
/-- Only looking. -/
def segL (w0 : World) : Seg := segK [] w0 [] (fun _ _ _ _ => True) (fun _ _ _ _ _ _ h => h)
theorem segR_drew {FP : List Nat} {fps : Nat → List Nat} {p : World → Prop} {w0 : World} {es : List Nat} {V hf hV} (hp : p w0.drew) : (segR FP fps p w0 es V hf hV).C w0.drew := ⟨⟨w0.drew, Keep.drew FP w0, hp⟩, rfl⟩
theorem segL_drew {w0 : World} : (segL w0).C w0.drew := ⟨⟨w0.drew, Keep.drew _ w0, trivial⟩, rfl⟩
theorem segK_drew {fp : List Nat} {w0 : World} {es : List Nat} {V hV} : (segK fp w0 es V hV).C w0.drew := ⟨⟨w0.drew, Keep.drew _ w0, trivial⟩, rfl⟩
theorem segL_at {w0 : World} : (segL w0).C w0 := ⟨⟨w0, Keep.refl _ w0, trivial⟩, rfl⟩
theorem segK_at {fp : List Nat} {w0 : World} {es : List Nat} {V hV} : (segK fp w0 es V hV).C w0 := ⟨⟨w0, Keep.refl _ w0, trivial⟩, rfl⟩
theorem KW.cell {fp : List Nat} {p0 : World → Prop} {w0 : World} {p : Addr} {v : Value} (hv : w0.cell? p = some v) (hk : p.block ∉ fp) (n : KW fp p0 w0) : n.w.cell? p = some v := n.h.cell hv hk

/-- Blocks that were not there. -/
def Fr (a : List Nat) (w : World) : Prop := ∀ g ∈ a, w.heap.size ≤ g
/-- Blocks of b, or new ones. -/
def Inn (a b : List Nat) (w : World) : Prop := ∀ g ∈ a, g ∈ b ∨ w.heap.size ≤ g
def Dis (a b : List Nat) : Prop := ∀ g ∈ a, g ∉ b
/-- Blocks that were there. -/
def Old (a : List Nat) (w : World) : Prop := ∀ g ∈ a, g < w.heap.size

/-- What turns only what was new. -/
theorem Grow.then {fp : List Nat} {a b c : World} (h : Grow a b) (k : Keep fp b c) (hs : Fr fp a) : Grow a c :=
  ((Keep.of_grow [] h).trans' k fun i hi => .inr (hs i hi)).grow
theorem Fr.of_inn {a b : List Nat} {w w' : World} (h : Inn a b w') (hb : Fr b w) (hs : w.heap.size ≤ w'.heap.size) : Fr a w := fun g hg => by
  rcases h g hg with h | h
  · exact hb g h
  · omega
theorem Fr.mono {a : List Nat} {w w' : World} (h : Fr a w') (hs : w.heap.size ≤ w'.heap.size) : Fr a w := fun g hg => Nat.le_trans hs (h g hg)
/-- The cells xs lie at (g, off). -/
def Cells (w : World) (g off : Nat) (xs : List Value) : Prop := ∀ i (h : i < xs.length), w.cell? ⟨g, off + i, none⟩ = some xs[i]
theorem Cells.keep {fp : List Nat} {w w' : World} {g off : Nat} {xs : List Value} (h : Cells w g off xs) (k : Keep fp w w') (hg : g ∉ fp) : Cells w' g off xs :=
  fun i hi => k.cell (h i hi) hg
theorem Cells.at {w : World} {g off : Nat} {xs : List Value} (h : Cells w g off xs) {i : Nat} {v : Value} (hi : xs[i]? = some v) : w.cell? ⟨g, off + i, none⟩ = some v := by
  obtain ⟨hlt, rfl⟩ := List.getElem?_eq_some_iff.1 hi
  exact h i hlt
/-- The slice (ao, n, cap) of elements of sz cells reads xs. -/
structure Sl (w : World) (sz : Nat) (ao : Option Addr) (n cap : Nat) (xs : List Value) : Prop where
  hle : n ≤ cap
  hcap : cap ≤ maxLen
  hlen : xs.length = n * sz
  hone : ∀ u ∈ xs, u.oneCell' = true
  hnil : ao = none → cap = 0
  hat : 0 < n → ∃ g off, ao = some ⟨g, off, none⟩ ∧ Cells w g off xs
theorem Sl.none (w : World) (sz : Nat) : Sl w sz none 0 0 [] := ⟨Nat.le_refl _, Nat.zero_le _, by simp, by simp, fun _ => rfl, fun h => absurd h (by omega)⟩
/-- In which block it lies, if anywhere. -/
def blk : Option Addr → List Nat
  | some a => [a.block]
  | none => []
theorem Sl.keep {fp : List Nat} {w w' : World} {sz : Nat} {ao : Option Addr} {n cap : Nat} {xs : List Value} (h : Sl w sz ao n cap xs) (k : Keep fp w w') (hb : ∀ g ∈ blk ao, g ∉ fp) : Sl w' sz ao n cap xs :=
  ⟨h.hle, h.hcap, h.hlen, h.hone, h.hnil, fun hn => let ⟨g, off, e, hc⟩ := h.hat hn; ⟨g, off, e, hc.keep k (hb g (by rw [e]; simp [blk]))⟩⟩
theorem Sl.grow {w w' : World} {sz : Nat} {ao : Option Addr} {n cap : Nat} {xs : List Value} (h : Sl w sz ao n cap xs) (k : Grow w w') : Sl w' sz ao n cap xs :=
  h.keep (Keep.of_grow [] k) (by simp)
theorem add_plain (g off k : Nat) : (⟨g, off, none⟩ : Addr).add k = ⟨g, off + k, none⟩ := by unfold Addr.add; split <;> simp_all
/-- x[lo:hi], within the length. -/
theorem Sl.cut {w : World} {sz : Nat} {ao : Option Addr} {n cap : Nat} {xs : List Value} (h : Sl w sz ao n cap xs) {lo hi : Nat} (h1 : lo ≤ hi) (h2 : hi ≤ n) :
    Sl w sz (if cap = lo then ao else ao.map (·.add (lo * sz))) (hi - lo) (cap - lo) ((xs.drop (lo * sz)).take ((hi - lo) * sz)) := by
  have hc := h.hle
  refine ⟨by omega, by have := h.hcap; omega, ?_, fun u hu => h.hone u (List.drop_subset _ _ (List.take_subset _ _ hu)), ?_, fun hn => ?_⟩
  · have e : (hi - lo) * sz ≤ n * sz - lo * sz := by
      rw [← Nat.sub_mul]; exact Nat.mul_le_mul_right sz (by omega)
    simp only [List.length_take, List.length_drop, h.hlen]
    omega
  · split
    · intro he; have := h.hnil he; omega
    · intro he
      have : ao = Option.none := by simpa using he
      have := h.hnil this; omega
  · obtain ⟨g, off, rfl, hcell⟩ := h.hat (by omega)
    rw [if_neg (by omega)]
    refine ⟨g, off + lo * sz, by simp [add_plain], fun i hi' => ?_⟩
    have hlt : i < (xs.drop (lo * sz)).length := by simp only [List.length_take] at hi'; omega
    have hlt' : lo * sz + i < xs.length := by simp only [List.length_drop] at hlt; omega
    have := hcell (lo * sz + i) hlt'
    rw [Nat.add_assoc, this]
    simp [List.getElem_take, List.getElem_drop]
theorem blk_cut {ao : Option Addr} {cap lo k : Nat} : blk (if cap = lo then ao else ao.map (·.add k)) = blk ao := by
  split
  · rfl
  · cases ao with
    | none => rfl
    | some a => simp only [Option.map_some, blk, Addr.add]; split <;> rfl

/-- The slice is the call's own: it may be appended to. -/
structure Own (w : World) (e : TypeId) (sz : Nat) (ao : Option Addr) (n cap : Nat) (xs : List Value) : Prop where
  row : w.ownsRow 0 e sz (.slice ao n cap) n xs
  one : ∀ u ∈ xs, u.oneCell' = true
theorem Own.none (w : World) (e : TypeId) (sz : Nat) : Own w e sz none 0 0 [] := ⟨World.ownsRow_nil w 0 e sz, by simp⟩
theorem ownBlock_slice (ao : Option Addr) (n cap k : Nat) : (Value.slice ao n cap).ownBlock = some k ↔ k ∈ blk ao := by
  cases ao <;> simp [Value.ownBlock, blk, eq_comm]
theorem Own.keep {fp : List Nat} {w w' : World} {e : TypeId} {sz : Nat} {ao : Option Addr} {n cap : Nat} {xs : List Value} (h : Own w e sz ao n cap xs) (k : Keep fp w w') (hb : ∀ g ∈ blk ao, g ∉ fp) : Own w' e sz ao n cap xs := by
  refine ⟨⟨h.row.1, ?_⟩, h.one⟩
  rcases h.row.2 with hn | ⟨g, cap', cur, hv, hg, hh, r⟩
  · exact .inl hn
  · exact .inr ⟨g, cap', cur, hv, hg, k.obj hh (hb g ((ownBlock_slice ao n cap g).1 (by rw [hv]; rfl))), r⟩
theorem Own.grow {w w' : World} {e : TypeId} {sz : Nat} {ao : Option Addr} {n cap : Nat} {xs : List Value} (h : Own w e sz ao n cap xs) (k : Grow w w') : Own w' e sz ao n cap xs :=
  h.keep (Keep.of_grow [] k) (by simp)
theorem Own.lt {w : World} {e : TypeId} {sz : Nat} {ao : Option Addr} {n cap : Nat} {xs : List Value} (h : Own w e sz ao n cap xs) : ∀ g ∈ blk ao, g < w.heap.size := fun g hg =>
  (h.row.lt g ((ownBlock_slice ao n cap g).2 hg)).2
theorem Own.sl {w : World} {e : TypeId} {sz : Nat} {ao : Option Addr} {n cap : Nat} {xs : List Value} (h : Own w e sz ao n cap xs) : Sl w sz ao n cap xs := by
  rcases h.row.2 with ⟨hv, h0⟩ | ⟨g, cap', cur, hv, hg, hh, hle, hcap, hsz, htake⟩
  · obtain ⟨rfl, rfl, rfl⟩ : ao = Option.none ∧ n = 0 ∧ cap = 0 := by simpa using hv
    exact ⟨Nat.le_refl _, Nat.zero_le _, h.row.1, h.one, fun _ => rfl, fun h => absurd h (by omega)⟩
  · obtain ⟨rfl, rfl⟩ : ao = some ⟨g, 0, Option.none⟩ ∧ cap = cap' := by simpa using hv
    refine ⟨hle, hcap, h.row.1, h.one, by simp, fun _ => ⟨g, 0, rfl, fun i hi => ?_⟩⟩
    rw [Nat.zero_add, cell_of_row w g i cur e (0, 0) hh]
    subst htake
    simp only [List.length_take] at hi
    rw [List.getElem_take]
    simp
/-- A block that was made for it. -/
theorem Own.made {w : World} {e : TypeId} {sz g n : Nat} {cur : Array Value} (hh : w.heap[g]? = some (.cells cur e (0, 0))) (hs : cur.size = n * sz) (hm : n ≤ maxLen) (h1 : ∀ u ∈ cur.toList, u.oneCell' = true) :
    Own w e sz (some ⟨g, 0, Option.none⟩) n n cur.toList :=
  ⟨⟨by simpa using hs, .inr ⟨g, n, cur, rfl, Nat.zero_le _, hh, Nat.le_refl _, hm, hs, by rw [List.take_of_length_le (by simp [hs])]⟩⟩, h1⟩

/-- What is asked of a slice type. -/
structure ST (P : Program) (t e : TypeId) (sz bytes : Nat) : Prop where
  und : P.underlying t = some (.slice e)
  info : ∃ i z, P.info? e = some i ∧ i.zero = some z ∧ i.size = sz ∧ i.bytes = bytes ∧ z.cells.size = sz ∧ 0 < sz
theorem ST.mk' {P : Program} {t e : TypeId} {sz bytes : Nat} {z : Value} (hu : P.underlying t = some (.slice e)) (hi : (P.info? e).map (fun i => (i.zero, i.size, i.bytes)) = some (some z, sz, bytes)) (hz : z.cells.size = sz) (h0 : 0 < sz) : ST P t e sz bytes := by
  obtain ⟨i, h1, h2, h3, h4⟩ := info_parts hi
  exact ⟨hu, i, z, h1, h2, h3, h4, hz, h0⟩

theorem Own.front {w : World} {e : TypeId} {sz : Nat} {g n k cap : Nat} {xs ys : List Value} (h : Own w e sz (some ⟨g, 0, .none⟩) (n + k) cap (xs ++ ys)) (hl : xs.length = n * sz) : Own w e sz (some ⟨g, 0, .none⟩) n cap xs := by
  refine ⟨⟨hl, ?_⟩, fun u hu => h.one u (List.mem_append_left _ hu)⟩
  rcases h.row.2 with ⟨hv, _⟩ | ⟨g', cap', cur, hv, hg, hh, hle, hcap, hsz, htake⟩
  · simp at hv
  · obtain ⟨rfl, rfl⟩ : g = g' ∧ cap = cap' := by simpa using hv
    refine .inr ⟨g, cap, cur, rfl, hg, hh, by omega, hcap, hsz, ?_⟩
    have : List.take (n * sz) (List.take ((n + k) * sz) cur.toList) = xs := by rw [htake, ← hl]; exact List.take_left
    rw [List.take_take] at this
    rwa [Nat.min_eq_left (Nat.mul_le_mul_right sz (by omega))] at this

/-- append(s, x...), s the call's own, x whatever: what s itself read it reads still. -/
theorem run_app {P : Program} {t e : TypeId} {sz bytes : Nat} (T : ST P t e sz bytes) (w : World) (ty : TypeId) {ao : Option Addr} {n cap : Nat} {xs : List Value} (hs : Own w e sz ao n cap xs)
    {bo : Option Addr} {m c : Nat} {ys : List Value} (hx : Sl w sz bo m c ys) (h63 : n + m ≤ maxLen) (hb : (n + m) * bytes ≤ 140737488355328) :
    ∃ ao' cap' w', (Builtin.append_ #[t, t] ty #[.slice ao n cap, .slice bo m c]).run P w = .ok (.slice ao' (n + m) cap') w' ∧ Own w' e sz ao' (n + m) cap' (xs ++ ys) ∧ Own w' e sz ao n cap xs ∧ Keep (blk ao) w w' ∧
      ∀ g ∈ blk ao', g ∈ blk ao ∨ w.heap.size ≤ g := by
  obtain ⟨i, z, hi, hz, hsz, hby, hzs, h0⟩ := T.info
  have hone : ∀ u ∈ xs ++ ys, u.oneCell' = true := fun u hu => by rcases List.mem_append.1 hu with h | h; exact hs.one u h; exact hx.hone u h
  cases bo with
  | none =>
    obtain rfl := hx.hnil rfl
    obtain rfl : m = 0 := by have := hx.hle; omega
    obtain rfl : ys = [] := List.eq_nil_of_length_eq_zero (by simpa using hx.hlen)
    refine ⟨ao, cap, w, run_append_owned_none w 0 t ty e i sz T.und hi _ n xs hs.row, by simpa using hs, hs, Keep.refl _ _, fun g hg => .inl hg⟩
  | some a =>
    have hnews : ∀ j u, ys[j]? = some u → w.cell? (a.add j) = some u := fun j u hj => by
      rcases Nat.eq_zero_or_pos m with h | h
      · obtain rfl : ys = [] := List.eq_nil_of_length_eq_zero (by simpa [h] using hx.hlen)
        simp at hj
      · obtain ⟨g, off, e, hc⟩ := hx.hat h
        cases e
        rw [add_plain]
        exact hc.at hj
    rcases hs.row.2 with ⟨hv, hn0⟩ | ⟨g, cap', cur, hv, hg, hh, hle, hcap, hsz', htake⟩
    · obtain ⟨rfl, rfl, rfl⟩ : ao = Option.none ∧ n = 0 ∧ cap = 0 := by simpa using hv
      obtain ⟨v', w', hrun, hown, hgrow, _, hblk⟩ := run_append_own_at w 0 t ty e i z sz bytes T.und hi hz hsz hby hzs h0 _ 0 xs hs.row a m c ys hx.hlen hnews hx.hone h63 hb (Nat.zero_le _)
      have hform : ∃ ao' cap', v' = .slice ao' (0 + m) cap' := by
        rcases hown.2 with ⟨rfl, hz⟩ | ⟨g, cap', cur, rfl, _⟩
        · exact ⟨.none, 0, by rw [hz]⟩
        · exact ⟨_, _, rfl⟩
      obtain ⟨ao', cap', rfl⟩ := hform
      obtain rfl : xs = [] := List.eq_nil_of_length_eq_zero (by simpa using hs.row.1)
      refine ⟨ao', cap', w', hrun, ⟨hown, hone⟩, Own.none _ _ _, Keep.grown hgrow fun k hk => (ownBlock_slice .none 0 0 k).1 hk, fun g hg => ?_⟩
      have hg' := (ownBlock_slice ao' (0 + m) cap' g).2 hg
      rcases hblk with h | h
      · exact .inl ((ownBlock_slice .none 0 0 g).1 (by rw [← h]; exact hg'))
      · right
        rw [h] at hg'
        cases hg'
        exact Nat.le_refl _
    · obtain ⟨rfl, rfl⟩ : ao = some ⟨g, 0, Option.none⟩ ∧ cap = cap' := by simpa using hv
      by_cases hr : n + m ≤ cap
      · obtain ⟨w', hrun, hown, hgrow⟩ := run_append_fits w 0 t ty e i sz T.und hi hsz g n cap xs hs.row a m c ys hx.hlen hnews hx.hone hr
        have ho : Own w' e sz (some ⟨g, 0, Option.none⟩) (n + m) cap (xs ++ ys) := ⟨hown, hone⟩
        exact ⟨_, _, w', hrun, ho, ho.front hs.row.1, Keep.grown hgrow fun k hk => by cases hk; simp [blk], fun g hg => .inl hg⟩
      · have holds : ∀ j u, xs[j]? = some u → w.cell? ((⟨g, 0, .none⟩ : Addr).add j) = some u := fun j u hj => by
          have hlt := (List.getElem?_eq_some_iff.1 hj).1
          rcases Nat.eq_zero_or_pos n with h | h
          · have := hs.row.1; rw [h] at this; omega
          · obtain ⟨g', off, e, hc⟩ := hs.sl.hat h
            cases e
            rw [add_plain]
            exact hc.at hj
        obtain ⟨v', w', hrun, hown, hgrow⟩ := run_append_arg_grows w t ty e i z sz bytes T.und hi hz hsz hby hzs h0 ⟨g, 0, .none⟩ n cap xs hs.row.1 holds a m c ys hx.hlen hnews (by omega) h63 hb
        have hkeep : Keep [] w w' := Keep.grown hgrow fun k hk => by cases hk
        rcases hown.2 with ⟨rfl, hz⟩ | ⟨g', cap', cur', rfl, hg', hh', r'⟩
        · omega
        · exact ⟨_, _, w', hrun, ⟨⟨hown.1, .inr ⟨g', cap', cur', rfl, Nat.zero_le _, hh', r'⟩⟩, hone⟩, hs.keep hkeep (by simp), hkeep.mono (by simp), fun k hk => .inr (by simp [blk] at hk; omega)⟩

/-- x[l:h] -/
theorem run_cut {P : Program} {t e : TypeId} {sz bytes : Nat} (T : ST P t e sz bytes) {w : World} {ao : Option Addr} {n cap : Nat} {xs : List Value} (hs : Sl w sz ao n cap xs) (l h : Int) (lo hi : Nat) (hl : l = lo) (hh : h = hi) (h1 : lo ≤ hi) (h2 : hi ≤ n) :
    ∃ so sc, (∀ w', (Instr.sliceAt t (.slice ao n cap) (some (.int .i64 l)) (some (.int .i64 h)) none).run P w' = .ok (.slice so (hi - lo) sc) w') ∧ Sl w sz so (hi - lo) sc ((xs.drop (lo * sz)).take ((hi - lo) * sz)) ∧ blk so = blk ao := by
  obtain ⟨i, z, hi', hz, hsz, hby, hzs, h0⟩ := T.info
  have hc := hs.hle
  subst hl hh
  refine ⟨_, _, fun w' => ?_, hs.cut h1 h2, blk_cut⟩
  have e1 : (0 : Int) ≤ lo ∧ (lo : Int) ≤ (hi : Nat) := by omega
  have e2 : (0 : Int) ≤ hi ∧ (hi : Int) ≤ (cap : Nat) := by omega
  have e3 : lo ≤ hi ∧ hi ≤ cap := by omega
  simp [Instr.sliceAt, Instr.slice, run_underlying T.und, Instr.sliceBounds, Instr.sliceBound, asIntOf, e1, e2, sizeOf, typeInfo, hi', hsz, h1, show hi ≤ cap by omega]
/-- Bytes as cells, as a string. -/
def B (b : UInt8) : Value := .int .u8 (b.toNat : Int)
def str (l : List UInt8) : ByteArray := ⟨l.toArray⟩
@[go_sem] theorem str_toList (l : List UInt8) : (str l).toList = l := by rw [ByteArray.toList_eq]; rfl
theorem B_one (l : List UInt8) : ∀ u ∈ l.map B, u.oneCell' = true := by
  intro u hu; obtain ⟨b, _, rfl⟩ := List.mem_map.1 hu; rfl
theorem run_str {P : Program} {t e d : TypeId} (hs : P.underlying t = some (.slice e)) (he : P.underlying e = some (.int .u8)) (hd : P.underlying d = some .string) {w : World} {ao : Option Addr} {n cap : Nat} {l : List UInt8} (h : Sl w 1 ao n cap (l.map B)) :
    (convert t d (.slice ao n cap)).run P w = .ok (.string (str l)) w := by
  have hn : l.length = n := by have := h.hlen; simpa using this
  have e1 : ∀ l : List UInt8, (l.map (fun b : UInt8 => (b.toNat : Int))).map (fun n => UInt8.ofNat n.toNat) = l := fun l => by
    induction l with
    | nil => rfl
    | cons b l ih => simp [ih]
  have e2 : str l = strOfNums (l.map fun b => (b.toNat : Int)) := by
    unfold str strOfNums; rw [e1]
  cases n with
  | zero =>
    obtain rfl : l = [] := List.eq_nil_of_length_eq_zero hn
    cases ao with
    | none => exact run_convert_bytes_nil w t e hs he 0 cap d hd
    | some a =>
      have hl : (loadCells a 0).run P w = .ok (([] : List Int).map (Value.int .u8)).toArray w := run_loadCells_list (P := P) w a [] (fun j v hj => by simp at hj)
      rw [run_convert_bytes_string w t d e _ 0 cap hs he hd, run_bytesToString w a 0 cap [] hl, foldl_push_bytes]
      rfl
  | succ n =>
    obtain ⟨g, off, rfl, hc⟩ := h.hat (by omega)
    rw [e2]
    refine run_convert_bytes_arg w t e hs he g off (n + 1) cap _ (by simpa using hn) (fun i hi => ?_) d hd
    have := hc i (by simp; omega)
    rw [this]
    simp [B, show i < l.length by omega]
/-- append to what has no room: nothing that there was turns. -/
theorem run_app0 {P : Program} {t e : TypeId} {sz bytes : Nat} (T : ST P t e sz bytes) (w : World) (ty : TypeId) {ao : Option Addr} (hs : Own w e sz ao 0 0 [])
    {bo : Option Addr} {m c : Nat} {ys : List Value} (hx : Sl w sz bo m c ys) (h63 : m ≤ maxLen) (hb : m * bytes ≤ 140737488355328) :
    ∃ ao' cap' w', (Builtin.append_ #[t, t] ty #[.slice ao 0 0, .slice bo m c]).run P w = .ok (.slice ao' m cap') w' ∧ Own w' e sz ao' m cap' ys ∧ Grow w w' ∧
      ∀ g ∈ blk ao', g ∈ blk ao ∨ w.heap.size ≤ g := by
  by_cases hm : m = 0
  · subst hm
    obtain rfl : ys = [] := List.eq_nil_of_length_eq_zero (by simpa using hx.hlen)
    obtain ⟨i, z, hi, hz, hsz, hby, hzs, h0⟩ := T.info
    refine ⟨ao, 0, w, ?_, hs, Grow.refl w, fun g hg => .inl hg⟩
    rcases hs.row.2 with ⟨hv, _⟩ | ⟨g, cap', cur, hv, _, hh, hle, hcap, hsz', htake⟩
    · obtain ⟨rfl, _⟩ : ao = Option.none ∧ True := by simpa using hv
      cases bo with
      | none => simp [Builtin.append_, run_underlying T.und, sizeOf, typeInfo, hi, Builtin.lenOf, Builtin.firstCells]
      | some a =>
        have hf := run_firstCells_some (P := P) w i.size 0 a 0 c [] (by simp) (by simp)
        simp [Builtin.append_, run_underlying T.und, sizeOf, typeInfo, hi, Builtin.lenOf, hf]
    · obtain ⟨rfl, rfl⟩ : ao = some ⟨g, 0, Option.none⟩ ∧ 0 = cap' := by simpa using hv
      cases bo with
      | none => simp [Builtin.append_, run_underlying T.und, sizeOf, typeInfo, hi, Builtin.lenOf, Builtin.firstCells, storeCells]
      | some a =>
        have hf := run_firstCells_some (P := P) w i.size 0 a 0 c [] (by simp) (by simp)
        simp [Builtin.append_, run_underlying T.und, sizeOf, typeInfo, hi, Builtin.lenOf, hf, storeCells]
  · cases ao with
    | none =>
      obtain ⟨ao', cap', w', h1, h2, _, h3, h4⟩ := run_app T w ty hs hx (by omega) (by simpa using hb)
      simp only [Nat.zero_add, List.nil_append] at h1 h2
      exact ⟨ao', cap', w', h1, h2, h3.grow, h4⟩
    | some a =>
      obtain ⟨i, z, hi, hz, hsz, hby, hzs, h0⟩ := T.info
      obtain ⟨g, off, rfl, hc⟩ := hx.hat (by omega)
      have hnews : ∀ j u, ys[j]? = some u → w.cell? ((⟨g, off, .none⟩ : Addr).add j) = some u := fun j u hj => by rw [add_plain]; exact hc.at hj
      obtain ⟨v', w', hrun, hown, hgrow⟩ := run_append_arg_grows w t ty e i z sz bytes T.und hi hz hsz hby hzs h0 a 0 0 [] (by simp) (by simp) _ m c ys hx.hlen hnews (by omega) (by omega) (by simpa using hb)
      have hkeep : Keep [] w w' := Keep.grown hgrow fun k hk => by cases hk
      simp only [Nat.zero_add, List.nil_append] at hrun hown
      rcases hown.2 with ⟨rfl, hz⟩ | ⟨g', cap', cur', rfl, hg', hh', r'⟩
      · omega
      · exact ⟨_, _, w', hrun, ⟨⟨hown.1, .inr ⟨g', cap', cur', rfl, Nat.zero_le _, hh', r'⟩⟩, hx.hone⟩, hkeep.grow, fun k hk => .inr (by simp [blk] at hk; omega)⟩
/-- A struct or an array out of memory. -/
theorem run_ld {P : Program} {t : TypeId} {d : TypeDesc} {cs : List Value} (hu : P.underlying t = some d) (hd : d.isRow = true) (hi : (P.info? t).map (·.size) = some cs.length) {w : World} {g o : Nat} (h : Cells w g o cs) :
    (Instr.loadAt t (.pointer (some ⟨g, o, none⟩))).run P w = .ok (.agg cs.toArray) w :=
  run_loadAt_mid w g o t cs d (fun _ _ hj => h.at hj) hu hd hi
theorem exec_load {P : Program} {dst : Option Tmp} {t ty : TypeId} {x : Operand} {pos : String} {after : Array Edge} {gd : Option (Nat × Bool)} {ρ : Operand → Value} {w : World} {v : Value} (h : (Instr.loadAt t (ρ x)).run P w = .ok v w) :
    (execOp ρ ⟨dst, .load t x, ty, pos, after, gd⟩).run P w = .ok (.value v) w := by
  have : execOp ρ ⟨dst, .load t x, ty, pos, after, gd⟩ = (do pure (Next.value (← Instr.loadAt t (ρ x)))) := rfl
  rw [this, Sem.run_bind, h]; rfl
theorem Cells.sub {w : World} {g off : Nat} {xs ys : List Value} {k : Nat} (h : Cells w g off xs) (hs : ∀ i (hi : i < ys.length), xs[k + i]? = some ys[i]) : Cells w g (off + k) ys := fun i hi => by
  rw [Nat.add_assoc]; exact h.at (hs i hi)
/-- x[:h] -/
theorem run_cut0 {P : Program} {t e : TypeId} {sz bytes : Nat} (T : ST P t e sz bytes) {w : World} {ao : Option Addr} {n cap : Nat} {xs : List Value} (hs : Sl w sz ao n cap xs) (h : Int) (hi : Nat) (hh : h = hi) (h2 : hi ≤ n) :
    ∃ so sc, (∀ w', (Instr.sliceAt t (.slice ao n cap) none (some (.int .i64 h)) none).run P w' = .ok (.slice so hi sc) w') ∧ Sl w sz so hi sc (xs.take (hi * sz)) ∧ blk so = blk ao := by
  obtain ⟨i, z, hi', -, -, -, -, -⟩ := T.info
  have hc := hs.hle
  subst hh
  have hcut := hs.cut (Nat.zero_le hi) h2
  simp only [Nat.zero_mul, List.drop_zero, Nat.sub_zero] at hcut
  refine ⟨_, _, fun w' => ?_, hcut, blk_cut⟩
  have e2 : (0 : Int) ≤ hi ∧ (hi : Int) ≤ (cap : Nat) := by omega
  simp [Instr.sliceAt, Instr.slice, run_underlying T.und, Instr.sliceBounds, Instr.sliceBound, asIntOf, e2, sizeOf, typeInfo, hi', show hi ≤ cap by omega]
/-- x[l:] -/
theorem run_cut1 {P : Program} {t e : TypeId} {sz bytes : Nat} (T : ST P t e sz bytes) {w : World} {ao : Option Addr} {n cap : Nat} {xs : List Value} (hs : Sl w sz ao n cap xs) (l : Int) (lo : Nat) (hl : l = lo) (h1 : lo ≤ n) :
    ∃ so sc, (∀ w', (Instr.sliceAt t (.slice ao n cap) (some (.int .i64 l)) none none).run P w' = .ok (.slice so (n - lo) sc) w') ∧ Sl w sz so (n - lo) sc (xs.drop (lo * sz)) ∧ blk so = blk ao := by
  obtain ⟨i, z, hi', hz, hsz, hby, hzs, h0⟩ := T.info
  have hc := hs.hle
  subst hl
  have hcut := hs.cut h1 (Nat.le_refl n)
  rw [List.take_of_length_le (by simp [hs.hlen, Nat.sub_mul])] at hcut
  refine ⟨_, _, fun w' => ?_, hcut, blk_cut⟩
  have e2 : (0 : Int) ≤ lo ∧ (lo : Int) ≤ (n : Nat) := by omega
  simp [Instr.sliceAt, Instr.slice, run_underlying T.und, Instr.sliceBounds, Instr.sliceBound, asIntOf, e2, sizeOf, typeInfo, hi', hsz, h1]
theorem obj_cell {w : World} {p : Nat} {c : Array Value} {e : TypeId} {fr : Nat × Nat} (h : w.heap[p]? = some (.cells c e fr)) (i : Nat) {v : Value} (hv : c[i]? = some v) : w.cell? ⟨p, i, none⟩ = some v := by rw [cell_of_row w p i c e fr h, hv]
theorem obj_free {w : World} {p : Nat} {c : Array Value} {e : TypeId} (h : w.heap[p]? = some (.cells c e (0, 0))) (i : Nat) : w.frozen? ⟨p, i, none⟩ = false := by simp [World.frozen?, h]
theorem obj_set {w : World} {p : Nat} {c : Array Value} {e : TypeId} {fr : Nat × Nat} (h : w.heap[p]? = some (.cells c e fr)) (i : Nat) (v : Value) : (w.setCell ⟨p, i, none⟩ v).heap[p]? = some (.cells (c.setIfInBounds i v) e fr) := by
  simp [World.setCell, Array.getElem?_modify, h]

/-! ### Steps of a region -/
theorem Keep.of_nil {fp : List Nat} {w w' : World} (h : Keep [] w w') : Keep fp w w' := h.mono (by simp)
theorem yields_run {P : Program} {o : Oper} {ρ : Operand → Value} {w w' : World} {K : Value → World → Prop} {v : Value} (h : (execOp ρ o).run P w = .ok (.value v) w') (k : K v w') : yields P o ρ w K := by
  unfold yields; rw [h]; exact k
def isGo (P : Program) (f : FuncId) : Bool := match P.funcs[f]? with
  | some fn => !(fn.name == "runtime.NumGoroutine") && fn.body.isSome
  | none => false
theorem run_callFunc {P : Program} {f : FuncId} (hgo : isGo P f = true) (args : Array Value) (w : World) : (callFunc f args).run P w = .ok (.enter f args) w := by
  unfold isGo at hgo
  split at hgo
  · rename_i fn hf
    simp only [Bool.and_eq_true, Bool.not_eq_true', beq_eq_false_iff_ne, ne_eq, Option.isSome_iff_exists] at hgo
    obtain ⟨hn, body, hb⟩ := hgo
    simp [callFunc, hf, hn, hb]
  · cases hgo
theorem yields_call {P : Program} {dst : Option Tmp} {f : FuncId} {args : List Operand} {ats : Array TypeId} {ty : TypeId} {pos : String} {after : Array Edge} {guard : Option (Nat × Bool)} {a : Act} {w : World} {K : Value → World → Prop}
    (hgo : isGo P f = true) (h : Calls P f (args.map a.eval).toArray w fun e w' => ∃ v, e = .returned v ∧ K v w') :
    yields P ⟨dst, .call { callee := .value (.func f), args := args.toArray, argTypes := ats }, ty, pos, after, guard⟩ a.eval w K := by
  unfold yields
  rw [execOp_call_go, run_callFunc hgo]
  simpa [yUpon] using h
theorem run_exec_append {P : Program} {dst : Option Tmp} {s x : Operand} {t ty : TypeId} {pos : String} {after : Array Edge} {guard : Option (Nat × Bool)} {ρ : Operand → Value} {w w' : World} {v : Value}
    (h : (Builtin.append_ #[t, t] ty #[ρ s, ρ x]).run P w = .ok v w') :
    (execOp ρ ⟨dst, .call { callee := .builtin .append, args := #[s, x], argTypes := #[t, t] }, ty, pos, after, guard⟩).run P w = .ok (.value v) w' := by
  simp only [BigFrame.execOp_builtin, BigFrame.builtin_append, List.map_toArray, List.map_cons, List.map_nil, Sem.run_bind, h, Result.andThen_ok, Sem.run_pure]

/-- append in a walk. -/
theorem wpList_app {P : Program} {t e : TypeId} {sz bytes : Nat} (T : ST P t e sz bytes) {w : World} {ops : Array Oper} {rest : List Oper} {a : Act} {Q : Exit → Act → World → Prop}
    {dst : Option Tmp} {s x : Operand} {ty : TypeId} {pos : String} {after : Array Edge} {ao : Option Addr} {n cap : Nat} {xs : List Value} {bo : Option Addr} {m c : Nat} {ys : List Value}
    (hs : a.eval s = .slice ao n cap) (hx : a.eval x = .slice bo m c) (ho : Own w e sz ao n cap xs) (hy : Sl w sz bo m c ys) (h63 : n + m ≤ maxLen) (hb : (n + m) * bytes ≤ 140737488355328)
    (k : ∀ ao' cap' w', Own w' e sz ao' (n + m) cap' (xs ++ ys) → Own w' e sz ao n cap xs → Keep (blk ao) w w' → (∀ g ∈ blk ao', g ∈ blk ao ∨ w.heap.size ≤ g) → wpList P ops Q rest (a.put dst (.slice ao' (n + m) cap')) w') :
    wpList P ops Q (⟨dst, .call { callee := .builtin .append, args := #[s, x], argTypes := #[t, t] }, ty, pos, after, none⟩ :: rest) a w := by
  obtain ⟨ao', cap', w', hr, h1, h2, h3, h4⟩ := run_app T w ty ho hy h63 hb
  refine wpList_plain rfl fun K hK => ?_
  unfold Oper.wp
  rw [run_exec_append (by rw [hs, hx]; exact hr)]
  exact hK _ _ (k ao' cap' w' h1 h2 h3 h4)
end Go.Proofs.Ytgchbcopbkoomaa

namespace Go.Proofs.Ytgchbcopbkoomaa
open Go Go.RowKit
/-- What an operation of a region leaves: a value; a slice of the call's own. -/
def vIs (x : Value) : Value → World → Prop := fun v _ => v = x
def vOwn (e : TypeId) (sz n : Nat) (xs : List Value) : Value → World → Prop := fun v w => ∃ ao c, v = .slice ao n c ∧ Own w e sz ao n c xs
theorem vOwn.st {e : TypeId} {sz n : Nat} {xs : List Value} {v : Value} {w w' : World} (k : Keep [] w w') (h : vOwn e sz n xs v w) : vOwn e sz n xs v w' :=
  let ⟨ao, c, hv, ho⟩ := h; ⟨ao, c, hv, ho.keep k (by simp)⟩
theorem vIs.st {x : Value} {v : Value} {w w' : World} (_ : Keep [] w w') (h : vIs x v w) : vIs x v w' := h
theorem wpV_skp {P : Program} {ops : Array Oper} {bm : Array Nat} {fr : List Nat} {Q : Exit → Act → World → Prop} {k : Nat} {S : Seg} {l : List Value} {df : List Deferred} {F : Facts} {dst : Nat} {op : Op} {ty : TypeId} {pos : String} {after : Array Edge} {gd : Option (Nat × Bool)} {rest : List Oper} (hi : ops[k]? = some ⟨some dst, op, ty, pos, after, gd⟩)
    (hw : Region.wanted ⟨some dst, op, ty, pos, after, gd⟩ (yielded ops l.toArray) = false)
    (h : wpV P ops bm fr Q rest (k + 1) S ⟨(l.set dst undef).toArray, df⟩ F) : wpV P ops bm fr Q (⟨some dst, op, ty, pos, after, gd⟩ :: rest) k S ⟨l.toArray, df⟩ F :=
  wpV_skip hi hw (by simpa [Act.put] using h)
end Go.Proofs.Ytgchbcopbkoomaa

namespace Go.Proofs.Ytgchbcopbkoomaa
open Go Go.RowKit

def findB (n : Nat) : Code → Option Code
  | .block i c => if i = n then some (.block i c) else findB n c
  | .loop c => findB n c
  | .scope c => findB n c
  | .seq a b => match findB n a with
    | some c => some c
    | none => findB n b
  | .cond _ a b => match findB n a with
    | some c => some c
    | none => findB n b
  | _ => none
noncomputable def blockAt (f : Func) (n : Nat) : Code := ((f.body.getD .skip |> findB n)).getD .skip
def findR (n : Nat) : Code → Option Code
  | .region i o b => if i = n then some (.region i o b) else none
  | .block _ c => findR n c
  | .loop c => findR n c
  | .scope c => findR n c
  | .seq a b => match findR n a with
    | some c => some c
    | none => findR n b
  | .cond _ a b => match findR n a with
    | some c => some c
    | none => findR n b
  | _ => none
noncomputable def regionAt (f : Func) (n : Nat) : Code := ((f.body.getD .skip |> findR n)).getD .skip
end Go.Proofs.Ytgchbcopbkoomaa

namespace Go.Proofs.Ytgchbcopbkoomaa
open Go Go.RowKit

/-- vs in the place of what was there from off on. -/
def splice (l : List Value) (off : Nat) (vs : List Value) : List Value := l.take off ++ vs ++ l.drop (off + vs.length)
theorem splice_len (l : List Value) (off : Nat) (vs : List Value) (h : off + vs.length ≤ l.length) : (splice l off vs).length = l.length := by
  simp [splice]; omega
theorem fold_splice (off : Nat) : ∀ (vs : List Value) (k : Nat) (cs : Array Value), off + k + vs.length ≤ cs.size →
    ((vs.zipIdx k).foldl (fun (cs : Array Value) (x : Value × Nat) => cs.setIfInBounds (off + x.2) x.1) cs).toList = cs.toList.take (off + k) ++ vs ++ cs.toList.drop (off + k + vs.length)
  | [], k, cs, _ => by simp
  | v :: vs, k, cs, h => by
    simp only [List.length_cons] at h
    rw [List.zipIdx_cons, List.foldl_cons, fold_splice off vs (k + 1) _ (by simp; omega), Array.toList_setIfInBounds]
    rw [show off + (k + 1) = (off + k) + 1 by omega, List.take_add_one, List.take_set_of_le (by omega), List.getElem?_set_self (by simp; omega), List.drop_set_of_lt (by omega)]
    simp only [Option.toList_some, List.append_assoc, List.cons_append, List.nil_append, List.length_cons]
    rw [show off + k + 1 + vs.length = off + k + (vs.length + 1) by omega]
theorem fill_cons {place : Nat → Option (Nat × Nat)} {cells : List Value} {i off size : Nat} {v : Value} {vs : List Value} {rest : List (Nat × Value)} (hp : place i = some (off, size)) (hv : v.cells = vs.toArray) (hs : vs.length = size) (hf : off + size ≤ cells.length) :
    Instr.fill place cells.toArray ((i, v) :: rest) = Instr.fill place (splice cells off vs).toArray rest := by
  rw [Instr.fill, hp]
  simp only [hv, List.size_toArray]
  rw [if_neg (by simp; omega)]
  congr 1
  have := fold_splice off vs 0 cells.toArray (by simp; omega)
  simp only [Nat.add_zero] at this
  have e : (vs.toArray.zipIdx.foldl (fun (cs : Array Value) (x : Value × Nat) => cs.setIfInBounds (off + x.2) x.1) cells.toArray) = (splice cells off vs).toArray := by
    apply Array.toList_inj.1
    rw [← Array.foldl_toList, Array.toList_zipIdx]
    simpa [splice] using this
  exact e
theorem fill_nil {place : Nat → Option (Nat × Nat)} {cells : Array Value} : Instr.fill place cells [] = some cells := rfl
/-- A struct built of parts. -/
theorem built_struct {P : Program} {t : TypeId} {fields : Array Field} {n : Nat} (hu : P.underlying t = some (.struct fields)) (hz : (P.info? t).map (fun i => i.zero.map (·.cells.size)) = some (some n))
    {places : List (Nat × Nat)} (hp : fields.toList.mapM (fun f => (P.info? f.type).map fun i => (f.offset, i.size)) = some places) {parts : List (Nat × Value)} {cells : List Value}
    (h : ∀ Z : List Value, Z.length = n → Instr.fill (places.toArray[·]?) Z.toArray parts = some cells.toArray) : P.built t parts = some cells.toArray := by
  unfold Program.built
  cases hi : P.info? t with
  | none => rw [hi] at hz; cases hz
  | some it =>
    cases hzz : it.zero with
    | none => rw [hi] at hz; simp [hzz] at hz
    | some z =>
      rw [hi] at hz
      simp only [Option.map_some, hzz, Option.some.injEq] at hz
      have := h z.cells.toList (by simpa using hz)
      simpa [hu, hzz, hp] using this
theorem splice_all (l vs : List Value) (h : vs.length = l.length) : splice l 0 vs = vs := by
  simp [splice, h]
theorem splice_first (l vs : List Value) : splice l 0 vs = vs ++ l.drop vs.length := by simp [splice]
theorem splice_next (a l vs : List Value) (off : Nat) (h : a.length = off) : splice (a ++ l) off vs = a ++ vs ++ l.drop vs.length := by
  subst h
  simp [splice, List.drop_append]
/-- .. in a walk. -/
theorem wpList_built {P : Program} {w : World} {ops : Array Oper} {rest : List Oper} {o : Oper} {a : Act} {Q : Exit → Act → World → Prop} (hg : o.guard = none) (t : TypeId) (ps : List (Nat × Operand)) (ho : o.op = .build t ps.toArray) {vs : List (Nat × Value)} {cells : Array Value}
    (hv : (ps.map fun (i, x) => (i, a.eval x)) = vs) (h : P.built t vs = some cells) (k : wpList P ops Q rest (a.put o.dst (.agg cells)) w) :
    wpList P ops Q (o :: rest) a w := by
  subst hv
  refine wpList_plain hg fun K hK => ?_
  unfold Oper.wp
  have e : (execOp a.eval o).run P w = .ok (.value (.agg cells)) w := by
    unfold execOp
    simp only [ho, Sem.run_bind, List.map_toArray, run_build w t (ps.map fun (i, x) => (i, a.eval x)).toArray cells (by simpa using h), Result.andThen_ok, Sem.run_pure]
  rw [e]
  exact hK _ _ k
end Go.Proofs.Ytgchbcopbkoomaa

namespace Go.Proofs.Ytgchbcopbkoomaa
open Go Go.RowKit

/-- The slice reads xs; what lies behind it, up to its capacity, may be written. -/
structure Spr (w : World) (sz : Nat) (ao : Option Addr) (n cap : Nat) (xs : List Value) : Prop where
  sl : Sl w sz ao n cap xs
  spare : ∀ g off, ao = some ⟨g, off, none⟩ → ∀ j, n * sz ≤ j → j < cap * sz → (w.cell? ⟨g, off + j, none⟩).isSome = true ∧ w.frozen? ⟨g, off + j, none⟩ = false
  form : 0 < cap → ∃ g off, ao = some ⟨g, off, none⟩
  lt : ∀ g ∈ blk ao, g < w.heap.size
theorem Spr.none (w : World) (sz : Nat) : Spr w sz none 0 0 [] := ⟨Sl.none w sz, by simp, by simp, by simp [blk]⟩
theorem frozen_of_block {w w' : World} {x : Addr} (h : w'.heap[x.block]? = w.heap[x.block]?) : w'.frozen? x = w.frozen? x := by
  simp [World.frozen?, h]
theorem Spr.keep {fp : List Nat} {w w' : World} {sz : Nat} {ao : Option Addr} {n cap : Nat} {xs : List Value} (h : Spr w sz ao n cap xs) (k : Keep fp w w') (hb : ∀ g ∈ blk ao, g ∉ fp) : Spr w' sz ao n cap xs := by
  refine ⟨h.sl.keep k hb, fun g off e j h1 h2 => ?_, h.form, fun g hg => Nat.lt_of_lt_of_le (h.lt g hg) k.size⟩
  have hg : g ∈ blk ao := by rw [e]; simp [blk]
  have hbk := k.block g (h.lt g hg) (hb g hg)
  obtain ⟨s1, s2⟩ := h.spare g off e j h1 h2
  exact ⟨by rw [World.cell?_of_block (w := w) hbk]; exact s1, by rw [frozen_of_block (w := w) hbk]; exact s2⟩
theorem Spr.grow {w w' : World} {sz : Nat} {ao : Option Addr} {n cap : Nat} {xs : List Value} (h : Spr w sz ao n cap xs) (k : Grow w w') : Spr w' sz ao n cap xs :=
  h.keep (Keep.of_grow [] k) (by simp)
theorem Own.spr {w : World} {e : TypeId} {sz : Nat} {ao : Option Addr} {n cap : Nat} {xs : List Value} (h : Own w e sz ao n cap xs) : Spr w sz ao n cap xs := by
  refine ⟨h.sl, fun g off eg j h1 h2 => ?_, fun hc => ?_, h.lt⟩
  · rcases h.row.2 with ⟨hv, -⟩ | ⟨g', cap', cur, hv, -, hh, -, -, hsz, -⟩
    · subst eg; simp at hv
    · subst eg
      simp only [Value.slice.injEq, Option.some.injEq, Addr.mk.injEq, and_true] at hv
      obtain ⟨⟨rfl, rfl⟩, -, rfl⟩ := hv
      rw [Nat.zero_add]
      refine ⟨?_, obj_free hh j⟩
      rw [cell_of_row w g j cur e (0, 0) hh, Array.getElem?_eq_getElem (by omega)]
      rfl
  · rcases h.row.2 with ⟨hv, -⟩ | ⟨g', cap', cur, hv, -⟩
    · simp only [Value.slice.injEq] at hv; omega
    · simp only [Value.slice.injEq] at hv; exact ⟨_, _, hv.1⟩
/-- x[l:] -/
theorem Spr.cut1 {w : World} {sz : Nat} {ao : Option Addr} {n cap : Nat} {xs : List Value} (h : Spr w sz ao n cap xs) {lo : Nat} (h1 : lo ≤ n) :
    Spr w sz (if cap = lo then ao else ao.map (·.add (lo * sz))) (n - lo) (cap - lo) (xs.drop (lo * sz)) := by
  have hc := h.sl.hle
  have hcut := h.sl.cut h1 (Nat.le_refl n)
  rw [List.take_of_length_le (by simp [h.sl.hlen, Nat.sub_mul])] at hcut
  refine ⟨hcut, fun g off e j h2 h3 => ?_, fun hp => ?_, fun g hg => h.lt g (by rwa [blk_cut] at hg)⟩
  · by_cases e' : cap = lo
    · subst e'; simp at h3
    · rw [if_neg e'] at e
      obtain ⟨g0, off0, rfl⟩ := h.form (by omega)
      simp only [Option.map_some, add_plain, Option.some.injEq, Addr.mk.injEq, and_true] at e
      obtain ⟨rfl, rfl⟩ := e
      rw [Nat.add_assoc]
      rw [Nat.sub_mul] at h2 h3
      exact h.spare _ _ rfl (lo * sz + j) (by omega) (by omega)
  · rw [if_neg (by omega)]
    obtain ⟨g0, off0, rfl⟩ := h.form (by omega)
    exact ⟨g0, off0 + lo * sz, by simp [add_plain]⟩
theorem run_cut1S {P : Program} {t e : TypeId} {sz bytes : Nat} (T : ST P t e sz bytes) {w : World} {ao : Option Addr} {n cap : Nat} {xs : List Value} (hs : Spr w sz ao n cap xs) (l : Int) (lo : Nat) (hl : l = lo) (h1 : lo ≤ n) :
    ∃ so sc, (∀ w', (Instr.sliceAt t (.slice ao n cap) (some (.int .i64 l)) none none).run P w' = .ok (.slice so (n - lo) sc) w') ∧ Spr w sz so (n - lo) sc (xs.drop (lo * sz)) ∧ blk so = blk ao := by
  obtain ⟨i, z, hi', hz, hsz, hby, hzs, h0⟩ := T.info
  have hc := hs.sl.hle
  subst hl
  refine ⟨_, _, fun w' => ?_, hs.cut1 h1, blk_cut⟩
  have e2 : (0 : Int) ≤ lo ∧ (lo : Int) ≤ (n : Nat) := by omega
  simp [Instr.sliceAt, Instr.slice, run_underlying T.und, Instr.sliceBounds, Instr.sliceBound, asIntOf, e2, sizeOf, typeInfo, hi', hsz, h1]
theorem run_cut1A {P : Program} {t e : TypeId} {sz bytes : Nat} (T : ST P t e sz bytes) (ao : Option Addr) (n cap : Nat) (lo : Nat) (h1 : lo ≤ n) :
    ∃ so sc, (∀ w' : World, (Instr.sliceAt t (.slice ao n cap) (some (.int .i64 (lo : Int))) none none).run P w' = .ok (.slice so (n - lo) sc) w') ∧ (∀ w' xs, Spr w' sz ao n cap xs → Spr w' sz so (n - lo) sc (xs.drop (lo * sz))) ∧ blk so = blk ao := by
  obtain ⟨i, z, hi', hz, hsz, hby, hzs, h0⟩ := T.info
  refine ⟨_, _, fun w' => ?_, fun w' xs hs => hs.cut1 h1, blk_cut⟩
  have e2 : (0 : Int) ≤ lo ∧ (lo : Int) ≤ (n : Nat) := by omega
  simp [Instr.sliceAt, Instr.slice, run_underlying T.und, Instr.sliceBounds, Instr.sliceBound, asIntOf, e2, sizeOf, typeInfo, hi', hsz, h1]
/-- What was stored in a row reads back; what was apart is as it was. -/
theorem Cells.stored {w : World} {g off : Nat} {xs ys : List Value} (hx : Cells w g off xs) (hs : ∀ j, j < ys.length → (w.cell? ⟨g, off + xs.length + j, none⟩).isSome = true) : Cells (w.setCells g (off + xs.length) ys) g off (xs ++ ys) := fun i hi => by
  by_cases h : i < xs.length
  · rw [List.getElem_append_left h, World.cell?_setCells_out]
    · exact hx i h
    · intro _ _; left; show off + i < off + xs.length; omega
  · rw [List.length_append] at hi
    rw [List.getElem_append_right (by omega)]
    have := World.cell?_setCells_in g ys (off + xs.length) w hs (i - xs.length) (by omega)
    rwa [show off + xs.length + (i - xs.length) = off + i by omega] at this
theorem Keep.setCellsS (g : Nat) : ∀ (vs : List Value) (o : Nat) (w : World), Keep [g] w (w.setCells g o vs)
  | [], _, w => Keep.refl _ w
  | v :: r, o, w => (Keep.setCell (fp := [g]) w ⟨g, o, none⟩ (by simp) v).trans (Keep.setCellsS g r (o + 1) _)
/-- append(s, x...) -/
theorem run_appS {P : Program} {t e : TypeId} {sz bytes : Nat} (T : ST P t e sz bytes) (w : World) (ty : TypeId) {ao : Option Addr} {n cap : Nat} {xs : List Value} (hs : Spr w sz ao n cap xs)
    {bo : Option Addr} {m c : Nat} {ys : List Value} (hx : Sl w sz bo m c ys) (h63 : n + m ≤ maxLen) (hb : (n + m) * bytes ≤ 140737488355328) :
    ∃ ao' cap' w', (Builtin.append_ #[t, t] ty #[.slice ao n cap, .slice bo m c]).run P w = .ok (.slice ao' (n + m) cap') w' ∧ Spr w' sz ao' (n + m) cap' (xs ++ ys) ∧ Keep (blk ao) w w' ∧
      ∀ g ∈ blk ao', g ∈ blk ao ∨ w.heap.size ≤ g := by
  obtain ⟨i, z, hi, hz, hsz, hby, hzs, h0⟩ := T.info
  have hone : ∀ u ∈ xs ++ ys, u.oneCell' = true := fun u hu => by rcases List.mem_append.1 hu with h | h; exact hs.sl.hone u h; exact hx.hone u h
  rcases Nat.eq_zero_or_pos m with hm | hm
  · subst hm
    obtain rfl : ys = [] := List.eq_nil_of_length_eq_zero (by simpa using hx.hlen)
    refine ⟨ao, cap, w, ?_, by simpa using hs, Keep.refl _ _, fun g hg => .inl hg⟩
    have hle := hs.sl.hle
    cases bo with
    | none => cases ao <;> simp [Builtin.append_, run_underlying T.und, sizeOf, typeInfo, hi, Builtin.lenOf, Builtin.firstCells, hle, storeCells]
    | some a =>
      have hf := run_firstCells_some (P := P) w i.size 0 a 0 c [] (by simp) (by simp)
      cases ao <;> simp [Builtin.append_, run_underlying T.und, sizeOf, typeInfo, hi, Builtin.lenOf, hf, hle, storeCells]
  · obtain ⟨g, off, rfl, hcs⟩ := hx.hat hm
    have hnews : ∀ j u, ys[j]? = some u → w.cell? ((⟨g, off, none⟩ : Addr).add j) = some u := fun j u hj => by rw [add_plain]; exact hcs.at hj
    by_cases hr : n + m ≤ cap
    · obtain ⟨g0, off0, rfl⟩ := hs.form (by omega)
      have hxl := hs.sl.hlen
      have hyl := hx.hlen
      have hcap : (n + m) * sz ≤ cap * sz := Nat.mul_le_mul_right sz hr
      rw [Nat.add_mul] at hcap
      have hsp : ∀ j, j < ys.length → (w.cell? ⟨g0, off0 + n * sz + j, none⟩).isSome = true ∧ w.frozen? ⟨g0, off0 + n * sz + j, none⟩ = false := fun j hj => by
        rw [Nat.add_assoc]; exact hs.spare g0 off0 rfl (n * sz + j) (by omega) (by omega)
      have hrun := run_append_room_cells (P := P) w t ty e i T.und hi g0 off0 n cap ⟨g, off, none⟩ m c ys (by rw [hsz]; exact hx.hlen) hnews hx.hone hr (fun j hj => by rw [hsz]; exact (hsp j hj).1) (fun j hj => by rw [hsz]; exact (hsp j hj).2)
      rw [hsz] at hrun
      refine ⟨_, _, _, hrun, ⟨⟨hr, hs.sl.hcap, by rw [List.length_append, hxl, hyl, Nat.add_mul], hone, by simp, fun _ => ⟨g0, off0, rfl, ?_⟩⟩, fun g' off' eg j h1 h2 => ?_, fun _ => ⟨g0, off0, rfl⟩, fun g' hg' => ?_⟩, Keep.setCellsS _ _ _ _, fun g' hg' => .inl hg'⟩
      · have hcx : Cells w g0 off0 xs := fun k hk => by
          rcases Nat.eq_zero_or_pos n with h | h
          · subst h; omega
          · obtain ⟨g1, off1, eg, hc⟩ := hs.sl.hat h
            cases eg
            exact hc k hk
        have := hcx.stored (ys := ys) (fun j hj => by rw [hxl]; exact (hsp j hj).1)
        rwa [hxl] at this
      · cases eg
        rw [Nat.add_mul] at h1
        obtain ⟨s1, s2⟩ := hs.spare g0 off0 rfl j (by omega) h2
        refine ⟨World.isSome_setCells _ _ _ _ _ s1, by rw [World.frozen?_setCells]; exact s2⟩
      · have := hs.lt g' hg'
        have := (Keep.setCellsS g0 ys (off0 + n * sz) w).size
        omega
    · have hres : ∃ v' w', (Builtin.append_ #[t, t] ty #[.slice ao n cap, .slice (some ⟨g, off, none⟩) m c]).run P w = .ok v' w' ∧ w'.ownsRow w.heap.size e sz v' (n + m) (xs ++ ys) ∧ w.grownBy w' none := by
        cases ao with
        | none =>
          have hcap0 := hs.sl.hnil rfl
          have hn0 : n = 0 := by have := hs.sl.hle; omega
          subst hn0 hcap0
          obtain rfl : xs = [] := List.eq_nil_of_length_eq_zero (by simpa using hs.sl.hlen)
          obtain ⟨v', w', hrun, r1, r2, _⟩ := run_append_own (P := P) w w.heap.size t ty e i z sz bytes T.und hi hz hsz hby hzs h0 (.slice none 0 0) 0 [] (World.ownsRow_nil w _ e sz) ⟨g, off, none⟩ m c ys hx.hlen hnews hx.hone h63 hb (Nat.le_refl _)
          exact ⟨v', w', hrun, r1, r2⟩
        | some b =>
          have holds : ∀ j u, xs[j]? = some u → w.cell? (b.add j) = some u := fun j u hj => by
            have hlt := (List.getElem?_eq_some_iff.1 hj).1
            rcases Nat.eq_zero_or_pos n with h | h
            · have := hs.sl.hlen; rw [h] at this; omega
            · obtain ⟨g', off', e', hc⟩ := hs.sl.hat h
              cases e'
              rw [add_plain]
              exact hc.at hj
          exact run_append_arg_grows w t ty e i z sz bytes T.und hi hz hsz hby hzs h0 b n cap xs hs.sl.hlen holds ⟨g, off, none⟩ m c ys hx.hlen hnews (by omega) h63 hb
      obtain ⟨v', w', hrun, hown, hgrow⟩ := hres
      rcases hown.2 with ⟨rfl, hz⟩ | ⟨g', cap', cur', rfl, hg', hh', r'⟩
      · omega
      · have ho : Own w' e sz (some ⟨g', 0, none⟩) (n + m) cap' (xs ++ ys) := ⟨⟨hown.1, .inr ⟨g', cap', cur', rfl, Nat.zero_le _, hh', r'⟩⟩, hone⟩
        exact ⟨_, _, w', hrun, ho.spr, (Keep.grown hgrow fun k hk => by cases hk), fun k hk => .inr (by simp [blk] at hk; omega)⟩
theorem wpList_appS {P : Program} {t e : TypeId} {sz bytes : Nat} (T : ST P t e sz bytes) {w : World} {ops : Array Oper} {rest : List Oper} {a : Act} {Q : Exit → Act → World → Prop}
    {dst : Option Tmp} {s x : Operand} {ty : TypeId} {pos : String} {after : Array Edge} {ao : Option Addr} {n cap : Nat} {xs : List Value} {bo : Option Addr} {m c : Nat} {ys : List Value}
    (hs : a.eval s = .slice ao n cap) (hx : a.eval x = .slice bo m c) (ho : Spr w sz ao n cap xs) (hy : Sl w sz bo m c ys) (h63 : n + m ≤ maxLen) (hb : (n + m) * bytes ≤ 140737488355328)
    (k : ∀ ao' cap' w', Spr w' sz ao' (n + m) cap' (xs ++ ys) → Keep (blk ao) w w' → (∀ g ∈ blk ao', g ∈ blk ao ∨ w.heap.size ≤ g) → wpList P ops Q rest (a.put dst (.slice ao' (n + m) cap')) w') :
    wpList P ops Q (⟨dst, .call { callee := .builtin .append, args := #[s, x], argTypes := #[t, t] }, ty, pos, after, none⟩ :: rest) a w := by
  obtain ⟨ao', cap', w', hr, h1, h3, h4⟩ := run_appS T w ty ho hy h63 hb
  refine wpList_plain rfl fun K hK => ?_
  unfold Oper.wp
  rw [run_exec_append (by rw [hs, hx]; exact hr)]
  exact hK _ _ (k ao' cap' w' h1 h3 h4)
end Go.Proofs.Ytgchbcopbkoomaa

namespace Go.Proofs.Ytgchbcopbkoomaa
open Go Go.RowKit

theorem wpList_exec {P : Program} {w : World} {ops : Array Oper} {rest : List Oper} {o : Oper} {a : Act} {Q : Exit → Act → World → Prop} (hg : o.guard = none) {v : Value} {w' : World} (h : (execOp a.eval o).run P w = .ok (.value v) w')
    (k : wpList P ops Q rest (a.put o.dst v) w') : wpList P ops Q (o :: rest) a w := by
  refine wpList_plain hg fun K hK => ?_
  unfold Oper.wp
  rw [h]
  exact hK _ _ k
theorem run_exec_copy {P : Program} {dst : Option Tmp} {s x : Operand} {t t2 ty : TypeId} {pos : String} {after : Array Edge} {guard : Option (Nat × Bool)} {ρ : Operand → Value} {w w' : World} {v : Value}
    (h : (Builtin.copy_ #[t, t2] ty #[ρ s, ρ x]).run P w = .ok v w') :
    (execOp ρ ⟨dst, .call { callee := .builtin .copy, args := #[s, x], argTypes := #[t, t2] }, ty, pos, after, guard⟩).run P w = .ok (.value v) w' := by
  simp only [BigFrame.execOp_builtin, BigFrame.builtin_copy, List.map_toArray, List.map_cons, List.map_nil, Sem.run_bind, h, Result.andThen_ok, Sem.run_pure]
theorem run_exec_append2 {P : Program} {dst : Option Tmp} {s x : Operand} {t t2 ty : TypeId} {pos : String} {after : Array Edge} {guard : Option (Nat × Bool)} {ρ : Operand → Value} {w w' : World} {v : Value}
    (h : (Builtin.append_ #[t, t2] ty #[ρ s, ρ x]).run P w = .ok v w') :
    (execOp ρ ⟨dst, .call { callee := .builtin .append, args := #[s, x], argTypes := #[t, t2] }, ty, pos, after, guard⟩).run P w = .ok (.value v) w' := by
  simp only [BigFrame.execOp_builtin, BigFrame.builtin_append, List.map_toArray, List.map_cons, List.map_nil, Sem.run_bind, h, Result.andThen_ok, Sem.run_pure]
/-- A copy, in a walk. -/
theorem wpList_copyR {P : Program} {w : World} {ops : Array Oper} {rest : List Oper} {a : Act} {Q : Exit → Act → World → Prop} {dst : Option Tmp} {s x : Operand} {t t2 ty : TypeId} {pos : String} {after : Array Edge} {v u r : Value} {w' : World}
    (hs : a.eval s = v) (hx : a.eval x = u) (h : (Builtin.copy_ #[t, t2] ty #[v, u]).run P w = .ok r w') (k : wpList P ops Q rest (a.put dst r) w') :
    wpList P ops Q (⟨dst, .call { callee := .builtin .copy, args := #[s, x], argTypes := #[t, t2] }, ty, pos, after, none⟩ :: rest) a w :=
  wpList_exec rfl (run_exec_copy (by rw [hs, hx]; exact h)) k
theorem wpList_appendR {P : Program} {w : World} {ops : Array Oper} {rest : List Oper} {a : Act} {Q : Exit → Act → World → Prop} {dst : Option Tmp} {s x : Operand} {t t2 ty : TypeId} {pos : String} {after : Array Edge} {v u r : Value} {w' : World}
    (hs : a.eval s = v) (hx : a.eval x = u) (h : (Builtin.append_ #[t, t2] ty #[v, u]).run P w = .ok r w') (k : wpList P ops Q rest (a.put dst r) w') :
    wpList P ops Q (⟨dst, .call { callee := .builtin .append, args := #[s, x], argTypes := #[t, t2] }, ty, pos, after, none⟩ :: rest) a w :=
  wpList_exec rfl (run_exec_append2 (by rw [hs, hx]; exact h)) k

/-- .. at a frame that is written out. -/
theorem wpList_copyL {P : Program} {w : World} {ops : Array Oper} {rest : List Oper} {l : List Value} {df : List Deferred} {Q : Exit → Act → World → Prop} {d : Nat} {s x : Operand} {t t2 ty : TypeId} {pos : String} {after : Array Edge} {v u r : Value} {w' : World}
    (hs : (Act.mk l.toArray df).eval s = v) (hx : (Act.mk l.toArray df).eval x = u) (h : (Builtin.copy_ #[t, t2] ty #[v, u]).run P w = .ok r w') (k : wpList P ops Q rest ⟨(l.set d r).toArray, df⟩ w') :
    wpList P ops Q (⟨some d, .call { callee := .builtin .copy, args := #[s, x], argTypes := #[t, t2] }, ty, pos, after, none⟩ :: rest) ⟨l.toArray, df⟩ w :=
  wpList_copyR hs hx h (by simpa [Act.put] using k)
theorem wpList_appendL {P : Program} {w : World} {ops : Array Oper} {rest : List Oper} {l : List Value} {df : List Deferred} {Q : Exit → Act → World → Prop} {d : Nat} {s x : Operand} {t t2 ty : TypeId} {pos : String} {after : Array Edge} {v u r : Value} {w' : World}
    (hs : (Act.mk l.toArray df).eval s = v) (hx : (Act.mk l.toArray df).eval x = u) (h : (Builtin.append_ #[t, t2] ty #[v, u]).run P w = .ok r w') (k : wpList P ops Q rest ⟨(l.set d r).toArray, df⟩ w') :
    wpList P ops Q (⟨some d, .call { callee := .builtin .append, args := #[s, x], argTypes := #[t, t2] }, ty, pos, after, none⟩ :: rest) ⟨l.toArray, df⟩ w :=
  wpList_appendR hs hx h (by simpa [Act.put] using k)

/-- A row of the call's own, whatever is in it. -/
def Row (w : World) (e : TypeId) (g n cap : Nat) (xs : List Value) : Prop := w.ownsRow 0 e 1 (.slice (some ⟨g, 0, none⟩) n cap) n xs
theorem Own.rowR {w : World} {e : TypeId} {g n cap : Nat} {xs : List Value} (h : Own w e 1 (some ⟨g, 0, .none⟩) n cap xs) : Row w e g n cap xs := h.row
theorem Row.own {w : World} {e : TypeId} {g n cap : Nat} {xs : List Value} (h : Row w e g n cap xs) (h1 : ∀ u ∈ xs, u.oneCell' = true) : Own w e 1 (some ⟨g, 0, none⟩) n cap xs := ⟨h, h1⟩
theorem Row.form {w : World} {e : TypeId} {g n cap : Nat} {xs : List Value} (h : Row w e g n cap xs) : ∃ cur : Array Value, w.heap[g]? = some (.cells cur e (0, 0)) ∧ n ≤ cap ∧ cap ≤ maxLen ∧ cur.size = cap ∧ cur.toList.take n = xs ∧ xs.length = n := by
  rcases h.2 with ⟨hv, _⟩ | ⟨g', cap', cur, hv, _, hh, h1, h2, h3, h4⟩
  · simp at hv
  · obtain ⟨rfl, rfl⟩ : g = g' ∧ cap = cap' := by simpa using hv
    exact ⟨cur, hh, h1, h2, by omega, by simpa using h4, by simpa using h.1⟩
theorem Row.mk' {w : World} {e : TypeId} {g n cap : Nat} {cur : Array Value} (hh : w.heap[g]? = some (.cells cur e (0, 0))) (h1 : n ≤ cap) (h2 : cap ≤ maxLen) (h3 : cur.size = cap) : Row w e g n cap (cur.toList.take n) :=
  ⟨by simp; omega, .inr ⟨g, cap, cur, rfl, Nat.zero_le _, hh, h1, h2, by omega, by simp⟩⟩
theorem Row.keep {fp : List Nat} {w w' : World} {e : TypeId} {g n cap : Nat} {xs : List Value} (h : Row w e g n cap xs) (k : Keep fp w w') (hg : g ∉ fp) : Row w' e g n cap xs := by
  obtain ⟨cur, hh, h1, h2, h3, rfl, _⟩ := h.form
  exact Row.mk' (k.obj hh hg) h1 h2 h3
theorem Row.cell {w : World} {e : TypeId} {g n cap : Nat} {xs : List Value} (h : Row w e g n cap xs) {j : Nat} {v : Value} (hj : xs[j]? = some v) : w.cell? ⟨g, j, none⟩ = some v := by
  obtain ⟨cur, hh, h1, h2, h3, rfl, _⟩ := h.form
  rw [cell_of_row w g j cur e (0, 0) hh]
  rw [List.getElem?_take] at hj
  split at hj
  · simpa using hj
  · cases hj
theorem Row.there {w : World} {e : TypeId} {g n cap : Nat} {xs : List Value} (h : Row w e g n cap xs) {j : Nat} (hj : j < cap) : (w.cell? ⟨g, j, none⟩).isSome = true ∧ w.frozen? ⟨g, j, none⟩ = false := by
  obtain ⟨cur, hh, h1, h2, h3, _, _⟩ := h.form
  refine ⟨?_, obj_free hh j⟩
  rw [cell_of_row w g j cur e (0, 0) hh, Array.getElem?_eq_getElem (by omega)]
  rfl
theorem Row.lt {w : World} {e : TypeId} {g n cap : Nat} {xs : List Value} (h : Row w e g n cap xs) : g < w.heap.size := by
  obtain ⟨cur, hh, _⟩ := h.form
  exact (Array.getElem?_eq_some_iff.1 hh).1
/-- Longer, within the capacity. -/
theorem Row.ext {w : World} {e : TypeId} {g n cap m : Nat} {xs : List Value} (h : Row w e g n cap xs) (hm : m ≤ cap) (hn : n ≤ m) : ∃ ys, Row w e g m cap (xs ++ ys) ∧ ys.length = m - n := by
  obtain ⟨cur, hh, h1, h2, h3, rfl, h5⟩ := h.form
  refine ⟨(cur.toList.drop n).take (m - n), ?_, by simp; omega⟩
  have := Row.mk' (n := m) hh hm h2 h3
  rw [show m = n + (m - n) by omega, List.take_add] at this
  rwa [show n + (m - n) = m by omega] at this
/-- vs in the place of what was there from off on. -/
def spl (l : List Value) (off : Nat) (vs : List Value) : List Value := l.take off ++ vs ++ l.drop (off + vs.length)
theorem Row.sets {e : TypeId} {g n cap : Nat} : ∀ (vs : List Value) (o : Nat) (xs : List Value) (w : World), Row w e g n cap xs → o + vs.length ≤ n → Row (w.setCells g o vs) e g n cap (spl xs o vs)
  | [], o, xs, w, h, _ => by simpa [spl, World.setCells] using h
  | v :: vs, o, xs, w, h, hl => by
    have h1 : Row (w.setCell ⟨g, o, none⟩ v) e g n cap (xs.set o v) := (World.ownsRow.stored h o v).1
    simp only [List.length_cons] at hl
    have h2 := Row.sets vs (o + 1) (xs.set o v) (w.setCell ⟨g, o, none⟩ v) h1 (by omega)
    have hx : xs.length = n := h.form.choose_spec.2.2.2.2.2
    have e1 : spl (xs.set o v) (o + 1) vs = spl xs o (v :: vs) := by
      unfold spl
      rw [List.take_add_one, List.take_set_of_le (by omega), List.getElem?_set_self (by omega), List.drop_set_of_lt (by omega)]
      simp only [Option.toList_some, List.append_assoc, List.cons_append, List.nil_append, List.length_cons]
      rw [show o + 1 + vs.length = o + (vs.length + 1) by omega]
    rw [e1] at h2
    exact h2
/-- x[l:], x[:h] at plain addresses. -/
theorem cutFrom {P : Program} {t e : TypeId} {sz bytes : Nat} (T : ST P t e sz bytes) (hsz : sz = 1) (g o n cap lo : Nat) (h1 : lo ≤ n) (h3 : lo < cap ∨ lo = 0) (w' : World) :
    (Instr.sliceAt t (.slice (some ⟨g, o, none⟩) n cap) (some (.int .i64 (lo : Int))) none none).run P w' = .ok (.slice (some ⟨g, o + lo, none⟩) (n - lo) (cap - lo)) w' := by
  obtain ⟨i, z, hi', hz, hs, hby, hzs, h0⟩ := T.info
  have e2 : (0 : Int) ≤ lo ∧ (lo : Int) ≤ (n : Nat) := by omega
  simp [Instr.sliceAt, Instr.slice, run_underlying T.und, Instr.sliceBounds, Instr.sliceBound, asIntOf, e2, sizeOf, typeInfo, hi', hs, hsz, h1, add_plain]
  intro hc
  rcases h3 with h3 | h3
  · omega
  · omega
theorem cutTo {P : Program} {t e : TypeId} {sz bytes : Nat} (T : ST P t e sz bytes) (g o n cap hi : Nat) (h2 : hi ≤ cap) (w' : World) :
    (Instr.sliceAt t (.slice (some ⟨g, o, none⟩) n cap) none (some (.int .i64 (hi : Int))) none).run P w' = .ok (.slice (some ⟨g, o, none⟩) hi cap) w' := by
  obtain ⟨i, z, hi', -, -, -, -, -⟩ := T.info
  have e2 : (0 : Int) ≤ hi ∧ (hi : Int) ≤ (cap : Nat) := by omega
  simp [Instr.sliceAt, Instr.slice, run_underlying T.und, Instr.sliceBounds, Instr.sliceBound, asIntOf, e2, sizeOf, typeInfo, hi', h2, add_plain]
theorem run_copyR {P : Program} {t e : TypeId} {sz bytes : Nat} (T : ST P t e sz bytes) (hsz : sz = 1) (w : World) (ty : TypeId) (b o dn dc sb so sn sc : Nat) (cs : List Value) (hn : cs.length = Nat.min sn dn)
    (hsrc : ∀ j v, cs[j]? = some v → w.cell? ⟨sb, so + j, none⟩ = some v) (hc : ∀ j, j < cs.length → (w.cell? ⟨b, o + j, none⟩).isSome = true ∧ w.frozen? ⟨b, o + j, none⟩ = false) (h1 : ∀ v ∈ cs, v.oneCell' = true) :
    (Builtin.copy_ #[t, t] ty #[.slice (some ⟨b, o, none⟩) dn dc, .slice (some ⟨sb, so, none⟩) sn sc]).run P w = .ok (goInt cs.length) (w.setCells b o cs) := by
  obtain ⟨i, z, hi', hz, hs, hby, hzs, h0⟩ := T.info
  exact run_copy_cells w t t ty e b o dn dc ⟨sb, so, none⟩ sn sc cs T.und (by rw [hi']; simp [hs, hsz]) hn (fun j v hj => by rw [add_plain]; exact hsrc j v hj) (fun j hj => (hc j hj).1) (fun j hj => (hc j hj).2) h1
end Go.Proofs.Ytgchbcopbkoomaa

namespace Go.Proofs.Ytgchbcopbkoomaa
open Go Go.RowKit

/-- What is known of a slice of integers that came in. -/
def IsRow (k : IntKind) (w : World) (a : Option Addr) (len cap : Nat) (zs : List Int) : Prop :=
  (a = none ∧ len = 0 ∧ cap = 0 ∧ zs = []) ∨
  ∃ x, a = some x ∧ len ≤ cap ∧ cap ≤ maxLen ∧ zs.length = cap ∧ (∀ i, i < zs.length → w.cell? (x.add i) = some (.int k (zs.getD i 0))) ∧ ∀ n ∈ zs, (Lit.int k n).wf = true

theorem spot_none {w : World} {a : Addr} {v : Value} (h : w.cell? a = some v) : a.spot = none := by
  unfold World.cell? at h
  split at h
  · split at h
    · cases h
    · rename_i hs; simpa using hs
  · cases h
theorem sl_of_row {k : IntKind} {w : World} {a : Option Addr} {len cap : Nat} {zs : List Int} (h : IsRow k w a len cap zs) : Sl w 1 a len cap ((zs.take len).map (.int k)) := by
  rcases h with ⟨rfl, rfl, rfl, rfl⟩ | ⟨x, rfl, hl, hm, hz, hc, _⟩
  · exact Sl.none w 1
  · refine ⟨hl, hm, by simp; omega, ints_oneCell k _, by simp, fun h0 => ?_⟩
    have h00 := hc 0 (by omega)
    have hs : x.spot = none := by
      have : x.add 0 = x := by simp [Addr.add]
      rw [this] at h00
      exact spot_none h00
    obtain ⟨b, o, s⟩ := x
    cases hs
    refine ⟨b, o, rfl, fun i hi => ?_⟩
    have hi' : i < len := by simp at hi; omega
    have := hc i (by omega)
    rw [add_plain] at this
    rw [this]
    simp [List.getD, show i < zs.length by omega]
theorem bytes_of_row {w : World} {a : Option Addr} {len cap : Nat} {zs : List Int} (h : IsRow .u8 w a len cap zs) : ∃ l : List UInt8, l.length = len ∧ Sl w 1 a l.length cap (l.map B) := by
  have hs := sl_of_row h
  have hwf : ∀ n ∈ zs.take len, 0 ≤ n ∧ n < 256 := by
    rcases h with ⟨rfl, rfl, rfl, rfl⟩ | ⟨x, rfl, hl, hm, hz, hc, hw⟩
    · simp
    · intro n hn
      have := hw n (List.take_subset _ _ hn)
      simp [Lit.wf, IntKind.min, IntKind.max, IntKind.signed, IntKind.bits] at this
      omega
  have hlen : (zs.take len).length = len := by have := hs.hlen; simpa using this
  refine ⟨(zs.take len).map fun n => UInt8.ofNat n.toNat, by simpa using hlen, ?_⟩
  have e : ∀ l : List Int, (∀ n ∈ l, 0 ≤ n ∧ n < 256) → (l.map fun n => UInt8.ofNat n.toNat).map B = l.map (.int .u8) := fun l => by
    induction l with
    | nil => intro _; rfl
    | cons n l ih =>
      intro h
      have h1 := h n (by simp)
      have h2 := ih fun m hm => h m (by simp [hm])
      simp only [List.map_cons, h2, B, List.cons.injEq, and_true, Value.int.injEq, true_and]
      simp [UInt8.toNat_ofNat']
      omega
  rw [e _ hwf, List.length_map, hlen]
  exact hs

theorem flatMap_at {α : Type} (en : α → List Value) {c : Nat} (hc : 0 < c) (hl : ∀ a, (en a).length = c) : ∀ (l : List α) (i : Nat), (l.flatMap en)[i]? = (l[i / c]?).bind fun a => (en a)[i % c]? := by
  intro l
  induction l with
  | nil => intro i; simp
  | cons a l ih =>
    intro i
    rw [List.flatMap_cons]
    by_cases h : i < c
    · rw [List.getElem?_append_left (by rw [hl]; exact h), Nat.div_eq_of_lt h, Nat.mod_eq_of_lt h]
      simp
    · rw [List.getElem?_append_right (by rw [hl]; omega), hl, ih]
      have e1 : i / c = (i - c) / c + 1 := by
        rw [show i = (i - c) + c by omega, Nat.add_div_right _ hc]
        simp
      have e2 : i % c = (i - c) % c := by
        rw [show i = (i - c) + c by omega, Nat.add_mod_right]
        simp
      rw [e1, e2]
      simp
theorem flatMap_one {α : Type} (f : α → Value) (l : List α) : l.flatMap (fun b => [f b]) = l.map f := by
  induction l with
  | nil => rfl
  | cons a l ih => simp [ih]
theorem flatMap_len {α : Type} (en : α → List Value) {c : Nat} (hl : ∀ a, (en a).length = c) (l : List α) : (l.flatMap en).length = l.length * c := by
  induction l with
  | nil => simp
  | cons a l ih => simp [ih, hl, Nat.add_mul]; omega
section
open Go.ChangeShapes Go.WideShapes Go.Deep
variable {H : Type} {enc : TypeId × Value → H} {P : Program} {w : World} {base : Nat} {held : Bool}
/-- A slice that came in, each of whose elements is read. -/
theorem open_list {α : Type} (en : α → List Value) (good : α → Prop) {c : Nat} (hc : 0 < c) (hl : ∀ a, (en a).length = c) (hone : ∀ a, ∀ u ∈ en a, u.oneCell' = true) {t e : TypeId} (ht : P.underlying t = some (.slice e)) (hC : P.cellsOf e = c)
    (dec : ∀ n cs' y, DataW.trod enc P w base (fun _ => true) held n e cs' = some y → ∃ a, cs' = en a ∧ good a) {fuel : Nat} {ao : Option Addr} {n cap : Nat} {x : DataW H × List MemPlace}
    (h : DataW.trod enc P w base (fun _ => true) held fuel t (Value.slice ao n cap).cells.toList = some x) : ∃ l : List α, l.length = n ∧ Sl w c ao l.length cap (l.flatMap en) ∧ ∀ a ∈ l, good a := by
  rcases open_slice ht h with ⟨hcs, _⟩ | ⟨a, len, cap', m, nn, D, Pl, hcs, hb, hle, hm, hmm, hx, hi⟩
  · simp [Value.cells] at hcs
    obtain ⟨rfl, rfl, rfl⟩ := hcs
    exact ⟨[], rfl, Sl.none w c, by simp⟩
  · simp [Value.cells] at hcs
    obtain ⟨rfl, rfl, rfl⟩ := hcs
    rw [hC] at hi
    simp only [if_true] at hmm
    have each : ∀ i : Fin n, ∃ b, (∀ j, j < c → w.cell? ((a.add (i * c)).add j) = (en b)[j]?) ∧ good b := fun i => by
      obtain ⟨cs', hcs', hd⟩ := hi i (by have := i.2; omega)
      obtain ⟨b, rfl, hg⟩ := dec _ _ _ hd
      exact ⟨b, (World.cells?_some hcs').2.2, hg⟩
    obtain ⟨f, hf⟩ : ∃ f : Fin n → α, ∀ i : Fin n, (∀ j, j < c → w.cell? ((a.add (i * c)).add j) = (en (f i))[j]?) ∧ good (f i) := ⟨fun i => Classical.choose (each i), fun i => Classical.choose_spec (each i)⟩
    have hln : (List.ofFn f).length = n := List.length_ofFn
    refine ⟨List.ofFn f, hln, ?_, ?_⟩
    · refine ⟨by omega, hm, flatMap_len en hl _, ?_, by simp, fun h0 => ?_⟩
      · intro u hu
        obtain ⟨b, _, hb⟩ := List.mem_flatMap.1 hu
        exact hone b u hb
      rw [hln] at h0
      have hat : ∀ i (hi : i < n) j, j < c → w.cell? ((a.add (i * c)).add j) = (en (f ⟨i, hi⟩))[j]? := fun i hi j hj => (hf ⟨i, hi⟩).1 j hj
      have hs : a.spot = none := by
        have h00 := hat 0 h0 0 hc
        have : (a.add (0 * c)).add 0 = a := by simp [Addr.add]
        rw [this, List.getElem?_eq_getElem (by rw [hl]; exact hc)] at h00
        exact spot_none h00
      obtain ⟨b, o, s⟩ := a
      cases hs
      refine ⟨b, o, rfl, fun i hi => ?_⟩
      have hi' := hi
      rw [flatMap_len en hl, hln] at hi'
      have hd : i / c < n := (Nat.div_lt_iff_lt_mul hc).2 hi'
      have := hat (i / c) hd (i % c) (Nat.mod_lt _ hc)
      rw [add_plain, add_plain, Nat.add_assoc, Nat.div_add_mod' i c] at this
      have e : (List.ofFn f)[i / c]? = some (f ⟨i / c, hd⟩) := by rw [List.getElem?_eq_getElem (by rw [hln]; exact hd)]; simp
      rw [this, ← List.getElem?_eq_getElem hi, flatMap_at en hc hl, e]
      rfl
    · intro b hb
      obtain ⟨i, hi⟩ := List.mem_ofFn.1 hb
      rw [← hi]
      exact (hf i).2
theorem open_bytes {t e : TypeId} (ht : P.underlying t = some (.slice e)) (he : P.underlying e = some (.int .u8)) (hC : P.cellsOf e = 1) {fuel : Nat} {ao : Option Addr} {n cap : Nat} {x : DataW H × List MemPlace}
    (h : DataW.trod enc P w base (fun _ => true) held fuel t (Value.slice ao n cap).cells.toList = some x) : ∃ l : List UInt8, l.length = n ∧ Sl w 1 ao l.length cap (l.map B) := by
  obtain ⟨l, h1, h2, -⟩ := open_list (α := UInt8) (fun b => [B b]) (fun _ => True) (by decide) (fun _ => rfl) (by simp [B, Value.oneCell']) ht hC (fun n cs y hd => by
    obtain ⟨k, rfl, -, hw⟩ := DataW.trod_int he hd
    simp [Lit.wf, IntKind.min, IntKind.max, IntKind.signed, IntKind.bits] at hw
    refine ⟨UInt8.ofNat k.toNat, ?_, trivial⟩
    simp [B, UInt8.toNat_ofNat']
    omega) h
  refine ⟨l, h1, ?_⟩
  rwa [flatMap_one] at h2
theorem open_intl {t e : TypeId} {k : IntKind} (ht : P.underlying t = some (.slice e)) (he : P.underlying e = some (.int k)) (hC : P.cellsOf e = 1) {fuel : Nat} {ao : Option Addr} {n cap : Nat} {x : DataW H × List MemPlace}
    (h : DataW.trod enc P w base (fun _ => true) held fuel t (Value.slice ao n cap).cells.toList = some x) : ∃ l : List Int, l.length = n ∧ Sl w 1 ao l.length cap (l.map (.int k)) ∧ ∀ a ∈ l, (Lit.int k a).wf = true := by
  obtain ⟨l, h1, h2, h3⟩ := open_list (α := Int) (fun b => [.int k b]) (fun b => (Lit.int k b).wf = true) (by decide) (fun _ => rfl) (by simp [Value.oneCell']) ht hC (fun n cs y hd => by
    obtain ⟨k, rfl, -, hw⟩ := DataW.trod_int he hd
    exact ⟨k, rfl, hw⟩) h
  refine ⟨l, h1, ?_, h3⟩
  rwa [flatMap_one] at h2
end
end Go.Proofs.Ytgchbcopbkoomaa
