/- Memory in words: what a slice reads, what a call owns, which blocks may have turned. -/
import Derived.Test.YtaepfkpfageiaaaReg
import Derived.Maps.AppendAt
import Derived.Laws.BytesArg
import Derived.Laws.AppendOwnNone
import Derived.WalkSpells
import Derived.Deep.MidRow
import Derived.Lib.Hide
import Derived.WalkLawsBesides
namespace Go.Proofs.Ytaepfkpfageiaaa
open Go Go.RowKit

/-- All blocks but those named are as they were. -/
structure Keep (fp : List Nat) (w w' : World) : Prop where
  os : w'.os = w.os
  tape : w'.tape = w.tape
  output : w'.output = w.output
  size : w.heap.size ≤ w'.heap.size
  block : ∀ k, k < w.heap.size → k ∉ fp → w'.heap[k]? = w.heap[k]?
theorem Keep.refl (fp : List Nat) (w : World) : Keep fp w w := ⟨rfl, rfl, rfl, Nat.le_refl _, fun _ _ _ => rfl⟩
theorem Keep.trans {fp : List Nat} {a b c : World} (h : Keep fp a b) (k : Keep fp b c) : Keep fp a c :=
  ⟨k.os.trans h.os, k.tape.trans h.tape, k.output.trans h.output, Nat.le_trans h.size k.size, fun i hi hn => (k.block i (Nat.lt_of_lt_of_le hi h.size) hn).trans (h.block i hi hn)⟩
theorem Keep.mono {fp fp' : List Nat} {w w' : World} (h : Keep fp w w') (hs : ∀ k ∈ fp, k ∈ fp') : Keep fp' w w' :=
  ⟨h.os, h.tape, h.output, h.size, fun i hi hn => h.block i hi fun hm => hn (hs i hm)⟩
/-- What is named may also be new: a later step that turns only what is new, or named. -/
theorem Keep.trans' {fp fp' : List Nat} {a b c : World} (h : Keep fp a b) (k : Keep fp' b c) (hs : ∀ i ∈ fp', i ∈ fp ∨ a.heap.size ≤ i) : Keep fp a c :=
  ⟨k.os.trans h.os, k.tape.trans h.tape, k.output.trans h.output, Nat.le_trans h.size k.size, fun i hi hn =>
    (k.block i (Nat.lt_of_lt_of_le hi h.size) fun hm => by rcases hs i hm with h1 | h1; exact hn h1; omega).trans (h.block i hi hn)⟩
theorem Keep.of_grow {w w' : World} (fp : List Nat) (h : Grow w w') : Keep fp w w' := ⟨Below.os h, Below.tape h, Below.output h, Below.size h, fun i hi _ => Below.block h i hi⟩
theorem Keep.grow {w w' : World} (h : Keep [] w w') : Grow w w' := ⟨h.os, h.tape, h.output, h.size, fun i hi => h.block i hi (by simp)⟩
theorem Keep.below {fp : List Nat} {B : Nat} {w w' : World} (h : Keep fp w w') (hB : B ≤ w.heap.size) (hf : ∀ k ∈ fp, B ≤ k) : Below B w w' :=
  ⟨h.os, h.tape, h.output, h.size, fun i hi => h.block i (by omega) fun hm => by have := hf i hm; omega⟩
theorem Keep.of_below {fp : List Nat} {w w' : World} (h : Below w.heap.size w w') : Keep fp w w' := Keep.of_grow fp h
theorem Keep.drew (fp : List Nat) (w : World) : Keep fp w w.drew := Keep.of_grow fp (Grow.drew w)
theorem Keep.alloc (fp : List Nat) (w : World) (o : Obj) : Keep fp w (w.alloc o) := Keep.of_grow fp (Grow.alloc w o)
theorem Keep.setCell {fp : List Nat} (w : World) (p : Addr) (hp : p.block ∈ fp) (u : Value) : Keep fp w (w.setCell p u) :=
  ⟨rfl, rfl, rfl, by simp [World.setCell], fun k _ hn => Below.heap_setCell _ _ _ _ (by intro e; subst e; exact hn hp)⟩
theorem Keep.grown {fp : List Nat} {w w' : World} {row : Option Nat} (hg : w.grownBy w' row) (hr : ∀ k, row = some k → k ∈ fp) : Keep fp w w' :=
  ⟨hg.os, hg.tape, hg.output, hg.size, fun k hk hn => hg.block k hk fun e => hn (hr k e.symm)⟩
theorem Keep.obj {fp : List Nat} {w w' : World} (h : Keep fp w w') {k : Nat} {o : Obj} (hv : w.heap[k]? = some o) (hk : k ∉ fp) : w'.heap[k]? = some o :=
  (h.block k (Array.getElem?_eq_some_iff.1 hv).1 hk).trans hv
theorem Keep.cell {fp : List Nat} {w w' : World} (h : Keep fp w w') {p : Addr} {v : Value} (hv : w.cell? p = some v) (hk : p.block ∉ fp) : w'.cell? p = some v :=
  (World.cell?_of_block (w := w) (h.block p.block (World.block_lt_of_cell? w p hv) hk)).trans hv

/-- Worlds that have come out of one, but for the blocks named, and of which something is known. -/
structure KW (fp : List Nat) (p : World → Prop) (w0 : World) where
  w : World
  h : Keep fp w0 w
  p : p w
def tt : World → Prop := fun _ => True
instance KW.nonempty (fp : List Nat) (w0 : World) : Nonempty (KW fp tt w0) := ⟨⟨w0, Keep.refl fp w0, trivial⟩⟩
/-- FP: what may turn at all; fps i: what operation i may turn; p: what stays true. -/
def segR (FP : List Nat) (fps : Nat → List Nat) (p : World → Prop) (w0 : World) (es : List Nat) (V : Nat → Array Value → Value → World → Prop) (hf : ∀ i, ∀ k ∈ fps i, k ∈ FP)
    (hV : ∀ i j vs v w w', i ≠ j → Keep (fps i) w w' → V j vs v w → V j vs v w') : Seg where
  C w := ∃ n : KW FP p w0, w = n.w
  R i w w' := Keep (fps i) w w' ∧ p w'
  V := V
  es := es
  hC := fun i w w' ⟨n, h⟩ hr => ⟨⟨w', by subst h; exact Keep.trans n.h (hr.1.mono (hf i)), hr.2⟩, rfl⟩
  hV := fun i j vs v w w' hn _ hr h => hV i j vs v w w' hn hr.1 h
/-- Every operation may turn fp. -/
def segK (fp : List Nat) (w0 : World) (es : List Nat) (V : Nat → Array Value → Value → World → Prop) (hV : ∀ i vs v w w', Keep fp w w' → V i vs v w → V i vs v w') : Seg :=
  segR fp (fun _ => fp) tt w0 es V (fun _ _ h => h) (fun _ j vs v w w' _ hr h => hV j vs v w w' hr h)
/-- Only looking. -/
def segL (w0 : World) : Seg := segK [] w0 [] (fun _ _ _ _ => True) (fun _ _ _ _ _ _ h => h)
theorem segR_drew {FP : List Nat} {fps : Nat → List Nat} {p : World → Prop} {w0 : World} {es : List Nat} {V hf hV} (hp : p w0.drew) : (segR FP fps p w0 es V hf hV).C w0.drew := ⟨⟨w0.drew, Keep.drew FP w0, hp⟩, rfl⟩
theorem segL_drew {w0 : World} : (segL w0).C w0.drew := ⟨⟨w0.drew, Keep.drew _ w0, trivial⟩, rfl⟩
theorem segK_drew {fp : List Nat} {w0 : World} {es : List Nat} {V hV} : (segK fp w0 es V hV).C w0.drew := ⟨⟨w0.drew, Keep.drew _ w0, trivial⟩, rfl⟩
theorem segL_at {w0 : World} : (segL w0).C w0 := ⟨⟨w0, Keep.refl _ w0, trivial⟩, rfl⟩
theorem segK_at {fp : List Nat} {w0 : World} {es : List Nat} {V hV} : (segK fp w0 es V hV).C w0 := ⟨⟨w0, Keep.refl _ w0, trivial⟩, rfl⟩
theorem KW.cell {fp : List Nat} {p0 : World → Prop} {w0 : World} {p : Addr} {v : Value} (hv : w0.cell? p = some v) (hk : p.block ∉ fp) (n : KW fp p0 w0) : n.w.cell? p = some v := n.h.cell hv hk

/-- Blocks that were not there. -/
def Fr (a : List Nat) (w : World) : Prop := ∀ g ∈ a, w.heap.size ≤ g
/-- Blocks of b, or new ones. -/
def Inn (a b : List Nat) (w : World) : Prop := ∀ g ∈ a, g ∈ b ∨ w.heap.size ≤ g
def Dis (a b : List Nat) : Prop := ∀ g ∈ a, g ∉ b
/-- Blocks that were there. -/
def Old (a : List Nat) (w : World) : Prop := ∀ g ∈ a, g < w.heap.size

/-- What turns only what was new. -/
theorem Grow.then {fp : List Nat} {a b c : World} (h : Grow a b) (k : Keep fp b c) (hs : Fr fp a) : Grow a c :=
  ((Keep.of_grow [] h).trans' k fun i hi => .inr (hs i hi)).grow
theorem Fr.of_inn {a b : List Nat} {w w' : World} (h : Inn a b w') (hb : Fr b w) (hs : w.heap.size ≤ w'.heap.size) : Fr a w := fun g hg => by
  rcases h g hg with h | h
  · exact hb g h
  · omega
theorem Fr.mono {a : List Nat} {w w' : World} (h : Fr a w') (hs : w.heap.size ≤ w'.heap.size) : Fr a w := fun g hg => Nat.le_trans hs (h g hg)
/-- The cells xs lie at (g, off). -/
def Cells (w : World) (g off : Nat) (xs : List Value) : Prop := ∀ i (h : i < xs.length), w.cell? ⟨g, off + i, none⟩ = some xs[i]
theorem Cells.keep {fp : List Nat} {w w' : World} {g off : Nat} {xs : List Value} (h : Cells w g off xs) (k : Keep fp w w') (hg : g ∉ fp) : Cells w' g off xs :=
  fun i hi => k.cell (h i hi) hg
theorem Cells.at {w : World} {g off : Nat} {xs : List Value} (h : Cells w g off xs) {i : Nat} {v : Value} (hi : xs[i]? = some v) : w.cell? ⟨g, off + i, none⟩ = some v := by
  obtain ⟨hlt, rfl⟩ := List.getElem?_eq_some_iff.1 hi
  exact h i hlt
/-- The slice (ao, n, cap) of elements of sz cells reads xs. -/
structure Sl (w : World) (sz : Nat) (ao : Option Addr) (n cap : Nat) (xs : List Value) : Prop where
  hle : n ≤ cap
  hcap : cap ≤ maxLen
  hlen : xs.length = n * sz
  hone : ∀ u ∈ xs, u.oneCell' = true
  hnil : ao = none → cap = 0
  hat : 0 < n → ∃ g off, ao = some ⟨g, off, none⟩ ∧ Cells w g off xs
theorem Sl.none (w : World) (sz : Nat) : Sl w sz none 0 0 [] := ⟨Nat.le_refl _, Nat.zero_le _, by simp, by simp, fun _ => rfl, fun h => absurd h (by omega)⟩
/-- In which block it lies, if anywhere. -/
def blk : Option Addr → List Nat
  | some a => [a.block]
  | none => []
theorem Sl.keep {fp : List Nat} {w w' : World} {sz : Nat} {ao : Option Addr} {n cap : Nat} {xs : List Value} (h : Sl w sz ao n cap xs) (k : Keep fp w w') (hb : ∀ g ∈ blk ao, g ∉ fp) : Sl w' sz ao n cap xs :=
  ⟨h.hle, h.hcap, h.hlen, h.hone, h.hnil, fun hn => let ⟨g, off, e, hc⟩ := h.hat hn; ⟨g, off, e, hc.keep k (hb g (by rw [e]; simp [blk]))⟩⟩
theorem Sl.grow {w w' : World} {sz : Nat} {ao : Option Addr} {n cap : Nat} {xs : List Value} (h : Sl w sz ao n cap xs) (k : Grow w w') : Sl w' sz ao n cap xs :=
  h.keep (Keep.of_grow [] k) (by simp)
theorem add_plain (g off k : Nat) : (⟨g, off, none⟩ : Addr).add k = ⟨g, off + k, none⟩ := by unfold Addr.add; split <;> simp_all
/-- x[lo:hi], within the length. -/
theorem Sl.cut {w : World} {sz : Nat} {ao : Option Addr} {n cap : Nat} {xs : List Value} (h : Sl w sz ao n cap xs) {lo hi : Nat} (h1 : lo ≤ hi) (h2 : hi ≤ n) :
    Sl w sz (if cap = lo then ao else ao.map (·.add (lo * sz))) (hi - lo) (cap - lo) ((xs.drop (lo * sz)).take ((hi - lo) * sz)) := by
  have hc := h.hle
  refine ⟨by omega, by have := h.hcap; omega, ?_, fun u hu => h.hone u (List.drop_subset _ _ (List.take_subset _ _ hu)), ?_, fun hn => ?_⟩
  · have e : (hi - lo) * sz ≤ n * sz - lo * sz := by
      rw [← Nat.sub_mul]; exact Nat.mul_le_mul_right sz (by omega)
    simp only [List.length_take, List.length_drop, h.hlen]
    omega
  · split
    · intro he; have := h.hnil he; omega
    · intro he
      have : ao = Option.none := by simpa using he
      have := h.hnil this; omega
  · obtain ⟨g, off, rfl, hcell⟩ := h.hat (by omega)
    rw [if_neg (by omega)]
    refine ⟨g, off + lo * sz, by simp [add_plain], fun i hi' => ?_⟩
    have hlt : i < (xs.drop (lo * sz)).length := by simp only [List.length_take] at hi'; omega
    have hlt' : lo * sz + i < xs.length := by simp only [List.length_drop] at hlt; omega
    have := hcell (lo * sz + i) hlt'
    rw [Nat.add_assoc, this]
    simp [List.getElem_take, List.getElem_drop]
theorem blk_cut {ao : Option Addr} {cap lo k : Nat} : blk (if cap = lo then ao else ao.map (·.add k)) = blk ao := by
  split
  · rfl
  · cases ao with
    | none => rfl
    | some a => simp only [Option.map_some, blk, Addr.add]; split <;> rfl

/-- The slice is the call's own: it may be appended to. -/
structure Own (w : World) (e : TypeId) (sz : Nat) (ao : Option Addr) (n cap : Nat) (xs : List Value) : Prop where
  row : w.ownsRow 0 e sz (.slice ao n cap) n xs
  one : ∀ u ∈ xs, u.oneCell' = true
theorem Own.none (w : World) (e : TypeId) (sz : Nat) : Own w e sz none 0 0 [] := ⟨World.ownsRow_nil w 0 e sz, by simp⟩
theorem ownBlock_slice (ao : Option Addr) (n cap k : Nat) : (Value.slice ao n cap).ownBlock = some k ↔ k ∈ blk ao := by
  cases ao <;> simp [Value.ownBlock, blk, eq_comm]
theorem Own.keep {fp : List Nat} {w w' : World} {e : TypeId} {sz : Nat} {ao : Option Addr} {n cap : Nat} {xs : List Value} (h : Own w e sz ao n cap xs) (k : Keep fp w w') (hb : ∀ g ∈ blk ao, g ∉ fp) : Own w' e sz ao n cap xs := by
  refine ⟨⟨h.row.1, ?_⟩, h.one⟩
  rcases h.row.2 with hn | ⟨g, cap', cur, hv, hg, hh, r⟩
  · exact .inl hn
  · exact .inr ⟨g, cap', cur, hv, hg, k.obj hh (hb g ((ownBlock_slice ao n cap g).1 (by rw [hv]; rfl))), r⟩
theorem Own.grow {w w' : World} {e : TypeId} {sz : Nat} {ao : Option Addr} {n cap : Nat} {xs : List Value} (h : Own w e sz ao n cap xs) (k : Grow w w') : Own w' e sz ao n cap xs :=
  h.keep (Keep.of_grow [] k) (by simp)
theorem Own.lt {w : World} {e : TypeId} {sz : Nat} {ao : Option Addr} {n cap : Nat} {xs : List Value} (h : Own w e sz ao n cap xs) : ∀ g ∈ blk ao, g < w.heap.size := fun g hg =>
  (h.row.lt g ((ownBlock_slice ao n cap g).2 hg)).2
theorem Own.sl {w : World} {e : TypeId} {sz : Nat} {ao : Option Addr} {n cap : Nat} {xs : List Value} (h : Own w e sz ao n cap xs) : Sl w sz ao n cap xs := by
  rcases h.row.2 with ⟨hv, h0⟩ | ⟨g, cap', cur, hv, hg, hh, hle, hcap, hsz, htake⟩
  · obtain ⟨rfl, rfl, rfl⟩ : ao = Option.none ∧ n = 0 ∧ cap = 0 := by simpa using hv
    exact ⟨Nat.le_refl _, Nat.zero_le _, h.row.1, h.one, fun _ => rfl, fun h => absurd h (by omega)⟩
  · obtain ⟨rfl, rfl⟩ : ao = some ⟨g, 0, Option.none⟩ ∧ cap = cap' := by simpa using hv
    refine ⟨hle, hcap, h.row.1, h.one, by simp, fun _ => ⟨g, 0, rfl, fun i hi => ?_⟩⟩
    rw [Nat.zero_add, cell_of_row w g i cur e (0, 0) hh]
    subst htake
    simp only [List.length_take] at hi
    rw [List.getElem_take]
    simp
/-- A block that was made for it. -/
theorem Own.made {w : World} {e : TypeId} {sz g n : Nat} {cur : Array Value} (hh : w.heap[g]? = some (.cells cur e (0, 0))) (hs : cur.size = n * sz) (hm : n ≤ maxLen) (h1 : ∀ u ∈ cur.toList, u.oneCell' = true) :
    Own w e sz (some ⟨g, 0, Option.none⟩) n n cur.toList :=
  ⟨⟨by simpa using hs, .inr ⟨g, n, cur, rfl, Nat.zero_le _, hh, Nat.le_refl _, hm, hs, by rw [List.take_of_length_le (by simp [hs])]⟩⟩, h1⟩

/-- What is asked of a slice type. -/
structure ST (P : Program) (t e : TypeId) (sz bytes : Nat) : Prop where
  und : P.underlying t = some (.slice e)
  info : ∃ i z, P.info? e = some i ∧ i.zero = some z ∧ i.size = sz ∧ i.bytes = bytes ∧ z.cells.size = sz ∧ 0 < sz
theorem ST.mk' {P : Program} {t e : TypeId} {sz bytes : Nat} {z : Value} (hu : P.underlying t = some (.slice e)) (hi : (P.info? e).map (fun i => (i.zero, i.size, i.bytes)) = some (some z, sz, bytes)) (hz : z.cells.size = sz) (h0 : 0 < sz) : ST P t e sz bytes := by
  obtain ⟨i, h1, h2, h3, h4⟩ := info_parts hi
  exact ⟨hu, i, z, h1, h2, h3, h4, hz, h0⟩

theorem Own.front {w : World} {e : TypeId} {sz : Nat} {g n k cap : Nat} {xs ys : List Value} (h : Own w e sz (some ⟨g, 0, .none⟩) (n + k) cap (xs ++ ys)) (hl : xs.length = n * sz) : Own w e sz (some ⟨g, 0, .none⟩) n cap xs := by
  refine ⟨⟨hl, ?_⟩, fun u hu => h.one u (List.mem_append_left _ hu)⟩
  rcases h.row.2 with ⟨hv, _⟩ | ⟨g', cap', cur, hv, hg, hh, hle, hcap, hsz, htake⟩
  · simp at hv
  · obtain ⟨rfl, rfl⟩ : g = g' ∧ cap = cap' := by simpa using hv
    refine .inr ⟨g, cap, cur, rfl, hg, hh, by omega, hcap, hsz, ?_⟩
    have : List.take (n * sz) (List.take ((n + k) * sz) cur.toList) = xs := by rw [htake, ← hl]; exact List.take_left
    rw [List.take_take] at this
    rwa [Nat.min_eq_left (Nat.mul_le_mul_right sz (by omega))] at this

/-- append(s, x...), s the call's own, x whatever: what s itself read it reads still. -/
theorem run_app {P : Program} {t e : TypeId} {sz bytes : Nat} (T : ST P t e sz bytes) (w : World) (ty : TypeId) {ao : Option Addr} {n cap : Nat} {xs : List Value} (hs : Own w e sz ao n cap xs)
    {bo : Option Addr} {m c : Nat} {ys : List Value} (hx : Sl w sz bo m c ys) (h63 : n + m ≤ maxLen) (hb : (n + m) * bytes ≤ 140737488355328) :
    ∃ ao' cap' w', (Builtin.append_ #[t, t] ty #[.slice ao n cap, .slice bo m c]).run P w = .ok (.slice ao' (n + m) cap') w' ∧ Own w' e sz ao' (n + m) cap' (xs ++ ys) ∧ Own w' e sz ao n cap xs ∧ Keep (blk ao) w w' ∧
      ∀ g ∈ blk ao', g ∈ blk ao ∨ w.heap.size ≤ g := by
  obtain ⟨i, z, hi, hz, hsz, hby, hzs, h0⟩ := T.info
  have hone : ∀ u ∈ xs ++ ys, u.oneCell' = true := fun u hu => by rcases List.mem_append.1 hu with h | h; exact hs.one u h; exact hx.hone u h
  cases bo with
  | none =>
    obtain rfl := hx.hnil rfl
    obtain rfl : m = 0 := by have := hx.hle; omega
    obtain rfl : ys = [] := List.eq_nil_of_length_eq_zero (by simpa using hx.hlen)
    refine ⟨ao, cap, w, run_append_owned_none w 0 t ty e i sz T.und hi _ n xs hs.row, by simpa using hs, hs, Keep.refl _ _, fun g hg => .inl hg⟩
  | some a =>
    have hnews : ∀ j u, ys[j]? = some u → w.cell? (a.add j) = some u := fun j u hj => by
      rcases Nat.eq_zero_or_pos m with h | h
      · obtain rfl : ys = [] := List.eq_nil_of_length_eq_zero (by simpa [h] using hx.hlen)
        simp at hj
      · obtain ⟨g, off, e, hc⟩ := hx.hat h
        cases e
        rw [add_plain]
        exact hc.at hj
    rcases hs.row.2 with ⟨hv, hn0⟩ | ⟨g, cap', cur, hv, hg, hh, hle, hcap, hsz', htake⟩
    · obtain ⟨rfl, rfl, rfl⟩ : ao = Option.none ∧ n = 0 ∧ cap = 0 := by simpa using hv
      obtain ⟨v', w', hrun, hown, hgrow, _, hblk⟩ := run_append_own_at w 0 t ty e i z sz bytes T.und hi hz hsz hby hzs h0 _ 0 xs hs.row a m c ys hx.hlen hnews hx.hone h63 hb (Nat.zero_le _)
      have hform : ∃ ao' cap', v' = .slice ao' (0 + m) cap' := by
        rcases hown.2 with ⟨rfl, hz⟩ | ⟨g, cap', cur, rfl, _⟩
        · exact ⟨.none, 0, by rw [hz]⟩
        · exact ⟨_, _, rfl⟩
      obtain ⟨ao', cap', rfl⟩ := hform
      obtain rfl : xs = [] := List.eq_nil_of_length_eq_zero (by simpa using hs.row.1)
      refine ⟨ao', cap', w', hrun, ⟨hown, hone⟩, Own.none _ _ _, Keep.grown hgrow fun k hk => (ownBlock_slice .none 0 0 k).1 hk, fun g hg => ?_⟩
      have hg' := (ownBlock_slice ao' (0 + m) cap' g).2 hg
      rcases hblk with h | h
      · exact .inl ((ownBlock_slice .none 0 0 g).1 (by rw [← h]; exact hg'))
      · right
        rw [h] at hg'
        cases hg'
        exact Nat.le_refl _
    · obtain ⟨rfl, rfl⟩ : ao = some ⟨g, 0, Option.none⟩ ∧ cap = cap' := by simpa using hv
      by_cases hr : n + m ≤ cap
      · obtain ⟨w', hrun, hown, hgrow⟩ := run_append_fits w 0 t ty e i sz T.und hi hsz g n cap xs hs.row a m c ys hx.hlen hnews hx.hone hr
        have ho : Own w' e sz (some ⟨g, 0, Option.none⟩) (n + m) cap (xs ++ ys) := ⟨hown, hone⟩
        exact ⟨_, _, w', hrun, ho, ho.front hs.row.1, Keep.grown hgrow fun k hk => by cases hk; simp [blk], fun g hg => .inl hg⟩
      · have holds : ∀ j u, xs[j]? = some u → w.cell? ((⟨g, 0, .none⟩ : Addr).add j) = some u := fun j u hj => by
          have hlt := (List.getElem?_eq_some_iff.1 hj).1
          rcases Nat.eq_zero_or_pos n with h | h
          · have := hs.row.1; rw [h] at this; omega
          · obtain ⟨g', off, e, hc⟩ := hs.sl.hat h
            cases e
            rw [add_plain]
            exact hc.at hj
        obtain ⟨v', w', hrun, hown, hgrow⟩ := run_append_arg_grows w t ty e i z sz bytes T.und hi hz hsz hby hzs h0 ⟨g, 0, .none⟩ n cap xs hs.row.1 holds a m c ys hx.hlen hnews (by omega) h63 hb
        have hkeep : Keep [] w w' := Keep.grown hgrow fun k hk => by cases hk
        rcases hown.2 with ⟨rfl, hz⟩ | ⟨g', cap', cur', rfl, hg', hh', r'⟩
        · omega
        · exact ⟨_, _, w', hrun, ⟨⟨hown.1, .inr ⟨g', cap', cur', rfl, Nat.zero_le _, hh', r'⟩⟩, hone⟩, hs.keep hkeep (by simp), hkeep.mono (by simp), fun k hk => .inr (by simp [blk] at hk; omega)⟩

/-- x[l:h] -/
theorem run_cut {P : Program} {t e : TypeId} {sz bytes : Nat} (T : ST P t e sz bytes) {w : World} {ao : Option Addr} {n cap : Nat} {xs : List Value} (hs : Sl w sz ao n cap xs) (l h : Int) (lo hi : Nat) (hl : l = lo) (hh : h = hi) (h1 : lo ≤ hi) (h2 : hi ≤ n) :
    ∃ so sc, (∀ w', (Instr.sliceAt t (.slice ao n cap) (some (.int .i64 l)) (some (.int .i64 h)) none).run P w' = .ok (.slice so (hi - lo) sc) w') ∧ Sl w sz so (hi - lo) sc ((xs.drop (lo * sz)).take ((hi - lo) * sz)) ∧ blk so = blk ao := by
  obtain ⟨i, z, hi', hz, hsz, hby, hzs, h0⟩ := T.info
  have hc := hs.hle
  subst hl hh
  refine ⟨_, _, fun w' => ?_, hs.cut h1 h2, blk_cut⟩
  have e1 : (0 : Int) ≤ lo ∧ (lo : Int) ≤ (hi : Nat) := by omega
  have e2 : (0 : Int) ≤ hi ∧ (hi : Int) ≤ (cap : Nat) := by omega
  have e3 : lo ≤ hi ∧ hi ≤ cap := by omega
  simp [Instr.sliceAt, Instr.slice, run_underlying T.und, Instr.sliceBounds, Instr.sliceBound, asIntOf, e1, e2, sizeOf, typeInfo, hi', hsz, h1, show hi ≤ cap by omega]
/-- Bytes as cells, as a string. -/
def B (b : UInt8) : Value := .int .u8 (b.toNat : Int)
def str (l : List UInt8) : ByteArray := ⟨l.toArray⟩
@[go_sem] theorem str_toList (l : List UInt8) : (str l).toList = l := by rw [ByteArray.toList_eq]; rfl
theorem B_one (l : List UInt8) : ∀ u ∈ l.map B, u.oneCell' = true := by
  intro u hu; obtain ⟨b, _, rfl⟩ := List.mem_map.1 hu; rfl
theorem run_str {P : Program} {t e d : TypeId} (hs : P.underlying t = some (.slice e)) (he : P.underlying e = some (.int .u8)) (hd : P.underlying d = some .string) {w : World} {ao : Option Addr} {n cap : Nat} {l : List UInt8} (h : Sl w 1 ao n cap (l.map B)) :
    (convert t d (.slice ao n cap)).run P w = .ok (.string (str l)) w := by
  have hn : l.length = n := by have := h.hlen; simpa using this
  have e1 : ∀ l : List UInt8, (l.map (fun b : UInt8 => (b.toNat : Int))).map (fun n => UInt8.ofNat n.toNat) = l := fun l => by
    induction l with
    | nil => rfl
    | cons b l ih => simp [ih]
  have e2 : str l = strOfNums (l.map fun b => (b.toNat : Int)) := by
    unfold str strOfNums; rw [e1]
  cases n with
  | zero =>
    obtain rfl : l = [] := List.eq_nil_of_length_eq_zero hn
    cases ao with
    | none => exact run_convert_bytes_nil w t e hs he 0 cap d hd
    | some a =>
      have hl : (loadCells a 0).run P w = .ok (([] : List Int).map (Value.int .u8)).toArray w := run_loadCells_list (P := P) w a [] (fun j v hj => by simp at hj)
      rw [run_convert_bytes_string w t d e _ 0 cap hs he hd, run_bytesToString w a 0 cap [] hl, foldl_push_bytes]
      rfl
  | succ n =>
    obtain ⟨g, off, rfl, hc⟩ := h.hat (by omega)
    rw [e2]
    refine run_convert_bytes_arg w t e hs he g off (n + 1) cap _ (by simpa using hn) (fun i hi => ?_) d hd
    have := hc i (by simp; omega)
    rw [this]
    simp [B, show i < l.length by omega]
/-- append to what has no room: nothing that there was turns. -/
theorem run_app0 {P : Program} {t e : TypeId} {sz bytes : Nat} (T : ST P t e sz bytes) (w : World) (ty : TypeId) {ao : Option Addr} (hs : Own w e sz ao 0 0 [])
    {bo : Option Addr} {m c : Nat} {ys : List Value} (hx : Sl w sz bo m c ys) (h63 : m ≤ maxLen) (hb : m * bytes ≤ 140737488355328) :
    ∃ ao' cap' w', (Builtin.append_ #[t, t] ty #[.slice ao 0 0, .slice bo m c]).run P w = .ok (.slice ao' m cap') w' ∧ Own w' e sz ao' m cap' ys ∧ Grow w w' ∧
      ∀ g ∈ blk ao', g ∈ blk ao ∨ w.heap.size ≤ g := by
  by_cases hm : m = 0
  · subst hm
    obtain rfl : ys = [] := List.eq_nil_of_length_eq_zero (by simpa using hx.hlen)
    obtain ⟨i, z, hi, hz, hsz, hby, hzs, h0⟩ := T.info
    refine ⟨ao, 0, w, ?_, hs, Grow.refl w, fun g hg => .inl hg⟩
    rcases hs.row.2 with ⟨hv, _⟩ | ⟨g, cap', cur, hv, _, hh, hle, hcap, hsz', htake⟩
    · obtain ⟨rfl, _⟩ : ao = Option.none ∧ True := by simpa using hv
      cases bo with
      | none => simp [Builtin.append_, run_underlying T.und, sizeOf, typeInfo, hi, Builtin.lenOf, Builtin.firstCells]
      | some a =>
        have hf := run_firstCells_some (P := P) w i.size 0 a 0 c [] (by simp) (by simp)
        simp [Builtin.append_, run_underlying T.und, sizeOf, typeInfo, hi, Builtin.lenOf, hf]
    · obtain ⟨rfl, rfl⟩ : ao = some ⟨g, 0, Option.none⟩ ∧ 0 = cap' := by simpa using hv
      cases bo with
      | none => simp [Builtin.append_, run_underlying T.und, sizeOf, typeInfo, hi, Builtin.lenOf, Builtin.firstCells, storeCells]
      | some a =>
        have hf := run_firstCells_some (P := P) w i.size 0 a 0 c [] (by simp) (by simp)
        simp [Builtin.append_, run_underlying T.und, sizeOf, typeInfo, hi, Builtin.lenOf, hf, storeCells]
  · cases ao with
    | none =>
      obtain ⟨ao', cap', w', h1, h2, _, h3, h4⟩ := run_app T w ty hs hx (by omega) (by simpa using hb)
      simp only [Nat.zero_add, List.nil_append] at h1 h2
      exact ⟨ao', cap', w', h1, h2, h3.grow, h4⟩
    | some a =>
      obtain ⟨i, z, hi, hz, hsz, hby, hzs, h0⟩ := T.info
      obtain ⟨g, off, rfl, hc⟩ := hx.hat (by omega)
      have hnews : ∀ j u, ys[j]? = some u → w.cell? ((⟨g, off, .none⟩ : Addr).add j) = some u := fun j u hj => by rw [add_plain]; exact hc.at hj
      obtain ⟨v', w', hrun, hown, hgrow⟩ := run_append_arg_grows w t ty e i z sz bytes T.und hi hz hsz hby hzs h0 a 0 0 [] (by simp) (by simp) _ m c ys hx.hlen hnews (by omega) (by omega) (by simpa using hb)
      have hkeep : Keep [] w w' := Keep.grown hgrow fun k hk => by cases hk
      simp only [Nat.zero_add, List.nil_append] at hrun hown
      rcases hown.2 with ⟨rfl, hz⟩ | ⟨g', cap', cur', rfl, hg', hh', r'⟩
      · omega
      · exact ⟨_, _, w', hrun, ⟨⟨hown.1, .inr ⟨g', cap', cur', rfl, Nat.zero_le _, hh', r'⟩⟩, hx.hone⟩, hkeep.grow, fun k hk => .inr (by simp [blk] at hk; omega)⟩
/-- A struct or an array out of memory. -/
theorem run_ld {P : Program} {t : TypeId} {d : TypeDesc} {cs : List Value} (hu : P.underlying t = some d) (hd : d.isRow = true) (hi : (P.info? t).map (·.size) = some cs.length) {w : World} {g o : Nat} (h : Cells w g o cs) :
    (Instr.loadAt t (.pointer (some ⟨g, o, none⟩))).run P w = .ok (.agg cs.toArray) w :=
  run_loadAt_mid w g o t cs d (fun _ _ hj => h.at hj) hu hd hi
theorem exec_load {P : Program} {dst : Option Tmp} {t ty : TypeId} {x : Operand} {pos : String} {after : Array Edge} {gd : Option (Nat × Bool)} {ρ : Operand → Value} {w : World} {v : Value} (h : (Instr.loadAt t (ρ x)).run P w = .ok v w) :
    (execOp ρ ⟨dst, .load t x, ty, pos, after, gd⟩).run P w = .ok (.value v) w := by
  have : execOp ρ ⟨dst, .load t x, ty, pos, after, gd⟩ = (do pure (Next.value (← Instr.loadAt t (ρ x)))) := rfl
  rw [this, Sem.run_bind, h]; rfl
theorem Cells.sub {w : World} {g off : Nat} {xs ys : List Value} {k : Nat} (h : Cells w g off xs) (hs : ∀ i (hi : i < ys.length), xs[k + i]? = some ys[i]) : Cells w g (off + k) ys := fun i hi => by
  rw [Nat.add_assoc]; exact h.at (hs i hi)
/-- x[:h] -/
theorem run_cut0 {P : Program} {t e : TypeId} {sz bytes : Nat} (T : ST P t e sz bytes) {w : World} {ao : Option Addr} {n cap : Nat} {xs : List Value} (hs : Sl w sz ao n cap xs) (h : Int) (hi : Nat) (hh : h = hi) (h2 : hi ≤ n) :
    ∃ so sc, (∀ w', (Instr.sliceAt t (.slice ao n cap) none (some (.int .i64 h)) none).run P w' = .ok (.slice so hi sc) w') ∧ Sl w sz so hi sc (xs.take (hi * sz)) ∧ blk so = blk ao := by
  obtain ⟨i, z, hi', -, -, -, -, -⟩ := T.info
  have hc := hs.hle
  subst hh
  have hcut := hs.cut (Nat.zero_le hi) h2
  simp only [Nat.zero_mul, List.drop_zero, Nat.sub_zero] at hcut
  refine ⟨_, _, fun w' => ?_, hcut, blk_cut⟩
  have e2 : (0 : Int) ≤ hi ∧ (hi : Int) ≤ (cap : Nat) := by omega
  simp [Instr.sliceAt, Instr.slice, run_underlying T.und, Instr.sliceBounds, Instr.sliceBound, asIntOf, e2, sizeOf, typeInfo, hi', show hi ≤ cap by omega]
/-- x[l:] -/
theorem run_cut1 {P : Program} {t e : TypeId} {sz bytes : Nat} (T : ST P t e sz bytes) {w : World} {ao : Option Addr} {n cap : Nat} {xs : List Value} (hs : Sl w sz ao n cap xs) (l : Int) (lo : Nat) (hl : l = lo) (h1 : lo ≤ n) :
    ∃ so sc, (∀ w', (Instr.sliceAt t (.slice ao n cap) (some (.int .i64 l)) none none).run P w' = .ok (.slice so (n - lo) sc) w') ∧ Sl w sz so (n - lo) sc (xs.drop (lo * sz)) ∧ blk so = blk ao := by
  obtain ⟨i, z, hi', hz, hsz, hby, hzs, h0⟩ := T.info
  have hc := hs.hle
  subst hl
  have hcut := hs.cut h1 (Nat.le_refl n)
  rw [List.take_of_length_le (by simp [hs.hlen, Nat.sub_mul])] at hcut
  refine ⟨_, _, fun w' => ?_, hcut, blk_cut⟩
  have e2 : (0 : Int) ≤ lo ∧ (lo : Int) ≤ (n : Nat) := by omega
  simp [Instr.sliceAt, Instr.slice, run_underlying T.und, Instr.sliceBounds, Instr.sliceBound, asIntOf, e2, sizeOf, typeInfo, hi', hsz, h1]
theorem obj_cell {w : World} {p : Nat} {c : Array Value} {e : TypeId} {fr : Nat × Nat} (h : w.heap[p]? = some (.cells c e fr)) (i : Nat) {v : Value} (hv : c[i]? = some v) : w.cell? ⟨p, i, none⟩ = some v := by rw [cell_of_row w p i c e fr h, hv]
theorem obj_free {w : World} {p : Nat} {c : Array Value} {e : TypeId} (h : w.heap[p]? = some (.cells c e (0, 0))) (i : Nat) : w.frozen? ⟨p, i, none⟩ = false := by simp [World.frozen?, h]
theorem obj_set {w : World} {p : Nat} {c : Array Value} {e : TypeId} {fr : Nat × Nat} (h : w.heap[p]? = some (.cells c e fr)) (i : Nat) (v : Value) : (w.setCell ⟨p, i, none⟩ v).heap[p]? = some (.cells (c.setIfInBounds i v) e fr) := by
  simp [World.setCell, Array.getElem?_modify, h]

/-! ### Steps of a region -/
theorem Keep.of_nil {fp : List Nat} {w w' : World} (h : Keep [] w w') : Keep fp w w' := h.mono (by simp)
theorem yields_run {P : Program} {o : Oper} {ρ : Operand → Value} {w w' : World} {K : Value → World → Prop} {v : Value} (h : (execOp ρ o).run P w = .ok (.value v) w') (k : K v w') : yields P o ρ w K := by
  unfold yields; rw [h]; exact k
def isGo (P : Program) (f : FuncId) : Bool := match P.funcs[f]? with
  | some fn => !(fn.name == "runtime.NumGoroutine") && fn.body.isSome
  | none => false
theorem run_callFunc {P : Program} {f : FuncId} (hgo : isGo P f = true) (args : Array Value) (w : World) : (callFunc f args).run P w = .ok (.enter f args) w := by
  unfold isGo at hgo
  split at hgo
  · rename_i fn hf
    simp only [Bool.and_eq_true, Bool.not_eq_true', beq_eq_false_iff_ne, ne_eq, Option.isSome_iff_exists] at hgo
    obtain ⟨hn, body, hb⟩ := hgo
    simp [callFunc, hf, hn, hb]
  · cases hgo
theorem yields_call {P : Program} {dst : Option Tmp} {f : FuncId} {args : List Operand} {ats : Array TypeId} {ty : TypeId} {pos : String} {after : Array Edge} {guard : Option (Nat × Bool)} {a : Act} {w : World} {K : Value → World → Prop}
    (hgo : isGo P f = true) (h : Calls P f (args.map a.eval).toArray w fun e w' => ∃ v, e = .returned v ∧ K v w') :
    yields P ⟨dst, .call { callee := .value (.func f), args := args.toArray, argTypes := ats }, ty, pos, after, guard⟩ a.eval w K := by
  unfold yields
  rw [execOp_call_go, run_callFunc hgo]
  simpa [yUpon] using h
theorem run_exec_append {P : Program} {dst : Option Tmp} {s x : Operand} {t ty : TypeId} {pos : String} {after : Array Edge} {guard : Option (Nat × Bool)} {ρ : Operand → Value} {w w' : World} {v : Value}
    (h : (Builtin.append_ #[t, t] ty #[ρ s, ρ x]).run P w = .ok v w') :
    (execOp ρ ⟨dst, .call { callee := .builtin .append, args := #[s, x], argTypes := #[t, t] }, ty, pos, after, guard⟩).run P w = .ok (.value v) w' := by
  simp only [BigFrame.execOp_builtin, BigFrame.builtin_append, List.map_toArray, List.map_cons, List.map_nil, Sem.run_bind, h, Result.andThen_ok, Sem.run_pure]

/-- append in a walk. -/
theorem wpList_app {P : Program} {t e : TypeId} {sz bytes : Nat} (T : ST P t e sz bytes) {w : World} {ops : Array Oper} {rest : List Oper} {a : Act} {Q : Exit → Act → World → Prop}
    {dst : Option Tmp} {s x : Operand} {ty : TypeId} {pos : String} {after : Array Edge} {ao : Option Addr} {n cap : Nat} {xs : List Value} {bo : Option Addr} {m c : Nat} {ys : List Value}
    (hs : a.eval s = .slice ao n cap) (hx : a.eval x = .slice bo m c) (ho : Own w e sz ao n cap xs) (hy : Sl w sz bo m c ys) (h63 : n + m ≤ maxLen) (hb : (n + m) * bytes ≤ 140737488355328)
    (k : ∀ ao' cap' w', Own w' e sz ao' (n + m) cap' (xs ++ ys) → Own w' e sz ao n cap xs → Keep (blk ao) w w' → (∀ g ∈ blk ao', g ∈ blk ao ∨ w.heap.size ≤ g) → wpList P ops Q rest (a.put dst (.slice ao' (n + m) cap')) w') :
    wpList P ops Q (⟨dst, .call { callee := .builtin .append, args := #[s, x], argTypes := #[t, t] }, ty, pos, after, none⟩ :: rest) a w := by
  obtain ⟨ao', cap', w', hr, h1, h2, h3, h4⟩ := run_app T w ty ho hy h63 hb
  refine wpList_plain rfl fun K hK => ?_
  unfold Oper.wp
  rw [run_exec_append (by rw [hs, hx]; exact hr)]
  exact hK _ _ (k ao' cap' w' h1 h2 h3 h4)
end Go.Proofs.Ytaepfkpfageiaaa
