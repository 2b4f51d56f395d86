/- From what a reading of the arguments gives to what the walks ask. -/
import Derived.Test.YtaepfkpfageiaaaMem
import Derived.Deep.Slices
import Derived.Deep.Fields
import Derived.Deep.Strs
namespace Go.Proofs.Ytaepfkpfageiaaa
open Go Go.RowKit

/-- What is known of a slice of integers that came in. -/
def IsRow (k : IntKind) (w : World) (a : Option Addr) (len cap : Nat) (zs : List Int) : Prop :=
  (a = none ∧ len = 0 ∧ cap = 0 ∧ zs = []) ∨
  ∃ x, a = some x ∧ len ≤ cap ∧ cap ≤ maxLen ∧ zs.length = cap ∧ (∀ i, i < zs.length → w.cell? (x.add i) = some (.int k (zs.getD i 0))) ∧ ∀ n ∈ zs, (Lit.int k n).wf = true

theorem spot_none {w : World} {a : Addr} {v : Value} (h : w.cell? a = some v) : a.spot = none := by
  unfold World.cell? at h
  split at h
  · split at h
    · cases h
    · rename_i hs; simpa using hs
  · cases h
theorem sl_of_row {k : IntKind} {w : World} {a : Option Addr} {len cap : Nat} {zs : List Int} (h : IsRow k w a len cap zs) : Sl w 1 a len cap ((zs.take len).map (.int k)) := by
  rcases h with ⟨rfl, rfl, rfl, rfl⟩ | ⟨x, rfl, hl, hm, hz, hc, _⟩
  · exact Sl.none w 1
  · refine ⟨hl, hm, by simp; omega, ints_oneCell k _, by simp, fun h0 => ?_⟩
    have h00 := hc 0 (by omega)
    have hs : x.spot = none := by
      have : x.add 0 = x := by simp [Addr.add]
      rw [this] at h00
      exact spot_none h00
    obtain ⟨b, o, s⟩ := x
    cases hs
    refine ⟨b, o, rfl, fun i hi => ?_⟩
    have hi' : i < len := by simp at hi; omega
    have := hc i (by omega)
    rw [add_plain] at this
    rw [this]
    simp [List.getD, show i < zs.length by omega]
theorem bytes_of_row {w : World} {a : Option Addr} {len cap : Nat} {zs : List Int} (h : IsRow .u8 w a len cap zs) : ∃ l : List UInt8, l.length = len ∧ Sl w 1 a l.length cap (l.map B) := by
  have hs := sl_of_row h
  have hwf : ∀ n ∈ zs.take len, 0 ≤ n ∧ n < 256 := by
    rcases h with ⟨rfl, rfl, rfl, rfl⟩ | ⟨x, rfl, hl, hm, hz, hc, hw⟩
    · simp
    · intro n hn
      have := hw n (List.take_subset _ _ hn)
      simp [Lit.wf, IntKind.min, IntKind.max, IntKind.signed, IntKind.bits] at this
      omega
  have hlen : (zs.take len).length = len := by have := hs.hlen; simpa using this
  refine ⟨(zs.take len).map fun n => UInt8.ofNat n.toNat, by simpa using hlen, ?_⟩
  have e : ∀ l : List Int, (∀ n ∈ l, 0 ≤ n ∧ n < 256) → (l.map fun n => UInt8.ofNat n.toNat).map B = l.map (.int .u8) := fun l => by
    induction l with
    | nil => intro _; rfl
    | cons n l ih =>
      intro h
      have h1 := h n (by simp)
      have h2 := ih fun m hm => h m (by simp [hm])
      simp only [List.map_cons, h2, B, List.cons.injEq, and_true, Value.int.injEq, true_and]
      simp [UInt8.toNat_ofNat']
      omega
  rw [e _ hwf, List.length_map, hlen]
  exact hs

theorem flatMap_at {α : Type} (en : α → List Value) {c : Nat} (hc : 0 < c) (hl : ∀ a, (en a).length = c) : ∀ (l : List α) (i : Nat), (l.flatMap en)[i]? = (l[i / c]?).bind fun a => (en a)[i % c]? := by
  intro l
  induction l with
  | nil => intro i; simp
  | cons a l ih =>
    intro i
    rw [List.flatMap_cons]
    by_cases h : i < c
    · rw [List.getElem?_append_left (by rw [hl]; exact h), Nat.div_eq_of_lt h, Nat.mod_eq_of_lt h]
      simp
    · rw [List.getElem?_append_right (by rw [hl]; omega), hl, ih]
      have e1 : i / c = (i - c) / c + 1 := by
        rw [show i = (i - c) + c by omega, Nat.add_div_right _ hc]
        simp
      have e2 : i % c = (i - c) % c := by
        rw [show i = (i - c) + c by omega, Nat.add_mod_right]
        simp
      rw [e1, e2]
      simp
theorem flatMap_one {α : Type} (f : α → Value) (l : List α) : l.flatMap (fun b => [f b]) = l.map f := by
  induction l with
  | nil => rfl
  | cons a l ih => simp [ih]
theorem flatMap_len {α : Type} (en : α → List Value) {c : Nat} (hl : ∀ a, (en a).length = c) (l : List α) : (l.flatMap en).length = l.length * c := by
  induction l with
  | nil => simp
  | cons a l ih => simp [ih, hl, Nat.add_mul]; omega
section
open Go.ChangeShapes Go.WideShapes Go.Deep
variable {H : Type} {enc : TypeId × Value → H} {P : Program} {w : World} {base : Nat} {held : Bool}
/-- A slice that came in, each of whose elements is read. -/
theorem open_list {α : Type} (en : α → List Value) (good : α → Prop) {c : Nat} (hc : 0 < c) (hl : ∀ a, (en a).length = c) (hone : ∀ a, ∀ u ∈ en a, u.oneCell' = true) {t e : TypeId} (ht : P.underlying t = some (.slice e)) (hC : P.cellsOf e = c)
    (dec : ∀ n cs' y, DataW.trod enc P w base (fun _ => true) held n e cs' = some y → ∃ a, cs' = en a ∧ good a) {fuel : Nat} {ao : Option Addr} {n cap : Nat} {x : DataW H × List MemPlace}
    (h : DataW.trod enc P w base (fun _ => true) held fuel t (Value.slice ao n cap).cells.toList = some x) : ∃ l : List α, l.length = n ∧ Sl w c ao l.length cap (l.flatMap en) ∧ ∀ a ∈ l, good a := by
  rcases open_slice ht h with ⟨hcs, _⟩ | ⟨a, len, cap', m, nn, D, Pl, hcs, hb, hle, hm, hmm, hx, hi⟩
  · simp [Value.cells] at hcs
    obtain ⟨rfl, rfl, rfl⟩ := hcs
    exact ⟨[], rfl, Sl.none w c, by simp⟩
  · simp [Value.cells] at hcs
    obtain ⟨rfl, rfl, rfl⟩ := hcs
    rw [hC] at hi
    simp only [if_true] at hmm
    have each : ∀ i : Fin n, ∃ b, (∀ j, j < c → w.cell? ((a.add (i * c)).add j) = (en b)[j]?) ∧ good b := fun i => by
      obtain ⟨cs', hcs', hd⟩ := hi i (by have := i.2; omega)
      obtain ⟨b, rfl, hg⟩ := dec _ _ _ hd
      exact ⟨b, (World.cells?_some hcs').2.2, hg⟩
    obtain ⟨f, hf⟩ : ∃ f : Fin n → α, ∀ i : Fin n, (∀ j, j < c → w.cell? ((a.add (i * c)).add j) = (en (f i))[j]?) ∧ good (f i) := ⟨fun i => Classical.choose (each i), fun i => Classical.choose_spec (each i)⟩
    have hln : (List.ofFn f).length = n := List.length_ofFn
    refine ⟨List.ofFn f, hln, ?_, ?_⟩
    · refine ⟨by omega, hm, flatMap_len en hl _, ?_, by simp, fun h0 => ?_⟩
      · intro u hu
        obtain ⟨b, _, hb⟩ := List.mem_flatMap.1 hu
        exact hone b u hb
      rw [hln] at h0
      have hat : ∀ i (hi : i < n) j, j < c → w.cell? ((a.add (i * c)).add j) = (en (f ⟨i, hi⟩))[j]? := fun i hi j hj => (hf ⟨i, hi⟩).1 j hj
      have hs : a.spot = none := by
        have h00 := hat 0 h0 0 hc
        have : (a.add (0 * c)).add 0 = a := by simp [Addr.add]
        rw [this, List.getElem?_eq_getElem (by rw [hl]; exact hc)] at h00
        exact spot_none h00
      obtain ⟨b, o, s⟩ := a
      cases hs
      refine ⟨b, o, rfl, fun i hi => ?_⟩
      have hi' := hi
      rw [flatMap_len en hl, hln] at hi'
      have hd : i / c < n := (Nat.div_lt_iff_lt_mul hc).2 hi'
      have := hat (i / c) hd (i % c) (Nat.mod_lt _ hc)
      rw [add_plain, add_plain, Nat.add_assoc, Nat.div_add_mod' i c] at this
      have e : (List.ofFn f)[i / c]? = some (f ⟨i / c, hd⟩) := by rw [List.getElem?_eq_getElem (by rw [hln]; exact hd)]; simp
      rw [this, ← List.getElem?_eq_getElem hi, flatMap_at en hc hl, e]
      rfl
    · intro b hb
      obtain ⟨i, hi⟩ := List.mem_ofFn.1 hb
      rw [← hi]
      exact (hf i).2
theorem open_bytes {t e : TypeId} (ht : P.underlying t = some (.slice e)) (he : P.underlying e = some (.int .u8)) (hC : P.cellsOf e = 1) {fuel : Nat} {ao : Option Addr} {n cap : Nat} {x : DataW H × List MemPlace}
    (h : DataW.trod enc P w base (fun _ => true) held fuel t (Value.slice ao n cap).cells.toList = some x) : ∃ l : List UInt8, l.length = n ∧ Sl w 1 ao l.length cap (l.map B) := by
  obtain ⟨l, h1, h2, -⟩ := open_list (α := UInt8) (fun b => [B b]) (fun _ => True) (by decide) (fun _ => rfl) (by simp [B, Value.oneCell']) ht hC (fun n cs y hd => by
    obtain ⟨k, rfl, -, hw⟩ := DataW.trod_int he hd
    simp [Lit.wf, IntKind.min, IntKind.max, IntKind.signed, IntKind.bits] at hw
    refine ⟨UInt8.ofNat k.toNat, ?_, trivial⟩
    simp [B, UInt8.toNat_ofNat']
    omega) h
  refine ⟨l, h1, ?_⟩
  rwa [flatMap_one] at h2
theorem open_intl {t e : TypeId} {k : IntKind} (ht : P.underlying t = some (.slice e)) (he : P.underlying e = some (.int k)) (hC : P.cellsOf e = 1) {fuel : Nat} {ao : Option Addr} {n cap : Nat} {x : DataW H × List MemPlace}
    (h : DataW.trod enc P w base (fun _ => true) held fuel t (Value.slice ao n cap).cells.toList = some x) : ∃ l : List Int, l.length = n ∧ Sl w 1 ao l.length cap (l.map (.int k)) ∧ ∀ a ∈ l, (Lit.int k a).wf = true := by
  obtain ⟨l, h1, h2, h3⟩ := open_list (α := Int) (fun b => [.int k b]) (fun b => (Lit.int k b).wf = true) (by decide) (fun _ => rfl) (by simp [Value.oneCell']) ht hC (fun n cs y hd => by
    obtain ⟨k, rfl, -, hw⟩ := DataW.trod_int he hd
    exact ⟨k, rfl, hw⟩) h
  refine ⟨l, h1, ?_, h3⟩
  rwa [flatMap_one] at h2
end
end Go.Proofs.Ytaepfkpfageiaaa
