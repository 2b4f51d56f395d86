/- Regions in which constant texts are laid: blocks keep their cells, though they are marked. -/
import Derived.Test.YtaepfkpfageiaaaGTabE
import Derived.Lib.SlBytesConst
namespace Go.Proofs.Ytaepfkpfageiaaa
open Go Go.RowKit

/-- All cells are as they were. -/
structure KF (w w' : World) : Prop where
  os : w'.os = w.os
  tape : w'.tape = w.tape
  output : w'.output = w.output
  size : w.heap.size ≤ w'.heap.size
  block : ∀ (k : Nat) (o : Obj), w.heap[k]? = some o → w'.heap[k]? = some o ∨ ∃ (C : Array Value) (e : TypeId) (fr fr' : Nat × Nat), o = Obj.cells C e fr ∧ w'.heap[k]? = some (Obj.cells C e fr')
theorem KF.of_grow {w w' : World} (g : Grow w w') : KF w w' :=
  ⟨Below.os g, Below.tape g, Below.output g, Below.size g, fun _ _ h => .inl (g.block h)⟩
theorem KF.refl (w : World) : KF w w := KF.of_grow (Grow.refl w)
theorem KF.cell {w w' : World} (h : KF w w') {p : Addr} {v : Value} (hv : w.cell? p = some v) : w'.cell? p = some v := by
  unfold World.cell? at *
  cases ho : w.heap[p.block]? with
  | none => rw [ho] at hv; cases hv
  | some o =>
    rw [ho] at hv
    rcases h.block _ _ ho with h1 | ⟨C, e, fr, fr', rfl, h1⟩
    · rw [h1]; exact hv
    · rw [h1]; exact hv
theorem Cells.kf {w w' : World} {g off : Nat} {xs : List Value} (h : Cells w g off xs) (k : KF w w') : Cells w' g off xs := fun i hi => k.cell (h i hi)
theorem Sl.kf {w w' : World} {sz : Nat} {ao : Option Addr} {n cap : Nat} {xs : List Value} (h : Sl w sz ao n cap xs) (k : KF w w') : Sl w' sz ao n cap xs :=
  ⟨h.hle, h.hcap, h.hlen, h.hone, h.hnil, fun hn => let ⟨g, off, e, hc⟩ := h.hat hn; ⟨g, off, e, hc.kf k⟩⟩
theorem Pt.kf {w w' : World} {vs : List Value} {ls : List (List UInt8)} (h : Pt w vs ls) (k : KF w w') : Pt w' vs ls :=
  ⟨h.1, fun i hi => let ⟨ao, c, e, s⟩ := h.2 i hi; ⟨ao, c, e, s.kf k⟩⟩
/-- What operations leave. -/
structure PrF where
  p : Value → World → Prop
  st : ∀ {v w w'}, KF w w' → p v w → p v w'
def VF (T : List (Nat × PrF)) (i : Nat) (_ : Array Value) (v : Value) (w : World) : Prop := match T.lookup i with
  | some q => q.p v w
  | none => True
theorem VF_st (T : List (Nat × PrF)) (i : Nat) (vs : Array Value) (v : Value) (w w' : World) (k : KF w w') (h : VF T i vs v w) : VF T i vs v w' := by
  unfold VF at *
  split at h
  · exact PrF.st _ k h
  · trivial
/-- Operations that lay what is new, and mark what is new. -/
def segF (w0 : World) (T : List (Nat × PrF)) : Seg where
  C w := ∃ n : KW [] tt w0, w = n.w
  R _ w w' := KF w w' ∧ ∃ fp, Keep fp w w' ∧ ∀ x ∈ fp, w0.heap.size ≤ x
  V := VF T
  es := T.map (·.1)
  hC := fun i w w' ⟨n, h⟩ ⟨_, fp, hr, hf⟩ => ⟨⟨w', by subst h; exact n.h.trans' hr (fun x hx => .inr (hf x hx)), trivial⟩, rfl⟩
  hV := fun i j vs v w w' _ _ hr h => VF_st T j vs v w w' hr.1 h
theorem segF_drew {w0 : World} {T : List (Nat × PrF)} : (segF w0 T).C w0.drew := ⟨⟨w0.drew, Keep.drew _ w0, trivial⟩, rfl⟩
theorem growF {w w' : World} (g : Grow w w') {w0 : World} : KF w w' ∧ ∃ fp, Keep fp w w' ∧ ∀ x ∈ fp, w0.heap.size ≤ x := ⟨KF.of_grow g, [], Keep.of_grow [] g, by simp⟩
def fIs (x : Value) : PrF := ⟨fun v _ => v = x, fun _ h => h⟩
def fBy (l : List UInt8) : PrF := ⟨fun v w => ∃ ao c, v = .slice ao l.length c ∧ Sl w 1 ao l.length c (l.map B), fun k ⟨ao, c, e, h⟩ => ⟨ao, c, e, h.kf k⟩⟩
def fPt (ls : List (List UInt8)) : PrF := ⟨fun v w => ∃ ao c vs, v = .slice ao ls.length c ∧ Sl w 1 ao ls.length c vs ∧ Pt w vs ls, fun k ⟨ao, c, vs, e, h, h2⟩ => ⟨ao, c, vs, e, h.kf k, h2.kf k⟩⟩
def fSl (sz n : Nat) (xs : List Value) : PrF := ⟨fun v w => ∃ ao c, v = .slice ao n c ∧ Sl w sz ao n c xs, fun k ⟨ao, c, e, h⟩ => ⟨ao, c, e, h.kf k⟩⟩
/-- A text laid as it stands, in a block from B0 on. -/
def fLit (B0 : Nat) (l : List UInt8) : PrF := ⟨fun v w => ∃ g fr, v = .slice (some ⟨g, 0, none⟩) l.length l.length ∧ w.heap[g]? = some (.cells (l.map B).toArray 5 fr) ∧ B0 ≤ g,
  fun k ⟨g, fr, e, h, hg⟩ => by
    rcases k.block _ _ h with h1 | ⟨C, e', fr1, fr', he, h1⟩
    · exact ⟨g, fr, e, h1, hg⟩
    · obtain ⟨rfl, rfl, rfl⟩ : (l.map B).toArray = C ∧ 5 = e' ∧ fr = fr1 := by simpa using he
      exact ⟨g, fr', e, h1, hg⟩⟩
/-- A constant text turned to bytes. -/
theorem conv_lit {w : World} {g : Nat} {C : Array Value} {fr : Nat × Nat} (n c : Nat) (h : w.heap[g]? = some (.cells C 5 fr)) :
    ∃ w', (convert 22 22 (.slice (some ⟨g, 0, none⟩) n c)).run Try.prog w = .ok (.slice (some ⟨g, 0, none⟩) n c) w' ∧ KF w w' ∧ Keep [g] w w' := by
  have hsh : w.shape? g = some (5, C.size) := by unfold World.shape?; rw [h]
  have hg : g < w.heap.size := (Array.getElem?_eq_some_iff.1 h).1
  refine ⟨w.freeze ⟨g, C.size, none⟩ 1, ?_, ⟨?_, ?_, ?_, ?_, ?_⟩, ⟨?_, ?_, ?_, ?_, ?_⟩⟩
  · simp [convert, run_underlying Try.underlying22, run_underlying Try.underlying5, markStringish, hsh]
  · unfold World.freeze; rw [if_neg (by decide)]
  · unfold World.freeze; rw [if_neg (by decide)]
  · unfold World.freeze; rw [if_neg (by decide)]
  · unfold World.freeze; rw [if_neg (by decide)]; simp
  · intro k o hk
    unfold World.freeze
    rw [if_neg (by decide)]
    by_cases e : k = g
    · subst e
      right
      rw [h] at hk
      obtain rfl : Obj.cells C 5 fr = o := by simpa using hk
      obtain ⟨lo, hi⟩ := fr
      refine ⟨C, 5, (lo, hi), (if lo == hi then (C.size, C.size + 1) else (min lo C.size, max hi (C.size + 1))), rfl, ?_⟩
      simp [Array.getElem?_modify, h]
    · left
      simp [Array.getElem?_modify, Ne.symm e, hk]
  · unfold World.freeze; rw [if_neg (by decide)]
  · unfold World.freeze; rw [if_neg (by decide)]
  · unfold World.freeze; rw [if_neg (by decide)]
  · unfold World.freeze; rw [if_neg (by decide)]; simp
  · intro k hk hn
    unfold World.freeze
    rw [if_neg (by decide)]
    have : g ≠ k := fun e => hn (by simp [e])
    simp [Array.getElem?_modify, this]
theorem fPt_one {w : World} {ao : Option Addr} {c n : Nat} {l : List UInt8} {e : TypeId} (h : Sl w 1 ao n c (l.map B)) :
    (fPt [l]).p (.slice (some ⟨w.heap.size, 0, none⟩) 1 1) (w.alloc (.cells #[.slice ao n c] e)) := pPt_one h
theorem fLit_new (w : World) (B0 : Nat) (l : List UInt8) (n : Nat) (hn : l.length = n) (hB : B0 ≤ w.heap.size) : (fLit B0 l).p (.slice (some ⟨w.heap.size, 0, none⟩) n n) (w.alloc (.cells (l.map B).toArray 5)) := by
  subst hn
  exact ⟨_, _, rfl, alloc_new w _, hB⟩
theorem fBy_lit {w w' : World} {g : Nat} {l : List UInt8} {fr : Nat × Nat} (h : w.heap[g]? = some (.cells (l.map B).toArray 5 fr)) (hl : l.length ≤ 1000000) (k : KF w w') : (fBy l).p (.slice (some ⟨g, 0, none⟩) l.length l.length) w' :=
  ⟨_, _, rfl, (sl_obj (C := l.map B) h l.length (by simp) (by unfold maxLen; omega) (B_one _)).kf k⟩
end Go.Proofs.Ytaepfkpfageiaaa
