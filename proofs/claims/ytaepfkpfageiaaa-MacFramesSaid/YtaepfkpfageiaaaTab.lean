/- What the operations of a region leave, as a table: a property of each one's value that later operations do not undo. -/
import Derived.Test.YtaepfkpfageiaaaConvS
import Derived.Test.YtaepfkpfageiaaaShaH
import Derived.Deep.CutBlock
import Derived.Deep.DeepCutAuto
import Derived.Deep.OwnRows
namespace Go.Proofs.Ytaepfkpfageiaaa
open Go Go.RowKit

structure Pr where
  p : Value → World → Prop
  st : ∀ {v w w'}, Keep [] w w' → p v w → p v w'
def VT (T : List (Nat × Pr)) (i : Nat) (_ : Array Value) (v : Value) (w : World) : Prop := match T.lookup i with
  | some q => q.p v w
  | none => True
theorem VT_st (T : List (Nat × Pr)) (i : Nat) (vs : Array Value) (v : Value) (w w' : World) (k : Keep [] w w') (h : VT T i vs v w) : VT T i vs v w' := by
  unfold VT at *
  split at h
  · exact Pr.st _ k h
  · trivial
def segT (w0 : World) (T : List (Nat × Pr)) : Seg := segK [] w0 (T.map (·.1)) (VT T) (VT_st T)
theorem segT_drew {w0 : World} {T : List (Nat × Pr)} : (segT w0 T).C w0.drew := segK_drew
/-- The value x. -/
def pIs (x : Value) : Pr := ⟨fun v _ => v = x, fun _ h => h⟩
/-- A slice that reads these bytes. -/
def pBy (l : List UInt8) : Pr := ⟨fun v w => ∃ ao c, v = .slice ao l.length c ∧ Sl w 1 ao l.length c (l.map B), fun k ⟨ao, c, e, h⟩ => ⟨ao, c, e, h.keep k (by simp)⟩⟩
theorem Pt.keep0 {w w' : World} {vs : List Value} {ls : List (List UInt8)} (h : Pt w vs ls) (k : Keep [] w w') : Pt w' vs ls := h.grow k.grow
/-- A slice of texts. -/
def pPt (ls : List (List UInt8)) : Pr := ⟨fun v w => ∃ ao c vs, v = .slice ao ls.length c ∧ Sl w 1 ao ls.length c vs ∧ Pt w vs ls, fun k ⟨ao, c, vs, e, h, h2⟩ => ⟨ao, c, vs, e, h.keep k (by simp), h2.keep0 k⟩⟩
/-- A slice of the call's own. -/
def pOw (e : TypeId) (sz n : Nat) (xs : List Value) : Pr := ⟨fun v w => ∃ ao c, v = .slice ao n c ∧ Own w e sz ao n c xs, fun k ⟨ao, c, h1, h⟩ => ⟨ao, c, h1, h.keep k (by simp)⟩⟩
/-- A slice of one, two texts, built. -/
theorem pPt_one {w : World} {ao : Option Addr} {c n : Nat} {l : List UInt8} {e : TypeId} (h : Sl w 1 ao n c (l.map B)) :
    (pPt [l]).p (.slice (some ⟨w.heap.size, 0, none⟩) 1 1) (w.alloc (.cells #[.slice ao n c] e)) := by
  obtain rfl : n = l.length := by have := h.hlen; simpa using this.symm
  exact ⟨_, _, [.slice ao l.length c], rfl, sl_obj (C := [.slice ao l.length c]) (alloc_new w _) 1 rfl (by decide) (by simp [Value.oneCell']), one_part (h.grow (Grow.alloc w _))⟩
theorem two_parts {w : World} {ao bo : Option Addr} {c d : Nat} {l m : List UInt8} (h : Sl w 1 ao l.length c (l.map B)) (k : Sl w 1 bo m.length d (m.map B)) : Pt w [.slice ao l.length c, .slice bo m.length d] [l, m] :=
  ⟨rfl, fun i hi => by
    have hi' : i = 0 ∨ i = 1 := by simp at hi; omega
    rcases hi' with rfl | rfl
    · exact ⟨ao, c, rfl, h⟩
    · exact ⟨bo, d, rfl, k⟩⟩
theorem pPt_two {w : World} {ao bo : Option Addr} {c d n n2 : Nat} {l m : List UInt8} {e : TypeId} (h : Sl w 1 ao n c (l.map B)) (k : Sl w 1 bo n2 d (m.map B)) :
    (pPt [l, m]).p (.slice (some ⟨w.heap.size, 0, none⟩) 2 2) (w.alloc (.cells #[.slice ao n c, .slice bo n2 d] e)) := by
  obtain rfl : n = l.length := by have := h.hlen; simpa using this.symm
  obtain rfl : n2 = m.length := by have := k.hlen; simpa using this.symm
  exact ⟨_, _, [.slice ao l.length c, .slice bo m.length d], rfl, sl_obj (C := [.slice ao l.length c, .slice bo m.length d]) (alloc_new w _) 2 rfl (by decide) (by simp [Value.oneCell']), two_parts (h.grow (Grow.alloc w _)) (k.grow (Grow.alloc w _))⟩
/-- make([]byte, n) -/
theorem madeCells_rep (z : Value) (n : Nat) : madeCells #[z] n = (List.replicate n z).toArray := by
  apply Array.ext'
  refine List.ext_getElem (by simp [madeCells]) fun i h1 h2 => ?_
  simp [madeCells, Nat.mod_one]
theorem make_bytes (n : Nat) (hn : n ≤ 10000000) (w : World) :
    (Instr.makeSlice 22 (.int .i64 (n : Int)) (.int .i64 (n : Int))).run Try.prog w = .ok (.slice (some ⟨w.heap.size, 0, none⟩) n n) (w.alloc (.cells (List.replicate n (.int .u8 0)).toArray 5)) := by
  rw [← madeCells_rep]
  exact run_make_row' 22 5 (.int .u8 0) 1 Try.underlying22 (by kernel_rfl) rfl .i64 .i64 n (by omega) (by omega) w
/-- Two new variables that are whole arrays. -/
theorem newvar2 {t t2 : TypeId} {n n2 : Nat} {F F2 : List Value} (w : World) (z z2 : Value) (hz : z.oneCell' = true) (hz2 : z2.oneCell' = true) (hm : n ≤ maxLen) (hm2 : n2 ≤ maxLen) (hF : F.length = n) (hF2 : F2.length = n2) (h1 : ∀ v ∈ F, v.oneCell' = true) (h2 : ∀ v ∈ F2, v.oneCell' = true) :
    ((w.alloc (.cells (List.replicate n z).toArray t)).alloc (.cells (List.replicate n2 z2).toArray t2)).there w.heap.size 0 F.toArray.size ∧ F.toArray.all (·.oneCell') = true ∧
    (((w.alloc (.cells (List.replicate n z).toArray t)).alloc (.cells (List.replicate n2 z2).toArray t2)).setCells w.heap.size 0 F).there (w.heap.size + 1) 0 F2.toArray.size ∧ F2.toArray.all (·.oneCell') = true ∧
    Own ((((w.alloc (.cells (List.replicate n z).toArray t)).alloc (.cells (List.replicate n2 z2).toArray t2)).setCells w.heap.size 0 F).setCells (w.heap.size + 1) 0 F2) t 1 (some ⟨w.heap.size, 0, none⟩) n n F ∧
    Own ((((w.alloc (.cells (List.replicate n z).toArray t)).alloc (.cells (List.replicate n2 z2).toArray t2)).setCells w.heap.size 0 F).setCells (w.heap.size + 1) 0 F2) t2 1 (some ⟨w.heap.size + 1, 0, none⟩) n2 n2 F2 ∧
    Grow w ((((w.alloc (.cells (List.replicate n z).toArray t)).alloc (.cells (List.replicate n2 z2).toArray t2)).setCells w.heap.size 0 F).setCells (w.heap.size + 1) 0 F2) := by
  have oa := (own_new (t := t) (n := n) w z hz hm).grow (Grow.alloc _ (.cells (List.replicate n2 z2).toArray t2))
  have ob := own_new (t := t2) (n := n2) (w.alloc (.cells (List.replicate n z).toArray t)) z2 hz2 hm2
  rw [sz_al] at ob
  have gab := (Grow.alloc w (.cells (List.replicate n z).toArray t)).trans (Grow.alloc _ (.cells (List.replicate n2 z2).toArray t2))
  have ka := Keep.setCells w.heap.size F 0 ((w.alloc (.cells (List.replicate n z).toArray t)).alloc (.cells (List.replicate n2 z2).toArray t2))
  have ob2 := ob.keep ka (by simp [blk])
  have oa2 := own_whole oa hF h1
  have kb := Keep.setCells (w.heap.size + 1) F2 0 (((w.alloc (.cells (List.replicate n z).toArray t)).alloc (.cells (List.replicate n2 z2).toArray t2)).setCells w.heap.size 0 F)
  exact ⟨own_there oa _ (by simpa using hF), one_all h1, own_there ob2 _ (by simpa using hF2), one_all h2, oa2.keep kb (by simp [blk]), own_whole ob2 hF2 h2, (gab.then ka (fun x hx => by simp at hx; omega)).then kb (fun x hx => by simp at hx; omega)⟩
theorem load_arr {P : Program} {t : TypeId} {g n : Nat} {X : List Value} {d : TypeDesc} {w : World} (h0 : 0 < n) (hX : X.length = n) (o : Own w t 1 (some ⟨g, 0, none⟩) n n X) (hu : P.underlying t = some d) (hd : d.isRow = true) (hi : (P.info? t).map (·.size) = some n) :
    (Instr.loadAt t (.pointer (some ⟨g, 0, none⟩))).run P w = .ok (.agg X.toArray) w := by
  obtain ⟨g', off', eg, hc⟩ := o.sl.hat (by omega)
  cases eg
  exact run_ld hu hd (by rw [hX]; exact hi) hc
theorem store_arr {P : Program} {t : TypeId} {g n : Nat} {X Y : List Value} {w : World} (hX : X.length = n) (h1 : ∀ v ∈ X, v.oneCell' = true) (o : Own w t 1 (some ⟨g, 0, none⟩) n n Y) (hi : (P.info? t).map (·.size) = some n) :
    (Instr.storeAt t (.pointer (some ⟨g, 0, none⟩)) (.agg X.toArray)).run P w = .ok () (w.setCells g 0 X) ∧ Own (w.setCells g 0 X) t 1 (some ⟨g, 0, none⟩) n n X ∧ Keep [g] w (w.setCells g 0 X) := by
  refine ⟨?_, own_whole o hX h1, Keep.setCells _ _ _ _⟩
  have := run_storeAt_mid (P := P) w g 0 t X.toArray (own_there o _ (by simpa using hX)) (by rw [hi]; simp [hX]) (one_all h1)
  simpa using this
theorem Pt.cons {w : World} {vs : List Value} {ls : List (List UInt8)} {ao : Option Addr} {n c : Nat} {l : List UInt8} (s : Sl w 1 ao n c (l.map B)) (h : Pt w vs ls) : Pt w (.slice ao n c :: vs) (l :: ls) := by
  obtain rfl : n = l.length := by have := s.hlen; simpa using this.symm
  refine ⟨by simp [h.1], fun i hi => ?_⟩
  cases i with
  | zero => exact ⟨ao, c, rfl, s⟩
  | succ i =>
    obtain ⟨ao', c', e, s'⟩ := h.2 i (by simpa using hi)
    exact ⟨ao', c', by simpa using e, by simpa using s'⟩
end Go.Proofs.Ytaepfkpfageiaaa
