/- A new variable that is a whole array. -/
import Derived.Test.YtaepfkpfageiaaaShaA0
namespace Go.Proofs.Ytaepfkpfageiaaa
open Go Go.RowKit

theorem own_new {t : TypeId} {n : Nat} (w : World) (z : Value) (hz : z.oneCell' = true) (hm : n ≤ maxLen) : Own (w.alloc (.cells (List.replicate n z).toArray t)) t 1 (some ⟨w.heap.size, 0, none⟩) n n (List.replicate n z) :=
  Own.made (n := n) (sz := 1) (heap_alloc_new w (.cells (List.replicate n z).toArray t)) (by simp) hm (by intro u hu; have hu' : u ∈ List.replicate n z := hu; rw [List.eq_of_mem_replicate hu']; exact hz)
theorem newvar {t : TypeId} {n : Nat} {F : List Value} (w : World) (z : Value) (hz : z.oneCell' = true) (hm : n ≤ maxLen) (hF : F.length = n) (h1 : ∀ v ∈ F, v.oneCell' = true) :
    Own ((w.alloc (.cells (List.replicate n z).toArray t)).setCells w.heap.size 0 F) t 1 (some ⟨w.heap.size, 0, none⟩) n n F ∧ Grow w ((w.alloc (.cells (List.replicate n z).toArray t)).setCells w.heap.size 0 F) ∧ (w.alloc (.cells (List.replicate n z).toArray t)).there w.heap.size 0 F.toArray.size ∧ F.toArray.all (·.oneCell') = true := by
  have o := own_new (t := t) w z hz hm
  exact ⟨own_whole o hF h1, (Grow.alloc w _).then (Keep.setCells _ F 0 _) (fun x hx => by simp at hx; omega), own_there o _ (by simpa using hF), one_all h1⟩
/-- .. the array read back. -/
theorem own_range {w : World} {e : TypeId} {g n : Nat} {F : List Value} (o : Own w e 1 (some ⟨g, 0, none⟩) n n F) (h : 0 < n) : w.rangeAt g 0 F := fun j v hj => by
  obtain ⟨g', off', eg, hcs⟩ := o.sl.hat h
  cases eg
  exact hcs.at hj
/-- A row that is known whole is read. -/
theorem sl_obj {w : World} {g : Nat} {C : List Value} {e : TypeId} {fr : Nat × Nat} (h : w.heap[g]? = some (.cells C.toArray e fr)) (n : Nat) (hn : C.length = n) (hm : n ≤ maxLen) (h1 : ∀ v ∈ C, v.oneCell' = true) : Sl w 1 (some ⟨g, 0, none⟩) n n C :=
  ⟨Nat.le_refl _, hm, by omega, h1, by simp, fun _ => ⟨g, 0, rfl, fun i hi => by rw [Nat.zero_add]; exact obj_cell h i (by simp [List.getElem?_eq_getElem hi])⟩⟩
theorem alloc_new (w : World) (o : Obj) : (w.alloc o).heap[w.heap.size]? = some o := heap_alloc_new w o
theorem alloc_old (w : World) (o p : Obj) {g : Nat} (h : w.heap[g]? = some p) : (w.alloc o).heap[g]? = some p := (Grow.alloc w o).block h
/-- One part, of one text. -/
theorem one_part {w : World} {ao : Option Addr} {c : Nat} {l : List UInt8} (h : Sl w 1 ao l.length c (l.map B)) : Pt w [.slice ao l.length c] [l] :=
  ⟨rfl, fun i hi => by
    obtain rfl : i = 0 := by simpa using hi
    exact ⟨ao, c, rfl, h⟩⟩
end Go.Proofs.Ytaepfkpfageiaaa
