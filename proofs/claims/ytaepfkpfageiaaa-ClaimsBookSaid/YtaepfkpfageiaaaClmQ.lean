/- Two tags reckoned: unlike texts; what lists of two claims tell. -/
import Derived.Test.YtaepfkpfageiaaaMacQ
import Derived.Test.YtaepfkpfageiaaaClm
namespace Go.Proofs.Ytaepfkpfageiaaa
open Go Go.RowKit
theorem ne12 : (shortS (macS [107] (framS [[98]])) == shortS (macS [107] (framS [[97]]))) = false := by
  unfold macS inK outK keyN; simp only [sumS_lit]; decide +kernel
theorem forged_ms (k t : List UInt8) : forgedS [clmS k t true, clmS k t false] = false := by simp [forgedS, forgedN, forgeS, madeS, clmS]
theorem clash_ms (k t : List UInt8) : clashS [clmS k t true, clmS k t false] = false := by simp [clashS, clashN, clashS1, likeS, clmS]
theorem forged_s (k t : List UInt8) : forgedS [clmS k t false] = true := by simp [forgedS, forgedN, forgeS, rightS_clm]; simp [clmS]
theorem lit1 (w : World) (l : List UInt8) (n : Nat) (hn : l.length = n) (hn' : n ≤ 100000) (fa : Nat × Nat) :
    Sl (w.alloc (.cells (l.map B).toArray 5 fa)) 1 (some ⟨w.heap.size, 0, none⟩) n n (l.map B) ∧ Grow w (w.alloc (.cells (l.map B).toArray 5 fa)) :=
  ⟨sl_obj (C := l.map B) (alloc_new w _) n (by simpa using hn) (by unfold maxLen; omega) (B_one _), Grow.alloc w _⟩
theorem part1 (w : World) (l : List UInt8) (n : Nat) (hn : l.length = n) (hn' : n ≤ 100000) (fa fe : Nat × Nat) :
    Sl ((w.alloc (.cells (l.map B).toArray 5 fa)).alloc (.cells #[.slice (some ⟨w.heap.size, 0, none⟩) n n] 22 fe)) 1 (some ⟨w.heap.size + 1, 0, none⟩) 1 1 [.slice (some ⟨w.heap.size, 0, none⟩) n n] ∧
    Pt ((w.alloc (.cells (l.map B).toArray 5 fa)).alloc (.cells #[.slice (some ⟨w.heap.size, 0, none⟩) n n] 22 fe)) [.slice (some ⟨w.heap.size, 0, none⟩) n n] [l] ∧
    Grow w ((w.alloc (.cells (l.map B).toArray 5 fa)).alloc (.cells #[.slice (some ⟨w.heap.size, 0, none⟩) n n] 22 fe)) := by
  obtain ⟨s, g⟩ := lit1 w l n hn hn' fa
  have h := alloc_new (w.alloc (.cells (l.map B).toArray 5 fa)) (.cells #[.slice (some ⟨w.heap.size, 0, none⟩) n n] 22 fe)
  rw [sz_al] at h
  have ge := Grow.alloc (w.alloc (.cells (l.map B).toArray 5 fa)) (.cells #[.slice (some ⟨w.heap.size, 0, none⟩) n n] 22 fe)
  refine ⟨sl_obj (C := [.slice (some ⟨w.heap.size, 0, none⟩) n n]) h 1 rfl (by decide) (by simp [Value.oneCell']), ?_, g.trans ge⟩
  subst hn
  exact one_part (s.grow ge)
/-- A book's step, seen from where it was made. -/
theorem bk_step {w wi wo : World} {p : Nat} {ao ao' : Option Addr} (G : Grow w wi) (F : Fr (p :: blk ao) w) (k : Keep (p :: blk ao) wi wo) (b : ∀ g ∈ blk ao', g ∈ blk ao ∨ wi.heap.size ≤ g) : Grow w wo ∧ Fr (p :: blk ao') w :=
  ⟨G.then k F, fun g hg => by
    rcases List.mem_cons.1 hg with rfl | hg
    · exact F _ (by simp)
    · rcases b g hg with h | h
      · exact F g (by simp [h])
      · exact Nat.le_trans G.size h⟩
theorem bk_out {wi : World} {p q : Nat} {ao ao' : Option Addr} (hq : q < wi.heap.size) (D : q ∉ p :: blk ao) (b : ∀ g ∈ blk ao', g ∈ blk ao ∨ wi.heap.size ≤ g) : q ∉ p :: blk ao' := fun hm => by
  rcases List.mem_cons.1 hm with rfl | hm
  · exact D (by simp)
  · rcases b q hm with h | h
    · exact D (by simp [h])
    · omega
end Go.Proofs.Ytaepfkpfageiaaa
