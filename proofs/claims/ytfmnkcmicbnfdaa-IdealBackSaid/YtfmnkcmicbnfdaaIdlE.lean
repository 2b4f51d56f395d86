/- The ideal cipher: other. -/
import Derived.Test.YtfmnkcmicbnfdaaIdlD
namespace Go.Proofs.Ytfmnkcmicbnfdaa
open Go Go.RowKit

/-- A block of bytes, filled with 0 if they are too few. -/
def b16 (l : List UInt8) : B16 := ⟨blockS l, blockS_len l⟩
def b16z : B16 := ⟨List.replicate 16 0, rfl⟩
/-- Blocks are drawn until one is of use: which, where the tape is then, how many were of no use. -/
def drawN (bs : List UInt8) (gl : List (B16 × B16)) : Nat → Nat → Nat → Option B16 × Nat × Nat
  | 0, a, ag => (none, a, ag)
  | n + 1, a, ag => if bs.length < a + 16 then (none, a, ag) else if (look (b16 ((bs.drop a).take 16)) gl).isSome then drawN bs gl n (a + 16) (ag + 1) else (some (b16 ((bs.drop a).take 16)), a + 16, ag)

/-- What 'other' needs of a cipher. -/
structure Oth (w : World) (p t P K F G : Nat) (wf rb : List Nat) (bs : List UInt8) (at_ : Nat) (fl gl : List (B16 × B16)) (cnt ag : Nat) : Prop where
  obj : w.heap[p]? = some (.cells #[.pointer (some ⟨t, 0, none⟩), .map (some P), .map (some K), .int .i64 (cnt : Int), .int .i64 (ag : Int)] 102 (0, 0))
  tape : ∃ T, TapeAt w t wf rb (bs.map B) at_ T ∧ T.length ≤ at_
  mf : Mp ekB ekB w F fl
  mg : Mp ekB ekB w G gl
  nd : (p :: F :: G :: wf).Nodup
  rd : ∀ g ∈ rb, g ∉ p :: F :: G :: wf
section
variable {w : World} {p t P K F G : Nat} {wf rb : List Nat} {bs : List UInt8} {at_ : Nat} {fl gl : List (B16 × B16)} {cnt ag : Nat}
theorem Oth.lt (h : Oth w p t P K F G wf rb bs at_ fl gl cnt ag) : ∀ g ∈ p :: F :: G :: wf, g < w.heap.size := fun g hg => by
  rcases List.mem_cons.1 hg with rfl | hg
  · exact lt_of_block h.obj
  rcases List.mem_cons.1 hg with rfl | hg
  · exact h.mf.lt
  rcases List.mem_cons.1 hg with rfl | hg
  · exact h.mg.lt
  · obtain ⟨T, h1, -⟩ := h.tape
    exact h1.old.1 g hg
theorem Oth.ne (h : Oth w p t P K F G wf rb bs at_ fl gl cnt ag) : p ≠ F ∧ p ≠ G ∧ F ≠ G ∧ p ∉ wf ∧ F ∉ wf ∧ G ∉ wf := by
  have := h.nd
  simp only [List.nodup_cons, List.mem_cons, not_or] at this
  exact ⟨this.1.1, this.1.2.1, this.2.1.1, this.1.2.2, this.2.1.2, this.2.2.1⟩
theorem Oth.keep (h : Oth w p t P K F G wf rb bs at_ fl gl cnt ag) {fp : List Nat} {w' : World} (k : Keep fp w w') (hf : ∀ x ∈ fp, x ∉ p :: F :: G :: wf ∧ x ∉ rb) : Oth w' p t P K F G wf rb bs at_ fl gl cnt ag := by
  have hm : ∀ g ∈ p :: F :: G :: wf, g ∉ fp := fun g hg hx => (hf g hx).1 hg
  obtain ⟨T, h1, h2⟩ := h.tape
  exact ⟨k.obj h.obj (hm p (by simp)), ⟨T, h1.keep k (fun g hg => hm g (by simp [hg])) (fun g hg hx => (hf g hx).2 hg), h2⟩, h.mf.keep k (hm F (by simp)), h.mg.keep k (hm G (by simp)), h.nd, h.rd⟩
theorem Oth.grow (h : Oth w p t P K F G wf rb bs at_ fl gl cnt ag) {w' : World} (g : Grow w w') : Oth w' p t P K F G wf rb bs at_ fl gl cnt ag := h.keep (Keep.of_grow [] g) (by simp)
/-- A variable that came later. -/
theorem Oth.out (h : Oth w p t P K F G wf rb bs at_ fl gl cnt ag) {x : Nat} (hx : w.heap.size ≤ x) : x ∉ p :: F :: G :: wf ∧ x ∉ rb := by
  refine ⟨fun hm => by have := h.lt x hm; omega, fun hm => ?_⟩
  obtain ⟨T, h1, -⟩ := h.tape
  have := h1.old.2.1 x hm
  omega
theorem tape_nodup {T : List (ByteArray × Int × Int)} {xs : List Value} (h : TapeAt w t wf rb xs at_ T) : wf.Nodup := by
  obtain ⟨bo, bc, tko, tc, ho, hs, ha, hw, rfl, rfl, hp, hd⟩ := h
  refine List.nodup_cons.2 ⟨hp, ?_⟩
  cases tko <;> simp [blk]
theorem Oth.took (h : Oth w p t P K F G wf rb bs at_ fl gl cnt ag) {w' : World} {wf' : List Nat} {at' : Nat} {T : List (ByteArray × Int × Int)} (ht : TapeAt w' t wf' rb (bs.map B) at' T) (hT : T.length ≤ at') (k : Keep wf w w') (hi : Inn wf' wf w) : Oth w' p t P K F G wf' rb bs at' fl gl cnt ag := by
  obtain ⟨n1, n2, n3, n4, n5, n6⟩ := h.ne
  have hl := h.lt
  have out : ∀ x, x < w.heap.size → x ∉ wf → x ∉ wf' := fun x hx hn hm => by
    rcases hi x hm with h1 | h1
    · exact hn h1
    · omega
  refine ⟨k.obj h.obj n4, ⟨T, ht, hT⟩, h.mf.keep k n5, h.mg.keep k n6, ?_, fun g hg hm => ?_⟩
  · simp only [List.nodup_cons, List.mem_cons, not_or]
    exact ⟨⟨n1, n2, out p (hl p (by simp)) n4⟩, ⟨n3, out F (hl F (by simp)) n5⟩, out G (hl G (by simp)) n6, tape_nodup ht⟩
  · have h1 := h.rd g hg
    simp only [List.mem_cons, not_or] at h1 hm
    rcases hm with h2 | h2 | h2 | h2
    · exact h1.1 h2
    · exact h1.2.1 h2
    · exact h1.2.2.1 h2
    · exact ht.old.2.2 g hg h2
theorem Oth.counted (h : Oth w p t P K F G wf rb bs at_ fl gl cnt ag) {w' : World} {cnt' ag' : Nat} (ho : w'.heap[p]? = some (.cells #[.pointer (some ⟨t, 0, none⟩), .map (some P), .map (some K), .int .i64 (cnt' : Int), .int .i64 (ag' : Int)] 102 (0, 0))) (k : Keep [p] w w') : Oth w' p t P K F G wf rb bs at_ fl gl cnt' ag' := by
  obtain ⟨n1, n2, n3, n4, n5, n6⟩ := h.ne
  obtain ⟨T, h1, h2⟩ := h.tape
  refine ⟨ho, ⟨T, h1.keep k (fun g hg hm => ?_) (fun g hg hm => ?_), h2⟩, h.mf.keep k (by simpa using n1.symm), h.mg.keep k (by simpa using n2.symm), h.nd, h.rd⟩
  · simp at hm; subst hm; exact n4 hg
  · simp at hm; subst hm; exact h.rd g hg (by simp)
theorem Oth.mapped (h : Oth w p t P K F G wf rb bs at_ fl gl cnt ag) {w' : World} {fl' gl' : List (B16 × B16)} (mf : Mp ekB ekB w' F fl') (mg : Mp ekB ekB w' G gl') (k : Keep [F, G] w w') : Oth w' p t P K F G wf rb bs at_ fl' gl' cnt ag := by
  obtain ⟨n1, n2, n3, n4, n5, n6⟩ := h.ne
  obtain ⟨T, h1, h2⟩ := h.tape
  refine ⟨k.obj h.obj (by simp [n1, n2]), ⟨T, h1.keep k (fun g hg hm => ?_) (fun g hg hm => ?_), h2⟩, mf, mg, h.nd, h.rd⟩
  · simp at hm
    rcases hm with rfl | rfl
    · exact n5 hg
    · exact n6 hg
  · simp at hm
    rcases hm with rfl | rfl
    · exact h.rd _ hg (by simp)
    · exact h.rd _ hg (by simp)
end
end Go.Proofs.Ytfmnkcmicbnfdaa
