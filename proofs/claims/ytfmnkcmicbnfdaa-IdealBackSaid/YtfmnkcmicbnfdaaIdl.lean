/- The ideal cipher: what is known of its memory. -/
import Derived.Test.YtfmnkcmicbnfdaaMpk
import Derived.Test.YtfmnkcmicbnfdaaTapC
import Derived.Test.YtfmnkcmicbnfdaaGNew
namespace Go.Proofs.Ytfmnkcmicbnfdaa
open Go Go.RowKit

/-- The pairs of a place: two maps at blocks f and b. -/
structure Ent where
  k : Pla
  f : Nat
  b : Nat
  fl : List (B16 × B16)
  bl : List (B16 × B16)
/-- A key that was told: where it lies. -/
structure Kv where
  k : Ask
  ao : Option Addr
  c : Nat
  key : List UInt8
def evP (x : Nat × Nat) : Value := .agg #[.map (some x.1), .map (some x.2)]
def evK (x : Option Addr × Nat × Nat) : Value := .slice x.1 x.2.1 x.2.2
def entP (l : List Ent) : List (Pla × (Nat × Nat)) := l.map fun e => (e.k, (e.f, e.b))
def kvP (l : List Kv) : List (Ask × (Option Addr × Nat × Nat)) := l.map fun e => (e.k, (e.ao, e.key.length, e.c))
/-- What the cipher may turn. -/
def fpI (p P K : Nat) (wf : List Nat) (l : List Ent) : List Nat := p :: P :: K :: (wf ++ l.flatMap fun e => [e.f, e.b])
/-- A cipher at block p, of a tape at block t, with maps at P and K. -/
structure Ci (w : World) (p t P K : Nat) (wf rb : List Nat) (bs : List UInt8) (at_ : Nat) (l : List Ent) (ks : List Kv) (cnt ag : Nat) : Prop where
  obj : w.heap[p]? = some (.cells #[.pointer (some ⟨t, 0, none⟩), .map (some P), .map (some K), .int .i64 (cnt : Int), .int .i64 (ag : Int)] 102 (0, 0))
  tape : ∃ T, TapeAt w t wf rb (bs.map B) at_ T ∧ T.length ≤ at_
  pm : Mp ekP evP w P (entP l)
  fm : ∀ e ∈ l, Mp ekB ekB w e.f e.fl ∧ Mp ekB ekB w e.b e.bl
  km : Mp ekA evK w K (kvP ks)
  kr : ∀ e ∈ ks, Sl w 1 e.ao e.key.length e.c (e.key.map B) ∧ ∀ g ∈ blk e.ao, g ∉ fpI p P K wf l ∧ g < w.heap.size
  nd : (fpI p P K wf l).Nodup
  rd : ∀ g ∈ rb, g ∉ fpI p P K wf l
theorem Ci.grow {w w' : World} {p t P K : Nat} {wf rb : List Nat} {bs : List UInt8} {at_ : Nat} {l : List Ent} {ks : List Kv} {cnt ag : Nat} (h : Ci w p t P K wf rb bs at_ l ks cnt ag) (g : Grow w w') : Ci w' p t P K wf rb bs at_ l ks cnt ag where
  obj := (Keep.of_grow [] g).obj h.obj (by simp)
  tape := by
    obtain ⟨T, h1, h2⟩ := h.tape
    exact ⟨T, h1.keep (Keep.of_grow [] g) (by simp) (by simp), h2⟩
  pm := h.pm.grow g
  fm := fun e he => ⟨(h.fm e he).1.grow g, (h.fm e he).2.grow g⟩
  km := h.km.grow g
  kr := fun e he => ⟨(h.kr e he).1.grow g, fun x hx => ⟨((h.kr e he).2 x hx).1, Nat.lt_of_lt_of_le ((h.kr e he).2 x hx).2 g.size⟩⟩
  nd := h.nd
  rd := h.rd
theorem Ci.lt {w : World} {p t P K : Nat} {wf rb : List Nat} {bs : List UInt8} {at_ : Nat} {l : List Ent} {ks : List Kv} {cnt ag : Nat} (h : Ci w p t P K wf rb bs at_ l ks cnt ag) : ∀ g ∈ fpI p P K wf l, g < w.heap.size := fun g hg => by
  rcases List.mem_cons.1 hg with rfl | hg
  · exact lt_of_block h.obj
  rcases List.mem_cons.1 hg with rfl | hg
  · exact h.pm.lt
  rcases List.mem_cons.1 hg with rfl | hg
  · exact h.km.lt
  rcases List.mem_append.1 hg with hg | hg
  · obtain ⟨T, h1, -⟩ := h.tape
    exact h1.old.1 g hg
  · obtain ⟨e, he, hx⟩ := List.mem_flatMap.1 hg
    simp only [List.mem_cons, List.not_mem_nil, or_false] at hx
    rcases hx with rfl | rfl
    · exact (h.fm e he).1.lt
    · exact (h.fm e he).2.lt
/-- The entry of a place. -/
theorem look_entP (k : Pla) : ∀ (l : List Ent) {x : Nat × Nat}, look k (entP l) = some x → ∃ e ∈ l, e.k = k ∧ e.f = x.1 ∧ e.b = x.2
  | [], _, h => by cases h
  | e :: l, x, h => by
    rw [show entP (e :: l) = (e.k, (e.f, e.b)) :: entP l from rfl, look_cons] at h
    split at h
    · rename_i hk
      obtain rfl := Option.some.inj h
      exact ⟨e, by simp, hk.symm, rfl, rfl⟩
    · obtain ⟨e', he, h2⟩ := look_entP k l h
      exact ⟨e', by simp [he], h2⟩

set_option maxRecDepth 100000 in
set_option maxHeartbeats 400000 in
theorem newCi (t : Nat) (wf rb : List Nat) (bs : List UInt8) (w : World) (ht : TapeAt w t wf rb (bs.map B) 0 []) (hn : wf.Nodup) (R : Ending → World → Prop)
    (hR : ∀ p P K w', Ci w' p t P K wf rb bs 0 [] [] 0 0 → Grow w w' → w.heap.size ≤ p → w.heap.size ≤ P → w.heap.size ≤ K → R (.returned (.pointer (some ⟨p, 0, none⟩))) w') :
    Calls Try.prog 17 #[.pointer (some ⟨t, 0, none⟩)] w R := by
  have hml : maxLen = 9223372036854775807 := rfl
  have hmm := @run_makeMap Try.prog
  have g1 := Grow.alloc w (.map #[] 0)
  have m1 := Mp.new ekP evP w
  obtain ⟨w1, hw1⟩ : ∃ w1, w1 = w.alloc (.map #[] 0) := ⟨_, rfl⟩
  have z1 : w1.heap.size = w.heap.size + 1 := by rw [hw1]; simp
  rw [← hw1] at g1 m1
  have g2 := Grow.alloc w1 (.map #[] 0)
  have m2 := Mp.new ekA evK w1
  obtain ⟨w2, hw2⟩ : ∃ w2, w2 = w1.alloc (.map #[] 0) := ⟨_, rfl⟩
  have z2 : w2.heap.size = w.heap.size + 2 := by rw [hw2]; simp; omega
  rw [← hw2] at g2 m2
  have g3 := Grow.alloc w2 (.cells #[.pointer (some ⟨t, 0, none⟩), .map (some w.heap.size), .map (some w1.heap.size), .int .i64 0, .int .i64 0] 102)
  have ho := heap_alloc_new w2 (.cells #[.pointer (some ⟨t, 0, none⟩), .map (some w.heap.size), .map (some w1.heap.size), .int .i64 0, .int .i64 0] 102)
  obtain ⟨w3, hw3⟩ : ∃ w3, w3 = w2.alloc (.cells #[.pointer (some ⟨t, 0, none⟩), .map (some w.heap.size), .map (some w1.heap.size), .int .i64 0, .int .i64 0] 102) := ⟨_, rfl⟩
  rw [← hw3] at g3 ho
  have hold := ht.old
  have G := (g1.trans g2).trans g3
  have hC : Ci w3 w2.heap.size t w.heap.size w1.heap.size wf rb bs 0 [] [] 0 0 := {
    obj := ho
    tape := ⟨[], ht.keep (Keep.of_grow [] G) (by simp) (by simp), by simp⟩
    pm := (m1.grow g2).grow g3
    fm := by simp
    km := m2.grow g3
    kr := by simp
    nd := by
      simp only [fpI, List.flatMap_nil, List.append_nil, List.nodup_cons, List.mem_cons, not_or]
      refine ⟨⟨by omega, by omega, fun hm => ?_⟩, ⟨by omega, fun hm => ?_⟩, fun hm => ?_, hn⟩
      · have := hold.1 _ hm; omega
      · have := hold.1 _ hm; omega
      · have := hold.1 _ hm; omega
    rd := fun g hg hm => by
      have h1 := hold.2.1 g hg
      simp only [fpI, List.flatMap_nil, List.append_nil, List.mem_cons] at hm
      rcases hm with h | h | h | h
      · omega
      · omega
      · omega
      · exact hold.2.2 g hg h }
  have hf := hR _ _ _ _ hC G (by omega) (Nat.le_refl _) (by omega)
  rw [hw3, hw2, hw1] at hf
  clear hC G ho hold m1 m2 hw1 hw2 hw3 z1 z2 g1 g2 g3 hR
  go_enter Try.func17, Try.ntmps17
  go_wp2_with fail
  simpa using hf
end Go.Proofs.Ytfmnkcmicbnfdaa
