/- The ideal cipher: from all its memory to what 'other' needs, and back. -/
import Derived.Test.YtfmnkcmicbnfdaaIdlF
namespace Go.Proofs.Ytfmnkcmicbnfdaa
open Go Go.RowKit

section
variable {w w' : World} {p t P K : Nat} {wf wf' rb : List Nat} {bs : List UInt8} {at_ a' : Nat} {l l1 l2 : List Ent} {e : Ent} {ks : List Kv} {cnt ag cnt' ag' : Nat}
theorem Oth.swap {F G : Nat} {fl gl : List (B16 × B16)} (h : Oth w p t P K F G wf rb bs at_ fl gl cnt ag) : Oth w p t P K G F wf rb bs at_ gl fl cnt ag := by
  obtain ⟨n1, n2, n3, n4, n5, n6⟩ := h.ne
  obtain ⟨T, h1, h2⟩ := h.tape
  refine ⟨h.obj, ⟨T, h1, h2⟩, h.mg, h.mf, ?_, fun g hg hm => ?_⟩
  · simp only [List.nodup_cons, List.mem_cons, not_or]
    exact ⟨⟨n2, n1, n4⟩, ⟨fun e => n3 e.symm, n6⟩, n5, tape_nodup h1⟩
  · have := h.rd g hg
    simp only [List.mem_cons, not_or] at this hm
    rcases hm with h | h | h | h
    · exact this.1 h
    · exact this.2.2.1 h
    · exact this.2.1 h
    · exact this.2.2.2 h
/-- All of them are apart. -/
theorem Ci.apart (h : Ci w p t P K wf rb bs at_ (l1 ++ e :: l2) ks cnt ag) :
    (p ≠ P ∧ p ≠ K ∧ P ≠ K) ∧ (p ∉ wf ∧ P ∉ wf ∧ K ∉ wf) ∧ (p ≠ e.f ∧ p ≠ e.b ∧ P ≠ e.f ∧ P ≠ e.b ∧ K ≠ e.f ∧ K ≠ e.b) ∧ (e.f ≠ e.b ∧ e.f ∉ wf ∧ e.b ∉ wf) ∧
    (∀ x ∈ l1 ++ l2, ∀ g, g = x.f ∨ g = x.b → g ≠ p ∧ g ≠ P ∧ g ≠ K ∧ g ∉ wf ∧ g ≠ e.f ∧ g ≠ e.b) := by
  have hn := h.nd
  have hin : ∀ x ∈ l1 ++ l2, ∀ g, g = x.f ∨ g = x.b → g ∈ (l1.flatMap fun e => [e.f, e.b]) ∨ g ∈ (l2.flatMap fun e => [e.f, e.b]) := fun x hx g hg => by
    rcases List.mem_append.1 hx with hx | hx
    · exact .inl (List.mem_flatMap.2 ⟨x, hx, by simpa using hg⟩)
    · exact .inr (List.mem_flatMap.2 ⟨x, hx, by simpa using hg⟩)
  simp only [fpI, List.flatMap_append, List.flatMap_cons, List.nodup_cons, List.mem_cons, List.mem_append, not_or, List.nodup_append, List.not_mem_nil, or_false, not_false_eq_true] at hn
  generalize (l1.flatMap fun e => [e.f, e.b]) = r1 at *
  generalize (l2.flatMap fun e => [e.f, e.b]) = r2 at *
  obtain ⟨⟨pP, pK, pw, p1, ⟨pf, pb⟩, p2⟩, ⟨PK, Pw, P1, ⟨Pf, Pb⟩, P2⟩, ⟨Kw, K1, ⟨Kf, Kb⟩, K2⟩, hw, ⟨hr1, ⟨hfb, hr2, hc⟩, hd⟩, hwd⟩ := hn
  refine ⟨⟨pP, pK, PK⟩, ⟨pw, Pw, Kw⟩, ⟨pf, pb, Pf, Pb, Kf, Kb⟩, ⟨?_, fun hm => hwd _ hm _ (.inr (.inl (.inl rfl))) rfl, fun hm => hwd _ hm _ (.inr (.inl (.inr rfl))) rfl⟩, fun x hx g hg => ?_⟩
  · simpa using hfb
  · rcases hin x hx g hg with hm | hm
    · refine ⟨fun e => p1 (e ▸ hm), fun e => P1 (e ▸ hm), fun e => K1 (e ▸ hm), fun hw' => hwd _ hw' _ (.inl hm) rfl, fun e => hd _ hm _ (.inl (.inl rfl)) e, fun e => hd _ hm _ (.inl (.inr rfl)) e⟩
    · refine ⟨fun e => p2 (e ▸ hm), fun e => P2 (e ▸ hm), fun e => K2 (e ▸ hm), fun hw' => hwd _ hw' _ (.inr (.inr hm)) rfl, fun e => hc _ (.inl rfl) _ hm e.symm, fun e => hc _ (.inr rfl) _ hm e.symm⟩
theorem Ci.oth (h : Ci w p t P K wf rb bs at_ (l1 ++ e :: l2) ks cnt ag) : Oth w p t P K e.f e.b wf rb bs at_ e.fl e.bl cnt ag := by
  obtain ⟨⟨a1, a2, a3⟩, ⟨b1, b2, b3⟩, ⟨c1, c2, c3, c4, c5, c6⟩, ⟨d1, d2, d3⟩, -⟩ := h.apart
  have hm := h.fm e (by simp)
  obtain ⟨T, h1, h2⟩ := h.tape
  refine ⟨h.obj, ⟨T, h1, h2⟩, hm.1, hm.2, ?_, fun g hg hx => ?_⟩
  · simp only [List.nodup_cons, List.mem_cons, not_or]
    exact ⟨⟨c1, c2, b1⟩, ⟨d1, d2⟩, d3, tape_nodup h1⟩
  · have := h.rd g hg
    simp only [fpI, List.mem_cons, List.mem_append, List.flatMap_append, List.flatMap_cons, not_or] at this
    simp only [List.mem_cons] at hx
    rcases hx with hx | hx | hx | hx
    · exact this.1 hx
    · exact this.2.2.2.2.2.1.1 hx
    · exact this.2.2.2.2.2.1.2.1 hx
    · exact this.2.2.2.1 hx
theorem Ci.back {fl' bl' : List (B16 × B16)} (h : Ci w p t P K wf rb bs at_ (l1 ++ e :: l2) ks cnt ag) (o : Oth w' p t P K e.f e.b wf' rb bs a' fl' bl' cnt' ag') (k : Keep (p :: e.f :: e.b :: wf) w w') (hi : Inn wf' wf w) :
    Ci w' p t P K wf' rb bs a' (l1 ++ ⟨e.k, e.f, e.b, fl', bl'⟩ :: l2) ks cnt' ag' := by
  obtain ⟨⟨a1, a2, a3⟩, ⟨b1, b2, b3⟩, ⟨c1, c2, c3, c4, c5, c6⟩, ⟨d1, d2, d3⟩, hx⟩ := h.apart
  obtain ⟨n1, n2, n3, n4, n5, n6⟩ := o.ne
  have hlt := h.lt
  have hnd := h.nd
  have hent : entP (l1 ++ ⟨e.k, e.f, e.b, fl', bl'⟩ :: l2) = entP (l1 ++ e :: l2) := by simp [entP]
  have hfl : (l1 ++ ⟨e.k, e.f, e.b, fl', bl'⟩ :: l2).flatMap (fun e => [e.f, e.b]) = (l1 ++ e :: l2).flatMap (fun e => [e.f, e.b]) := by simp
  have out : ∀ x, x < w.heap.size → x ∉ wf → x ∉ wf' := fun x hx hn hm => by
    rcases hi x hm with h1 | h1
    · exact hn h1
    · omega
  have hfp : ∀ x, x < w.heap.size → x ∉ fpI p P K wf (l1 ++ e :: l2) → x ∉ fpI p P K wf' (l1 ++ ⟨e.k, e.f, e.b, fl', bl'⟩ :: l2) := fun x hlx hn hm => by
    simp only [fpI, hfl, List.mem_cons, List.mem_append, not_or] at hn hm
    rcases hm with hm | hm | hm | hm | hm
    · exact hn.1 hm
    · exact hn.2.1 hm
    · exact hn.2.2.1 hm
    · exact out x hlx hn.2.2.2.1 hm
    · exact hn.2.2.2.2 hm
  have sub : ∀ x, x ∈ p :: e.f :: e.b :: wf → x ∈ fpI p P K wf (l1 ++ e :: l2) := fun x hx => by
    simp only [fpI, List.mem_cons, List.mem_append, List.flatMap_append, List.flatMap_cons, List.not_mem_nil, or_false] at hx ⊢
    rcases hx with hx | hx | hx | hx
    · exact .inl hx
    · exact .inr (.inr (.inr (.inr (.inr (.inl (.inl hx))))))
    · exact .inr (.inr (.inr (.inr (.inr (.inl (.inr hx))))))
    · exact .inr (.inr (.inr (.inl hx)))
  refine ⟨o.obj, o.tape, ?_, fun x hx' => ?_, ?_, fun x hx' => ⟨?_, fun g hg => ?_⟩, ?_, fun g hg => ?_⟩
  · rw [hent]
    exact h.pm.keep k (by simp only [List.mem_cons, not_or]; exact ⟨a1.symm, c3, c4, b2⟩)
  · rcases List.mem_append.1 hx' with hx' | hx'
    · have hxx : x ∈ l1 ++ l2 := by simp [hx']
      have h1 := hx x hxx x.f (.inl rfl)
      have h2 := hx x hxx x.b (.inr rfl)
      exact ⟨(h.fm x (by simp [hx'])).1.keep k (by simp only [List.mem_cons, not_or]; exact ⟨h1.1, h1.2.2.2.2.1, h1.2.2.2.2.2, h1.2.2.2.1⟩), (h.fm x (by simp [hx'])).2.keep k (by simp only [List.mem_cons, not_or]; exact ⟨h2.1, h2.2.2.2.2.1, h2.2.2.2.2.2, h2.2.2.2.1⟩)⟩
    · rcases List.mem_cons.1 hx' with rfl | hx'
      · exact ⟨o.mf, o.mg⟩
      · have hxx : x ∈ l1 ++ l2 := by simp [hx']
        have h1 := hx x hxx x.f (.inl rfl)
        have h2 := hx x hxx x.b (.inr rfl)
        exact ⟨(h.fm x (by simp [hx'])).1.keep k (by simp only [List.mem_cons, not_or]; exact ⟨h1.1, h1.2.2.2.2.1, h1.2.2.2.2.2, h1.2.2.2.1⟩), (h.fm x (by simp [hx'])).2.keep k (by simp only [List.mem_cons, not_or]; exact ⟨h2.1, h2.2.2.2.2.1, h2.2.2.2.2.2, h2.2.2.2.1⟩)⟩
  · exact h.km.keep k (by simp only [List.mem_cons, not_or]; exact ⟨a2.symm, c5, c6, b3⟩)
  · exact (h.kr x hx').1.keep k (fun g hg hm => ((h.kr x hx').2 g hg).1 (sub g hm))
  · have h1 := (h.kr x hx').2 g hg
    exact ⟨hfp g h1.2 h1.1, Nat.lt_of_lt_of_le h1.2 k.size⟩
  · obtain ⟨T, ht, -⟩ := o.tape
    have hw' := tape_nodup ht
    unfold fpI at hnd ⊢
    rw [hfl]
    simp only [List.nodup_cons, List.mem_cons, List.mem_append, not_or, List.nodup_append] at hnd ⊢
    obtain ⟨⟨q1, q2, q3, q4⟩, ⟨q5, q6, q7⟩, ⟨q8, q9⟩, q10, q11, q12⟩ := hnd
    refine ⟨⟨q1, q2, n4, q4⟩, ⟨q5, out P (hlt P (by simp [fpI])) q6, q7⟩, ⟨out K (hlt K (by simp [fpI])) q8, q9⟩, hw', q11, fun x hxw y hy e => ?_⟩
    subst e
    rcases hi x hxw with h1 | h1
    · exact q12 x h1 x hy rfl
    · have := hlt x (by simp only [fpI, List.mem_cons, List.mem_append]; exact .inr (.inr (.inr (.inr hy))))
      omega
  · obtain ⟨T, ht, -⟩ := h.tape
    exact hfp g (ht.old.2.1 g hg) (h.rd g hg)
theorem entP_split {x : Pla} {f b : Nat} {l : List Ent} (h : look x (entP l) = some (f, b)) : ∃ l1 e l2, l = l1 ++ e :: l2 ∧ e.k = x ∧ e.f = f ∧ e.b = b ∧ look x (entP l1) = none := by
  induction l with
  | nil => cases h
  | cons e l ih =>
    rw [show entP (e :: l) = (e.k, (e.f, e.b)) :: entP l from rfl, look_cons] at h
    split at h
    · rename_i hk
      cases h
      exact ⟨[], e, l, rfl, hk.symm, rfl, rfl, rfl⟩
    · rename_i hk
      obtain ⟨l1, e', l2, rfl, h1, h2, h3, h4⟩ := ih h
      refine ⟨e :: l1, e', l2, rfl, h1, h2, h3, ?_⟩
      rw [show entP (e :: l1) = (e.k, (e.f, e.b)) :: entP l1 from rfl, look_cons, if_neg hk]
      exact h4
end
end Go.Proofs.Ytfmnkcmicbnfdaa
