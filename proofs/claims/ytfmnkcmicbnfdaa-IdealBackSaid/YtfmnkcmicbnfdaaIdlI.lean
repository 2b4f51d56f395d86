/- The ideal cipher: what Encrypt and Decrypt do. -/
import Derived.Test.YtfmnkcmicbnfdaaIdlH
namespace Go.Proofs.Ytfmnkcmicbnfdaa
open Go Go.RowKit

theorem putM_over {α β : Type} [DecidableEq α] (x : α) (u v : β) : ∀ l : List (α × β), putM x u (putM x v l) = putM x u l
  | [] => by simp [putM]
  | p :: l => by
    rw [putM]
    split
    · rename_i h
      rw [putM, if_pos rfl, putM, if_pos h]
    · rename_i h
      rw [putM, if_neg h, putM_over x u v l, putM, if_neg h]
/-- What is known of a cipher: where its tape is, its pairs, how many, how many takes were of no use. -/
structure IdS where
  a : Nat
  S : List (Pla × (Prs × Prs))
  cnt : Nat
  ag : Nat
def prsS (s : IdS) (x : Pla) : Prs × Prs := (look x s.S).getD ([], [])
def encS (bs : List UInt8) (s : IdS) (x : Pla) (b : B16) : (B16 × Int) × IdS :=
  match look b (prsS s x).1 with
  | some y => ((y, 0), ⟨s.a, putM x (prsS s x) s.S, s.cnt, s.ag⟩)
  | none => match drawN bs (prsS s x).2 (bs.length + 1) s.a s.ag with
    | (none, a', g') => ((b16z, 9), ⟨a', putM x (prsS s x) s.S, s.cnt, g'⟩)
    | (some y, a', g') => ((y, 0), ⟨a', putM x (putM b y (prsS s x).1, putM y b (prsS s x).2) s.S, s.cnt + 1, g'⟩)
def decS (bs : List UInt8) (s : IdS) (x : Pla) (b : B16) : (B16 × Int) × IdS :=
  match look b (prsS s x).2 with
  | some y => ((y, 0), ⟨s.a, putM x (prsS s x) s.S, s.cnt, s.ag⟩)
  | none => match drawN bs (prsS s x).1 (bs.length + 1) s.a s.ag with
    | (none, a', g') => ((b16z, 9), ⟨a', putM x (prsS s x) s.S, s.cnt, g'⟩)
    | (some y, a', g') => ((y, 0), ⟨a', putM x (putM y b (prsS s x).1, putM b y (prsS s x).2) s.S, s.cnt + 1, g'⟩)
/-- A cipher at block p; rb: the blocks of its tape's bytes. -/
def CiR (w : World) (p t : Nat) (fp rb : List Nat) (bs : List UInt8) (s : IdS) (ks : List Kv) : Prop :=
  ∃ P K wf l, Ci w p t P K wf rb bs s.a l ks s.cnt s.ag ∧ absI l = s.S ∧ fp = fpI p P K wf l
theorem CiR.grow {w w' : World} {p t : Nat} {fp rb : List Nat} {bs : List UInt8} {s : IdS} {ks : List Kv} (h : CiR w p t fp rb bs s ks) (g : Grow w w') : CiR w' p t fp rb bs s ks := by
  obtain ⟨P, K, wf, l, h1, h2, h3⟩ := h
  exact ⟨P, K, wf, l, h1.grow g, h2, h3⟩
theorem CiR.lt {w : World} {p t : Nat} {fp rb : List Nat} {bs : List UInt8} {s : IdS} {ks : List Kv} (h : CiR w p t fp rb bs s ks) : ∀ g ∈ fp, g < w.heap.size := by
  obtain ⟨P, K, wf, l, h1, h2, rfl⟩ := h
  exact h1.lt
theorem CiR.keep {w w' : World} {p t : Nat} {fp rb : List Nat} {bs : List UInt8} {s : IdS} {ks : List Kv} (h : CiR w p t fp rb bs s ks) {F : List Nat} (k : Keep F w w') (hf : ∀ g ∈ fp, g ∉ F) (hr : ∀ g ∈ rb, g ∉ F) (hk : ∀ e ∈ ks, ∀ g ∈ blk e.ao, g ∉ F) : CiR w' p t fp rb bs s ks := by
  obtain ⟨P, K, wf, l, h1, h2, rfl⟩ := h
  refine ⟨P, K, wf, l, ⟨k.obj h1.obj (hf p (by simp [fpI])), ?_, h1.pm.keep k (hf P (by simp [fpI])), fun e he => ⟨(h1.fm e he).1.keep k (hf _ ?_), (h1.fm e he).2.keep k (hf _ ?_)⟩, h1.km.keep k (hf K (by simp [fpI])), fun e he => ⟨(h1.kr e he).1.keep k (hk e he), fun g hg => ⟨((h1.kr e he).2 g hg).1, Nat.lt_of_lt_of_le ((h1.kr e he).2 g hg).2 k.size⟩⟩, h1.nd, h1.rd⟩, h2, rfl⟩
  · obtain ⟨T, ht, hT⟩ := h1.tape
    exact ⟨T, ht.keep k (fun g hg => hf g (by simp [fpI, hg])) hr, hT⟩
  · simp only [fpI, List.mem_cons, List.mem_append, List.mem_flatMap]
    exact .inr (.inr (.inr (.inr ⟨e, he, by simp⟩)))
  · simp only [fpI, List.mem_cons, List.mem_append, List.mem_flatMap]
    exact .inr (.inr (.inr (.inr ⟨e, he, by simp⟩)))
/-- A cipher at block p. -/
def CiS (w : World) (p t : Nat) (fp : List Nat) (bs : List UInt8) (s : IdS) (ks : List Kv) : Prop :=
  ∃ P K wf rb l, Ci w p t P K wf rb bs s.a l ks s.cnt s.ag ∧ absI l = s.S ∧ fp = fpI p P K wf l
theorem CiS.ro {w : World} {p t : Nat} {fp : List Nat} {bs : List UInt8} {s : IdS} {ks : List Kv} (h : CiS w p t fp bs s ks) : ∃ rb, CiR w p t fp rb bs s ks := by
  obtain ⟨P, K, wf, rb, l, h1, h2, h3⟩ := h
  exact ⟨rb, P, K, wf, l, h1, h2, h3⟩
theorem CiR.so {w : World} {p t : Nat} {fp rb : List Nat} {bs : List UInt8} {s : IdS} {ks : List Kv} (h : CiR w p t fp rb bs s ks) : CiS w p t fp bs s ks := by
  obtain ⟨P, K, wf, l, h1, h2, h3⟩ := h
  exact ⟨P, K, wf, rb, l, h1, h2, h3⟩
theorem CiS.grow {w w' : World} {p t : Nat} {fp : List Nat} {bs : List UInt8} {s : IdS} {ks : List Kv} (h : CiS w p t fp bs s ks) (g : Grow w w') : CiS w' p t fp bs s ks := by
  obtain ⟨P, K, wf, rb, l, h1, h2, h3⟩ := h
  exact ⟨P, K, wf, rb, l, h1.grow g, h2, h3⟩
theorem CiS.lt {w : World} {p t : Nat} {fp : List Nat} {bs : List UInt8} {s : IdS} {ks : List Kv} (h : CiS w p t fp bs s ks) : ∀ g ∈ fp, g < w.heap.size := by
  obtain ⟨P, K, wf, rb, l, h1, h2, rfl⟩ := h
  exact h1.lt

set_option maxRecDepth 100000 in
set_option maxHeartbeats 2000000 in
theorem encSR {w : World} {p t : Nat} {fp rb : List Nat} {bs : List UInt8} {s : IdS} {ks : List Kv} (h : CiR w p t fp rb bs s ks) (hbs : bs.length ≤ 50000) (hcnt : s.cnt ≤ 100000) (hag : s.ag ≤ 100000) (what : ByteArray) (x : Pla) (y : B16)
    (R : Ending → World → Prop) (hR : ∀ fp' w', CiR w' p t fp' rb bs (encS bs s x y).2 ks → Keep fp w w' → (∀ g ∈ fp', g ∈ fp ∨ w.heap.size ≤ g) → R (.returned (.tuple #[ekB (encS bs s x y).1.1, .int .i64 (encS bs s x y).1.2])) w') :
    Calls Try.prog 18 #[.pointer (some ⟨p, 0, none⟩), .string what, .string x.key, .int .i64 x.unit, .int .i64 x.i, ekB y] w R := by
  have hml : maxLen = 9223372036854775807 := rfl
  obtain ⟨P, K, wf, l, h1, habs, hfp⟩ := h
  have hXl : (y.b.map B).length = 16 := by rw [List.length_map]; exact y.h
  have hX1 := B_one y.b
  have ga := Grow.alloc w (.cells (y.b.map B).toArray 33)
  have o11 : Own (w.alloc (.cells (y.b.map B).toArray 33)) 33 1 (some ⟨w.heap.size, 0, none⟩) 16 16 (y.b.map B) := Own.made (n := 16) (sz := 1) (heap_alloc_new w _) (by simpa using hXl) (by omega) (by simpa using hX1)
  obtain ⟨wa, hwa⟩ : ∃ wa, wa = w.alloc (.cells (y.b.map B).toArray 33) := ⟨_, rfl⟩
  rw [← hwa] at ga o11
  have z1 : wa.heap.size = w.heap.size + 1 := by rw [hwa]; simp
  have gb := Grow.alloc wa (.cells zB.toArray 33)
  have o12 : Own (wa.alloc (.cells zB.toArray 33)) 33 1 (some ⟨wa.heap.size, 0, none⟩) 16 16 zB := Own.made (n := 16) (sz := 1) (heap_alloc_new wa _) rfl (by omega) (by simp [Value.oneCell'])
  obtain ⟨wb, hwb⟩ : ∃ wb, wb = wa.alloc (.cells zB.toArray 33) := ⟨_, rfl⟩
  rw [← hwb] at gb o12
  rw [z1] at o12
  have z2 : wb.heap.size = w.heap.size + 2 := by rw [hwb]; simp; omega
  have o11b := o11.grow gb
  have hall : wb = (w.alloc (.cells (y.b.map B).toArray 33)).alloc (.cells zB.toArray 33) := by rw [hwb, hwa]
  have Gb := ga.trans gb
  have hb := h1.grow Gb
  have hlt := h1.lt
  obtain ⟨q11, hq11⟩ : ∃ q, q = w.heap.size := ⟨_, rfl⟩
  rw [← hq11] at o11b o12
  have hqa := Nat.le_of_eq hq11
  have hqb := Nat.le_of_eq hq11.symm
  have hrb : ∀ g ∈ rb, g < w.heap.size := by
    obtain ⟨T, ht, -⟩ := h1.tape
    exact ht.old.2.1
  have hkb : ∀ e ∈ ks, ∀ g ∈ blk e.ao, g < w.heap.size := fun e he g hg => ((h1.kr e he).2 g hg).2
  have Habs := Lib.hid habs
  have Hfp := Lib.hid hfp
  clear hwa hwb z1 ga gb o11 habs hfp h1
  go_enter Try.func18, Try.ntmps18
  go_upto_region 3 with (fail)
  change Code.wp _ _ _ ⟨_, _⟩ ((w.alloc (.cells (y.b.map B).toArray 33)).alloc (.cells zB.toArray 33))
  rw [← hall, ← hq11]
  clear hall hq11
  refine encrypt3 p x wb (AtSt wb p t P K wf rb bs s.a l ks s.cnt s.ag x) (atC hb x) ?_
  rintro f b w2 q14 w3 ⟨l1, e, l2, rfl, rfl, hek, hl1, hC2, hpr, hab2, k2, hfp2⟩ o14 g3 hq14
  intros
  have hPlt := hlt P (by simp [fpI])
  have o113 := (o11b.keep k2 (by simp [blk]; omega)).grow g3
  have o123 := (o12.keep k2 (by simp [blk]; omega)).grow g3
  have hC3 := hC2.grow g3
  have hO3 := hC3.oth
  have hz2 := k2.size
  have hz3 := g3.size
  have hnw : ∀ g ∈ fpI p P K wf (l1 ++ e :: l2), g ∈ fpI p P K wf l ∨ w.heap.size + 2 ≤ g := fun g hg => (hfp2 g hg).imp id (fun h => by omega)
  have hsub : ∀ g, g ∈ p :: e.f :: e.b :: wf → g ∈ fpI p P K wf (l1 ++ e :: l2) := fun g hg => by
    simp only [fpI, List.mem_cons, List.mem_append, List.flatMap_append, List.flatMap_cons, List.not_mem_nil, or_false] at hg ⊢
    rcases hg with hg | hg | hg | hg
    · exact .inl hg
    · exact .inr (.inr (.inr (.inr (.inr (.inl (.inl hg))))))
    · exact .inr (.inr (.inr (.inr (.inr (.inl (.inr hg))))))
    · exact .inr (.inr (.inr (.inl hg)))
  have hn12 : ∀ q, w.heap.size ≤ q → q < w.heap.size + 2 → q ∉ p :: e.f :: e.b :: wf := fun q hq1 hq2 hm => by
    rcases hnw q (hsub q hm) with h | h
    · have := hlt q h; omega
    · omega
  have K3 : Keep (fpI p P K wf l) w w3 := (((Keep.of_grow _ Gb).trans (k2.mono (by simp [fpI]))).trans (Keep.of_grow _ g3))
  have hpr2 : prsS s x = (e.fl, e.bl) := by unfold prsS; rw [← Habs.out]; exact hpr
  clear hC2 o11b o12 hb hfp2 k2 hpr Gb g3
  go_upto_region 4 with (fail)
  refine encrypt4 p q11 (q11 + 1) q14 e.f e.b what y zB w3 o113 o14 (fun z er w' => (z, er) = (encS bs s x y).1 ∧ Own w' 33 1 (some ⟨q11 + 1, 0, none⟩) 16 16 zB ∧ ∃ wf' l', Ci w' p t P K wf' rb bs (encS bs s x y).2.a l' ks (encS bs s x y).2.cnt (encS bs s x y).2.ag ∧ absI l' = (encS bs s x y).2.S ∧ Keep (fpI p P K wf l) w w' ∧ ∀ g ∈ fpI p P K wf' l', g ∈ fpI p P K wf l ∨ w.heap.size + 2 ≤ g) (fun z er w' hS => hS.2.1) (fun R2 hR2 => ?_) ?_
  · have habm : ∀ u : Prs × Prs, absI (l1 ++ (⟨e.k, e.f, e.b, u.1, u.2⟩ : Ent) :: l2) = putM x u s.S := fun u => by
      have h5 : absI (l1 ++ e :: l2) = absI l1 ++ (x, (e.fl, e.bl)) :: absI l2 := by simp [absI, hek]
      have h6 : absI (l1 ++ (⟨e.k, e.f, e.b, u.1, u.2⟩ : Ent) :: l2) = absI l1 ++ (x, u) :: absI l2 := by simp [absI, hek]
      have h7 := putM_over x u (e.fl, e.bl) (absI l)
      rw [← hab2, h5, put_mid x _ _ _ _ (look_abs x l1 hl1), Habs.out] at h7
      rw [h6, h7]
    have hmem : ∀ (wf' : List Nat) (u : Prs × Prs), Inn wf' wf w3 → ∀ g ∈ fpI p P K wf' (l1 ++ (⟨e.k, e.f, e.b, u.1, u.2⟩ : Ent) :: l2), g ∈ fpI p P K wf l ∨ w.heap.size + 2 ≤ g := fun wf' u hi g hg => by
      have hflat : (l1 ++ (⟨e.k, e.f, e.b, u.1, u.2⟩ : Ent) :: l2).flatMap (fun e => [e.f, e.b]) = (l1 ++ e :: l2).flatMap (fun e => [e.f, e.b]) := by simp
      simp only [fpI, hflat, List.mem_cons, List.mem_append] at hg
      have hin : ∀ g, (g = p ∨ g = P ∨ g = K ∨ g ∈ wf ∨ g ∈ (l1 ++ e :: l2).flatMap (fun e => [e.f, e.b])) → g ∈ fpI p P K wf l ∨ w.heap.size + 2 ≤ g := fun g h => hnw g (by simp only [fpI, List.mem_cons, List.mem_append]; exact h)
      rcases hg with hg | hg | hg | hg | hg
      · exact hin g (.inl hg)
      · exact hin g (.inr (.inl hg))
      · exact hin g (.inr (.inr (.inl hg)))
      · rcases hi g hg with h | h
        · exact hin g (.inr (.inr (.inr (.inl h))))
        · right; omega
      · exact hin g (.inr (.inr (.inr (.inr hg))))
    have hkk : ∀ w', Keep (p :: e.f :: e.b :: wf) w3 w' → Keep (fpI p P K wf l) w w' := fun w' k => K3.trans' k (fun g hg => (hnw g (hsub g hg)).imp id (fun h => by omega))
    have hkk2 : ∀ w', Keep (p :: e.f :: e.b :: wf) w3 w' → Keep (p :: e.f :: e.b :: wf) w3 w' := fun w' k => k.mono (fun g hg => by simp only [List.mem_cons] at hg ⊢; rcases hg with h | h | h | h <;> simp [h])
    have ho12 : ∀ w', Keep (p :: e.f :: e.b :: wf) w3 w' → Own w' 33 1 (some ⟨q11 + 1, 0, none⟩) 16 16 zB := fun w' k => o123.keep k (fun g hg => by simp [blk] at hg; subst hg; exact hn12 _ (by omega) (by omega))
    refine otherC hO3 hbs hcnt hag what y R2 ⟨fun z hz w' g => ?_, fun hn a' g' hd wf' w' o k hi => ?_, fun hn z a' g' hd wf' w' o k hi => ?_⟩
    · have hS : encS bs s x y = ((z, 0), ⟨s.a, putM x (prsS s x) s.S, s.cnt, s.ag⟩) := by unfold encS; rw [hpr2]; simp only [hz]
      have hk0 : Keep (p :: e.f :: e.b :: wf) w3 w' := Keep.of_grow _ g
      refine hR2 z 0 w' ⟨by rw [hS], ho12 w' hk0, wf, l1 ++ e :: l2, ?_, ?_, hkk w' hk0, hmem wf (e.fl, e.bl) (fun g hg => .inl hg)⟩
      · rw [hS]; exact hC3.grow g
      · rw [hS, hpr2]
        exact habm (e.fl, e.bl)
    · have hS : encS bs s x y = ((b16z, 9), ⟨a', putM x (prsS s x) s.S, s.cnt, g'⟩) := by unfold encS; rw [hpr2]; simp only [hn, hd]
      refine hR2 b16z 9 w' ⟨by rw [hS], ho12 w' (hkk2 w' k), wf', l1 ++ ⟨e.k, e.f, e.b, e.fl, e.bl⟩ :: l2, ?_, ?_, hkk w' (hkk2 w' k), hmem wf' (e.fl, e.bl) hi⟩
      · rw [hS]; exact hC3.back o (hkk2 w' k) hi
      · rw [hS, hpr2]
        exact habm (e.fl, e.bl)
    · have hS : encS bs s x y = ((z, 0), ⟨a', putM x (putM y z e.fl, putM z y e.bl) s.S, s.cnt + 1, g'⟩) := by unfold encS; rw [hpr2]; simp only [hn, hd]
      refine hR2 z 0 w' ⟨by rw [hS], ho12 w' (hkk2 w' k), wf', l1 ++ ⟨e.k, e.f, e.b, putM y z e.fl, putM z y e.bl⟩ :: l2, ?_, ?_, hkk w' (hkk2 w' k), hmem wf' (putM y z e.fl, putM z y e.bl) hi⟩
      · rw [hS]; exact hC3.back o (hkk2 w' k) hi
      · rw [hS]
        exact habm (putM y z e.fl, putM z y e.bl)
  · rintro z er w5 w6 ⟨hze, o125, wf', l', hC5, hab5, K5, hin5⟩ o126 k6
    intros
    have hq12 : q11 + 1 ∉ fpI p P K wf' l' := fun hm => by
      rcases hin5 _ hm with h | h
      · have := hlt _ h; omega
      · omega
    have hq12r : q11 + 1 ∉ rb := fun hm => by have := hrb _ hm; omega
    have hS5 : CiR w6 p t (fpI p P K wf' l') rb bs (encS bs s x y).2 ks := by
      have hm : ∀ g ∈ fpI p P K wf' l', g ∉ [q11 + 1] := fun g hg hx => by simp at hx; subst hx; exact hq12 hg
      refine ⟨P, K, wf', l', ⟨k6.obj hC5.obj (hm p (by simp [fpI])), ?_, hC5.pm.keep k6 (hm P (by simp [fpI])), fun e he => ⟨(hC5.fm e he).1.keep k6 (hm _ ?_), (hC5.fm e he).2.keep k6 (hm _ ?_)⟩, hC5.km.keep k6 (hm K (by simp [fpI])), fun e he => ⟨(hC5.kr e he).1.keep k6 (fun g hg hx => by simp at hx; subst hx; have := hkb e he _ hg; omega), fun g hg => ⟨((hC5.kr e he).2 g hg).1, Nat.lt_of_lt_of_le ((hC5.kr e he).2 g hg).2 k6.size⟩⟩, hC5.nd, hC5.rd⟩, hab5, rfl⟩
      · obtain ⟨T, ht, hT⟩ := hC5.tape
        exact ⟨T, ht.keep k6 (fun g hg => hm g (by simp [fpI, hg])) (fun g hg hx => by simp at hx; subst hx; exact hq12r hg), hT⟩
      · simp only [fpI, List.mem_cons, List.mem_append, List.mem_flatMap]
        exact .inr (.inr (.inr (.inr ⟨e, he, by simp⟩)))
      · simp only [fpI, List.mem_cons, List.mem_append, List.mem_flatMap]
        exact .inr (.inr (.inr (.inr ⟨e, he, by simp⟩)))
    have K6 : Keep fp w w6 := by
      rw [Hfp.out]
      exact K5.trans' k6 (fun g hg => by simp at hg; right; omega)
    have hf := hR _ w6 hS5 K6 (fun g hg => by rw [Hfp.out]; exact (hin5 g hg).imp id (fun h => by omega))
    rw [← hze] at hf
    clear hR hS5 hC5
    go_wp2_with fail
    exact bodyPost_ret (v := .tuple #[.agg (z.b.map B).toArray, .int .i64 er]) (ret_cs Try.results18 _ _ (q11 + 1) 16 (z.b.map B) _ rfl rfl o126 (by decide) Try.underlying33 rfl i16) rfl hf
theorem encSC {w : World} {p t : Nat} {fp : List Nat} {bs : List UInt8} {s : IdS} {ks : List Kv} (h : CiS w p t fp bs s ks) (hbs : bs.length ≤ 50000) (hcnt : s.cnt ≤ 100000) (hag : s.ag ≤ 100000) (what : ByteArray) (x : Pla) (y : B16)
    (R : Ending → World → Prop) (hR : ∀ fp' w', CiS w' p t fp' bs (encS bs s x y).2 ks → Keep fp w w' → (∀ g ∈ fp', g ∈ fp ∨ w.heap.size ≤ g) → R (.returned (.tuple #[ekB (encS bs s x y).1.1, .int .i64 (encS bs s x y).1.2])) w') :
    Calls Try.prog 18 #[.pointer (some ⟨p, 0, none⟩), .string what, .string x.key, .int .i64 x.unit, .int .i64 x.i, ekB y] w R := by
  obtain ⟨rb, h⟩ := h.ro
  exact encSR h hbs hcnt hag what x y R (fun fp' w' hC => hR fp' w' hC.so)

set_option maxRecDepth 100000 in
set_option maxHeartbeats 2000000 in
theorem decSR {w : World} {p t : Nat} {fp rb : List Nat} {bs : List UInt8} {s : IdS} {ks : List Kv} (h : CiR w p t fp rb bs s ks) (hbs : bs.length ≤ 50000) (hcnt : s.cnt ≤ 100000) (hag : s.ag ≤ 100000) (what : ByteArray) (x : Pla) (y : B16)
    (R : Ending → World → Prop) (hR : ∀ fp' w', CiR w' p t fp' rb bs (decS bs s x y).2 ks → Keep fp w w' → (∀ g ∈ fp', g ∈ fp ∨ w.heap.size ≤ g) → R (.returned (.tuple #[ekB (decS bs s x y).1.1, .int .i64 (decS bs s x y).1.2])) w') :
    Calls Try.prog 21 #[.pointer (some ⟨p, 0, none⟩), .string what, .string x.key, .int .i64 x.unit, .int .i64 x.i, ekB y] w R := by
  have hml : maxLen = 9223372036854775807 := rfl
  obtain ⟨P, K, wf, l, h1, habs, hfp⟩ := h
  have hXl : (y.b.map B).length = 16 := by rw [List.length_map]; exact y.h
  have hX1 := B_one y.b
  have ga := Grow.alloc w (.cells (y.b.map B).toArray 33)
  have o11 : Own (w.alloc (.cells (y.b.map B).toArray 33)) 33 1 (some ⟨w.heap.size, 0, none⟩) 16 16 (y.b.map B) := Own.made (n := 16) (sz := 1) (heap_alloc_new w _) (by simpa using hXl) (by omega) (by simpa using hX1)
  obtain ⟨wa, hwa⟩ : ∃ wa, wa = w.alloc (.cells (y.b.map B).toArray 33) := ⟨_, rfl⟩
  rw [← hwa] at ga o11
  have z1 : wa.heap.size = w.heap.size + 1 := by rw [hwa]; simp
  have gb := Grow.alloc wa (.cells zB.toArray 33)
  have o12 : Own (wa.alloc (.cells zB.toArray 33)) 33 1 (some ⟨wa.heap.size, 0, none⟩) 16 16 zB := Own.made (n := 16) (sz := 1) (heap_alloc_new wa _) rfl (by omega) (by simp [Value.oneCell'])
  obtain ⟨wb, hwb⟩ : ∃ wb, wb = wa.alloc (.cells zB.toArray 33) := ⟨_, rfl⟩
  rw [← hwb] at gb o12
  rw [z1] at o12
  have z2 : wb.heap.size = w.heap.size + 2 := by rw [hwb]; simp; omega
  have o11b := o11.grow gb
  have hall : wb = (w.alloc (.cells (y.b.map B).toArray 33)).alloc (.cells zB.toArray 33) := by rw [hwb, hwa]
  have Gb := ga.trans gb
  have hb := h1.grow Gb
  have hlt := h1.lt
  obtain ⟨q11, hq11⟩ : ∃ q, q = w.heap.size := ⟨_, rfl⟩
  rw [← hq11] at o11b o12
  have hqa := Nat.le_of_eq hq11
  have hqb := Nat.le_of_eq hq11.symm
  have hrb : ∀ g ∈ rb, g < w.heap.size := by
    obtain ⟨T, ht, -⟩ := h1.tape
    exact ht.old.2.1
  have hkb : ∀ e ∈ ks, ∀ g ∈ blk e.ao, g < w.heap.size := fun e he g hg => ((h1.kr e he).2 g hg).2
  have Habs := Lib.hid habs
  have Hfp := Lib.hid hfp
  clear hwa hwb z1 ga gb o11 habs hfp h1
  go_enter Try.func21, Try.ntmps21
  go_upto_region 3 with (fail)
  change Code.wp _ _ _ ⟨_, _⟩ ((w.alloc (.cells (y.b.map B).toArray 33)).alloc (.cells zB.toArray 33))
  rw [← hall, ← hq11]
  clear hall hq11
  refine decrypt3 p x wb (AtSt wb p t P K wf rb bs s.a l ks s.cnt s.ag x) (atC hb x) ?_
  rintro f b w2 q14 w3 ⟨l1, e, l2, rfl, rfl, hek, hl1, hC2, hpr, hab2, k2, hfp2⟩ o14 g3 hq14
  intros
  have hPlt := hlt P (by simp [fpI])
  have o113 := (o11b.keep k2 (by simp [blk]; omega)).grow g3
  have o123 := (o12.keep k2 (by simp [blk]; omega)).grow g3
  have hC3 := hC2.grow g3
  have hO3 := hC3.oth.swap
  have hz2 := k2.size
  have hz3 := g3.size
  have hnw : ∀ g ∈ fpI p P K wf (l1 ++ e :: l2), g ∈ fpI p P K wf l ∨ w.heap.size + 2 ≤ g := fun g hg => (hfp2 g hg).imp id (fun h => by omega)
  have hsub : ∀ g, g ∈ p :: e.f :: e.b :: wf → g ∈ fpI p P K wf (l1 ++ e :: l2) := fun g hg => by
    simp only [fpI, List.mem_cons, List.mem_append, List.flatMap_append, List.flatMap_cons, List.not_mem_nil, or_false] at hg ⊢
    rcases hg with hg | hg | hg | hg
    · exact .inl hg
    · exact .inr (.inr (.inr (.inr (.inr (.inl (.inl hg))))))
    · exact .inr (.inr (.inr (.inr (.inr (.inl (.inr hg))))))
    · exact .inr (.inr (.inr (.inl hg)))
  have hn12 : ∀ q, w.heap.size ≤ q → q < w.heap.size + 2 → q ∉ p :: e.f :: e.b :: wf := fun q hq1 hq2 hm => by
    rcases hnw q (hsub q hm) with h | h
    · have := hlt q h; omega
    · omega
  have K3 : Keep (fpI p P K wf l) w w3 := (((Keep.of_grow _ Gb).trans (k2.mono (by simp [fpI]))).trans (Keep.of_grow _ g3))
  have hpr2 : prsS s x = (e.fl, e.bl) := by unfold prsS; rw [← Habs.out]; exact hpr
  clear hC2 o11b o12 hb hfp2 k2 hpr Gb g3
  go_upto_region 4 with (fail)
  refine decrypt4 p q11 (q11 + 1) q14 e.f e.b what y zB w3 o113 o14 (fun z er w' => (z, er) = (decS bs s x y).1 ∧ Own w' 33 1 (some ⟨q11 + 1, 0, none⟩) 16 16 zB ∧ ∃ wf' l', Ci w' p t P K wf' rb bs (decS bs s x y).2.a l' ks (decS bs s x y).2.cnt (decS bs s x y).2.ag ∧ absI l' = (decS bs s x y).2.S ∧ Keep (fpI p P K wf l) w w' ∧ ∀ g ∈ fpI p P K wf' l', g ∈ fpI p P K wf l ∨ w.heap.size + 2 ≤ g) (fun z er w' hS => hS.2.1) (fun R2 hR2 => ?_) ?_
  · have habm : ∀ u : Prs × Prs, absI (l1 ++ (⟨e.k, e.f, e.b, u.1, u.2⟩ : Ent) :: l2) = putM x u s.S := fun u => by
      have h5 : absI (l1 ++ e :: l2) = absI l1 ++ (x, (e.fl, e.bl)) :: absI l2 := by simp [absI, hek]
      have h6 : absI (l1 ++ (⟨e.k, e.f, e.b, u.1, u.2⟩ : Ent) :: l2) = absI l1 ++ (x, u) :: absI l2 := by simp [absI, hek]
      have h7 := putM_over x u (e.fl, e.bl) (absI l)
      rw [← hab2, h5, put_mid x _ _ _ _ (look_abs x l1 hl1), Habs.out] at h7
      rw [h6, h7]
    have hmem : ∀ (wf' : List Nat) (u : Prs × Prs), Inn wf' wf w3 → ∀ g ∈ fpI p P K wf' (l1 ++ (⟨e.k, e.f, e.b, u.1, u.2⟩ : Ent) :: l2), g ∈ fpI p P K wf l ∨ w.heap.size + 2 ≤ g := fun wf' u hi g hg => by
      have hflat : (l1 ++ (⟨e.k, e.f, e.b, u.1, u.2⟩ : Ent) :: l2).flatMap (fun e => [e.f, e.b]) = (l1 ++ e :: l2).flatMap (fun e => [e.f, e.b]) := by simp
      simp only [fpI, hflat, List.mem_cons, List.mem_append] at hg
      have hin : ∀ g, (g = p ∨ g = P ∨ g = K ∨ g ∈ wf ∨ g ∈ (l1 ++ e :: l2).flatMap (fun e => [e.f, e.b])) → g ∈ fpI p P K wf l ∨ w.heap.size + 2 ≤ g := fun g h => hnw g (by simp only [fpI, List.mem_cons, List.mem_append]; exact h)
      rcases hg with hg | hg | hg | hg | hg
      · exact hin g (.inl hg)
      · exact hin g (.inr (.inl hg))
      · exact hin g (.inr (.inr (.inl hg)))
      · rcases hi g hg with h | h
        · exact hin g (.inr (.inr (.inr (.inl h))))
        · right; omega
      · exact hin g (.inr (.inr (.inr (.inr hg))))
    have hkk : ∀ w', Keep (p :: e.f :: e.b :: wf) w3 w' → Keep (fpI p P K wf l) w w' := fun w' k => K3.trans' k (fun g hg => (hnw g (hsub g hg)).imp id (fun h => by omega))
    have hkk2 : ∀ w', Keep (p :: e.b :: e.f :: wf) w3 w' → Keep (p :: e.f :: e.b :: wf) w3 w' := fun w' k => k.mono (fun g hg => by simp only [List.mem_cons] at hg ⊢; rcases hg with h | h | h | h <;> simp [h])
    have ho12 : ∀ w', Keep (p :: e.f :: e.b :: wf) w3 w' → Own w' 33 1 (some ⟨q11 + 1, 0, none⟩) 16 16 zB := fun w' k => o123.keep k (fun g hg => by simp [blk] at hg; subst hg; exact hn12 _ (by omega) (by omega))
    refine otherC hO3 hbs hcnt hag what y R2 ⟨fun z hz w' g => ?_, fun hn a' g' hd wf' w' o k hi => ?_, fun hn z a' g' hd wf' w' o k hi => ?_⟩
    · have hS : decS bs s x y = ((z, 0), ⟨s.a, putM x (prsS s x) s.S, s.cnt, s.ag⟩) := by unfold decS; rw [hpr2]; simp only [hz]
      have hk0 : Keep (p :: e.f :: e.b :: wf) w3 w' := Keep.of_grow _ g
      refine hR2 z 0 w' ⟨by rw [hS], ho12 w' hk0, wf, l1 ++ e :: l2, ?_, ?_, hkk w' hk0, hmem wf (e.fl, e.bl) (fun g hg => .inl hg)⟩
      · rw [hS]; exact hC3.grow g
      · rw [hS, hpr2]
        exact habm (e.fl, e.bl)
    · have hS : decS bs s x y = ((b16z, 9), ⟨a', putM x (prsS s x) s.S, s.cnt, g'⟩) := by unfold decS; rw [hpr2]; simp only [hn, hd]
      refine hR2 b16z 9 w' ⟨by rw [hS], ho12 w' (hkk2 w' k), wf', l1 ++ ⟨e.k, e.f, e.b, e.fl, e.bl⟩ :: l2, ?_, ?_, hkk w' (hkk2 w' k), hmem wf' (e.fl, e.bl) hi⟩
      · rw [hS]; exact hC3.back o.swap (hkk2 w' k) hi
      · rw [hS, hpr2]
        exact habm (e.fl, e.bl)
    · have hS : decS bs s x y = ((z, 0), ⟨a', putM x (putM z y e.fl, putM y z e.bl) s.S, s.cnt + 1, g'⟩) := by unfold decS; rw [hpr2]; simp only [hn, hd]
      refine hR2 z 0 w' ⟨by rw [hS], ho12 w' (hkk2 w' k), wf', l1 ++ ⟨e.k, e.f, e.b, putM z y e.fl, putM y z e.bl⟩ :: l2, ?_, ?_, hkk w' (hkk2 w' k), hmem wf' (putM z y e.fl, putM y z e.bl) hi⟩
      · rw [hS]; exact hC3.back o.swap (hkk2 w' k) hi
      · rw [hS]
        exact habm (putM z y e.fl, putM y z e.bl)
  · rintro z er w5 w6 ⟨hze, o125, wf', l', hC5, hab5, K5, hin5⟩ o126 k6
    intros
    have hq12 : q11 + 1 ∉ fpI p P K wf' l' := fun hm => by
      rcases hin5 _ hm with h | h
      · have := hlt _ h; omega
      · omega
    have hq12r : q11 + 1 ∉ rb := fun hm => by have := hrb _ hm; omega
    have hS5 : CiR w6 p t (fpI p P K wf' l') rb bs (decS bs s x y).2 ks := by
      have hm : ∀ g ∈ fpI p P K wf' l', g ∉ [q11 + 1] := fun g hg hx => by simp at hx; subst hx; exact hq12 hg
      refine ⟨P, K, wf', l', ⟨k6.obj hC5.obj (hm p (by simp [fpI])), ?_, hC5.pm.keep k6 (hm P (by simp [fpI])), fun e he => ⟨(hC5.fm e he).1.keep k6 (hm _ ?_), (hC5.fm e he).2.keep k6 (hm _ ?_)⟩, hC5.km.keep k6 (hm K (by simp [fpI])), fun e he => ⟨(hC5.kr e he).1.keep k6 (fun g hg hx => by simp at hx; subst hx; have := hkb e he _ hg; omega), fun g hg => ⟨((hC5.kr e he).2 g hg).1, Nat.lt_of_lt_of_le ((hC5.kr e he).2 g hg).2 k6.size⟩⟩, hC5.nd, hC5.rd⟩, hab5, rfl⟩
      · obtain ⟨T, ht, hT⟩ := hC5.tape
        exact ⟨T, ht.keep k6 (fun g hg => hm g (by simp [fpI, hg])) (fun g hg hx => by simp at hx; subst hx; exact hq12r hg), hT⟩
      · simp only [fpI, List.mem_cons, List.mem_append, List.mem_flatMap]
        exact .inr (.inr (.inr (.inr ⟨e, he, by simp⟩)))
      · simp only [fpI, List.mem_cons, List.mem_append, List.mem_flatMap]
        exact .inr (.inr (.inr (.inr ⟨e, he, by simp⟩)))
    have K6 : Keep fp w w6 := by
      rw [Hfp.out]
      exact K5.trans' k6 (fun g hg => by simp at hg; right; omega)
    have hf := hR _ w6 hS5 K6 (fun g hg => by rw [Hfp.out]; exact (hin5 g hg).imp id (fun h => by omega))
    rw [← hze] at hf
    clear hR hS5 hC5
    go_wp2_with fail
    exact bodyPost_ret (v := .tuple #[.agg (z.b.map B).toArray, .int .i64 er]) (ret_cs Try.results21 _ _ (q11 + 1) 16 (z.b.map B) _ rfl rfl o126 (by decide) Try.underlying33 rfl i16) rfl hf
theorem decSC {w : World} {p t : Nat} {fp : List Nat} {bs : List UInt8} {s : IdS} {ks : List Kv} (h : CiS w p t fp bs s ks) (hbs : bs.length ≤ 50000) (hcnt : s.cnt ≤ 100000) (hag : s.ag ≤ 100000) (what : ByteArray) (x : Pla) (y : B16)
    (R : Ending → World → Prop) (hR : ∀ fp' w', CiS w' p t fp' bs (decS bs s x y).2 ks → Keep fp w w' → (∀ g ∈ fp', g ∈ fp ∨ w.heap.size ≤ g) → R (.returned (.tuple #[ekB (decS bs s x y).1.1, .int .i64 (decS bs s x y).1.2])) w') :
    Calls Try.prog 21 #[.pointer (some ⟨p, 0, none⟩), .string what, .string x.key, .int .i64 x.unit, .int .i64 x.i, ekB y] w R := by
  obtain ⟨rb, h⟩ := h.ro
  exact decSR h hbs hcnt hag what x y R (fun fp' w' hC => hR fp' w' hC.so)
end Go.Proofs.Ytfmnkcmicbnfdaa
