/- The ideal cipher: at. -/
import Derived.Test.YtfmnkcmicbnfdaaIdlA
namespace Go.Proofs.Ytfmnkcmicbnfdaa
open Go Go.RowKit

set_option maxRecDepth 100000 in
set_option maxHeartbeats 1000000 in
theorem atOld {w : World} {p t P K : Nat} {wf rb : List Nat} {bs : List UInt8} {at_ : Nat} {l : List Ent} {ks : List Kv} {cnt ag : Nat} (h : Ci w p t P K wf rb bs at_ l ks cnt ag) (x : Pla) (f b : Nat) (hl : look x (entP l) = some (f, b))
    (R : Ending → World → Prop) (hR : ∀ w', Grow w w' → R (.returned (.agg (prV f b).toArray)) w') :
    Calls Try.prog 56 #[.pointer (some ⟨p, 0, none⟩), .string x.key, .int .i64 x.unit, .int .i64 x.i] w R := by
  have hml : maxLen = 9223372036854775807 := rfl
  have ga := Grow.alloc w (.cells prZ.toArray 105)
  have o8 : Own (w.alloc (.cells prZ.toArray 105)) 105 1 (some ⟨w.heap.size, 0, none⟩) 2 2 prZ := Own.made (n := 2) (sz := 1) (heap_alloc_new w _) rfl (by omega) (by simp [Value.oneCell'])
  obtain ⟨wa, hwa⟩ : ∃ wa, wa = w.alloc (.cells prZ.toArray 105) := ⟨_, rfl⟩
  obtain ⟨q8, hq8⟩ : ∃ q, q = w.heap.size := ⟨_, rfl⟩
  rw [← hwa] at ga o8
  rw [← hq8] at o8
  have ha := h.grow ga
  have hc := obj_cell ha.obj 1 rfl
  have hk := run_look (T := 99) Try.underlying99 okP (zPairs wa) ha.pm x true
  rw [hl] at hk
  clear ha h hl
  go_enter Try.func56, Try.ntmps56
  go_upto_region 1 with (fail)
  change Code.wp _ _ _ ⟨_, _⟩ (w.alloc (.cells prZ.toArray 105))
  rw [← hwa, ← hq8]
  clear hwa
  refine at1 p P x.key x.unit x.i (prV f b) true rfl (prV_one _ _) wa hc hk ?_
  intro q9 w2 o9 g2 hq9
  intros
  have o82 := o8.grow g2
  have G2 := ga.trans g2
  clear hc hk o8 ga g2 hq9
  go_upto_region 5 with (fail)
  refine at5 q8 q9 (prV f b) prZ rfl (prV_one _ _) w2 o9 o82 ?_
  intro w3 o83 k3
  intros
  have hf := hR _ (G2.then k3 (fun g hg => by simp at hg; omega))
  clear hR hq8
  go_wp2_with fail
  exact bodyPost_ret (v := .agg (prV f b).toArray) (ret_bytes Try.results56 _ _ q8 (prV f b) _ _ 2 rfl o83 (by decide) Try.underlying105 rfl i2) rfl hf

set_option maxRecDepth 100000 in
set_option maxHeartbeats 1000000 in
theorem atNew {w : World} {p t P K : Nat} {wf rb : List Nat} {bs : List UInt8} {at_ : Nat} {l : List Ent} {ks : List Kv} {cnt ag : Nat} (h : Ci w p t P K wf rb bs at_ l ks cnt ag) (x : Pla) (hl : look x (entP l) = none)
    (R : Ending → World → Prop) (hR : ∀ f b w', Ci w' p t P K wf rb bs at_ (l ++ [⟨x, f, b, [], []⟩]) ks cnt ag → Keep [P] w w' → w.heap.size ≤ f → w.heap.size ≤ b → R (.returned (.agg (prV f b).toArray)) w') :
    Calls Try.prog 56 #[.pointer (some ⟨p, 0, none⟩), .string x.key, .int .i64 x.unit, .int .i64 x.i] w R := by
  have hml : maxLen = 9223372036854775807 := rfl
  have ga := Grow.alloc w (.cells prZ.toArray 105)
  have o8 : Own (w.alloc (.cells prZ.toArray 105)) 105 1 (some ⟨w.heap.size, 0, none⟩) 2 2 prZ := Own.made (n := 2) (sz := 1) (heap_alloc_new w _) rfl (by omega) (by simp [Value.oneCell'])
  obtain ⟨wa, hwa⟩ : ∃ wa, wa = w.alloc (.cells prZ.toArray 105) := ⟨_, rfl⟩
  obtain ⟨q8, hq8⟩ : ∃ q, q = w.heap.size := ⟨_, rfl⟩
  rw [← hwa] at ga o8
  rw [← hq8] at o8
  have ha := h.grow ga
  have hc := obj_cell ha.obj 1 rfl
  have hk := run_look (T := 99) Try.underlying99 okP (zPairs wa) ha.pm x true
  rw [hl] at hk
  have hold := h.lt
  have Hh := Lib.hid h
  clear ha h
  have hPlt := hold P (by simp [fpI])
  go_enter Try.func56, Try.ntmps56
  go_upto_region 1 with (fail)
  change Code.wp _ _ _ ⟨_, _⟩ (w.alloc (.cells prZ.toArray 105))
  rw [← hwa, ← hq8]
  clear hwa
  refine at1 p P x.key x.unit x.i prZ false rfl prZ_one wa hc hk ?_
  intro q9 w2 o9 g2 hq9
  intros
  have o82 := o8.grow g2
  have G2 := ga.trans g2
  have hl8 := o8.lt q8 (by simp [blk])
  have hw2 := g2.size
  clear hc hk g2
  go_upto_region 3 with (fail)
  refine at3 q9 prZ w2 o9 ?_
  intro f b w3 o93 mf mb k3 hf2 hb2 hfb
  intros
  have hz2 := G2.size
  have o83 := o82.keep k3 (by simp [blk]; omega)
  have G3 : Grow w w3 := G2.then k3 (fun g hg => by simp at hg; have := ga.size; omega)
  have h3 := Hh.out.grow G3
  have hc3 := obj_cell h3.obj 1 rfl
  clear o8 o82 o9 k3 ga
  go_upto_region 4 with (fail)
  refine at4 p P q9 f b x (entP l) w3 hc3 h3.pm o93 ?_
  intro w4 m4 k4
  intros
  rw [putM_new x (f, b) (entP l) hl] at m4
  have o94 := o93.keep k4 (by simp [blk]; omega)
  have o84 := o83.keep k4 (by simp [blk]; omega)
  clear o93 o83 hc3
  go_upto_region 5 with (fail)
  refine at5 q8 q9 (prV f b) prZ rfl (prV_one _ _) w4 o94 o84 ?_
  intro w5 o85 k5
  intros
  have hz3 := G3.size
  have hz4 := k4.size
  have K5 : Keep [P] w w5 := ((Keep.of_grow [P] G3).trans k4).trans' k5 (fun g hg => by simp at hg; right; omega)
  have hfl : f < w4.heap.size := (mf.keep k4 (by simp; omega)).lt
  have hbl : b < w4.heap.size := (mb.keep k4 (by simp; omega)).lt
  have hC : Ci w5 p t P K wf rb bs at_ (l ++ [⟨x, f, b, [], []⟩]) ks cnt ag := by
    have hh := Hh.out
    have hnd := hh.nd
    have hp1 : p ∉ [P] := by simp only [fpI, List.nodup_cons, List.mem_cons, not_or] at hnd; simpa using hnd.1.1
    have hK1 : K ∉ [P] := by simp only [fpI, List.nodup_cons, List.mem_cons, not_or] at hnd; simpa using fun e => hnd.2.1.1 e.symm
    have hwf : ∀ g ∈ wf, g ∉ [P] := fun g hg hm => by
      simp only [fpI, List.nodup_cons, List.mem_cons, not_or, List.mem_append] at hnd
      simp at hm; subst hm
      exact hnd.2.1.2.1 hg
    have hel : ∀ e ∈ l, e.f ∉ [P] ∧ e.b ∉ [P] := fun e he => by
      simp only [fpI, List.nodup_cons, List.mem_cons, not_or, List.mem_append] at hnd
      constructor
      · intro hm; simp at hm
        exact hnd.2.1.2.2 (List.mem_flatMap.2 ⟨e, he, by simp [hm]⟩)
      · intro hm; simp at hm
        exact hnd.2.1.2.2 (List.mem_flatMap.2 ⟨e, he, by simp [hm]⟩)
    have hfp : fpI p P K wf (l ++ [⟨x, f, b, [], []⟩]) = fpI p P K wf l ++ [f, b] := by simp [fpI]
    have hq8n : ∀ g ∈ fpI p P K wf l, g ∉ [q8] := fun g hg hm => by
      simp at hm; subst hm
      have := hold _ hg; omega
    have k45 : Keep [P, q8] w3 w5 := (k4.mono (by simp)).trans (k5.mono (by simp))
    refine ⟨K5.obj hh.obj hp1, ?_, ?_, ?_, hh.km.keep K5 hK1, ?_, ?_, ?_⟩
    · obtain ⟨T, h1, h2⟩ := hh.tape
      exact ⟨T, h1.keep K5 hwf (fun g hg hm => by simp at hm; subst hm; exact hh.rd _ hg (by simp [fpI])), h2⟩
    · rw [show entP (l ++ [⟨x, f, b, [], []⟩]) = entP l ++ [(x, (f, b))] by simp [entP]]
      exact m4.keep k5 (hq8n P (by simp [fpI]))
    · intro e he
      rcases List.mem_append.1 he with he | he
      · exact ⟨(hh.fm e he).1.keep K5 (hel e he).1, (hh.fm e he).2.keep K5 (hel e he).2⟩
      · simp at he; subst he
        exact ⟨mf.keep k45 (by simp; omega), mb.keep k45 (by simp; omega)⟩
    · intro e he
      refine ⟨(hh.kr e he).1.keep K5 (fun g hg hm => by simp at hm; subst hm; exact ((hh.kr e he).2 _ hg).1 (by simp [fpI])), fun g hg => ?_⟩
      have h1 := (hh.kr e he).2 g hg
      refine ⟨?_, Nat.lt_of_lt_of_le h1.2 K5.size⟩
      rw [hfp]
      simp only [List.mem_append, List.mem_cons, List.not_mem_nil, or_false, not_or]
      exact ⟨h1.1, by omega, by omega⟩
    · rw [hfp]
      refine List.nodup_append.2 ⟨hnd, by simp [hfb], fun a ha c hc => ?_⟩
      have := hold a ha
      simp at hc
      rcases hc with rfl | rfl <;> omega
    · intro g hg
      have h1 := hh.rd g hg
      obtain ⟨T, ht, -⟩ := hh.tape
      have h2 := ht.old.2.1 g hg
      rw [hfp]
      simp only [List.mem_append, List.mem_cons, List.not_mem_nil, or_false, not_or]
      exact ⟨h1, by omega, by omega⟩
  have hf := hR f b _ hC K5 (by omega) (by omega)
  clear hR hq8 hC Hh hold
  go_wp2_with fail
  exact bodyPost_ret (v := .agg (prV f b).toArray) (ret_bytes Try.results56 _ _ q8 (prV f b) _ _ 2 rfl o85 (by decide) Try.underlying105 rfl i2) rfl hf
end Go.Proofs.Ytfmnkcmicbnfdaa
