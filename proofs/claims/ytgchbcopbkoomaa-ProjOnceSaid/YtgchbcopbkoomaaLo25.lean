/- A story is turned: a step while nothing is mounted. -/
import Derived.Test.YtgchbcopbkoomaaCr25
namespace Go.Proofs.Ytgchbcopbkoomaa
open Go Go.RowKit

theorem opens_one {x : Sy} {ps : List UInt8} (e : x.opens ps = 1) : x.hid ≠ none := fun h => by
  unfold Sy.opens at e
  rw [h] at e
  split at e <;> cases e
set_option maxRecDepth 100000 in
set_option maxHeartbeats 8000000 in
theorem looseC {p S : Nat} {x : Sy} {wo : Option Addr} {wn wc : Nat} (hS1 : 96 ≤ S) (hS : S ≤ 300) (c : CmX) (dv : Value) (hx : x.out ≠ none) (w : World) (st : Sto w p S x wo wn wc) (R : Ending → World → Prop) (hR : StepR R w p S wo (looseS S x c)) :
    Calls Try.prog 23 #[.pointer (some ⟨p, 0, none⟩), .agg (cmV c dv)] w R := by
  have hml : maxLen = 9223372036854775807 := rfl
  have hcr := fun w (st : Sto w p S x wo wn wc) => createC hS1 hS c dv hx w st
  have hch := fun w (st : Sto w p S x wo wn wc) => changeC c dv hx w st
  obtain ⟨kd, ps, ot, fi, co, dat⟩ := c
  simp only [cmV] at hcr hch ⊢
  have ga := Grow.alloc w (.cells #[.int .i64 kd, .string (str ps), .string (str ot), .int .i64 fi, .int .i64 co, dv] 39)
  have s1 := st.grow ga
  have hR1 := hR.grow ga
  have hcr1 := hcr _ s1
  have hch1 := hch _ s1
  have hop1 := opensC ps _ s1
  have hop2 := opensC ot _ s1
  have c12 := s1.cell (i := 12) (stV_end S x _ 0)
  have hsh := shadeC
  have hlen := st.len
  clear hR ga st hcr hch
  by_cases hm : x.mt = -1
  · have hl : looseS S x ⟨kd, ps, ot, fi, co, dat⟩ = if kd = 2 then createS S x ⟨kd, ps, ot, fi, co, dat⟩ else if kd = 9 then changeS x ⟨kd, ps, ot, fi, co, dat⟩ else if kd = 4 then (if x.opens ps = 0 ∧ x.opens ot = 1 then some (3, { x with mt := 2 }) else none) else if x.opens ps = -1 then none else some (shadeS (x.opens ps), { x with mt := x.opens ps }) := if_neg (by simp [hm])
    rw [hl] at hR1
    obtain ⟨⟨v12, hv12⟩, hf12, hput⟩ := s1.put 12 (by omega)
    clear hl
    by_cases h2 : kd = 2
    · subst h2
      rw [if_pos rfl] at hR1
      rw [hm] at c12
      clear s1 hput hv12 hf12 hop1 hop2 hch1 hm
      go_enter Try.func23, Try.ntmps23
      go_wp2_with fail
      refine hcr1 _ (hR1.mono fun k w' hg => ?_)
      clear hcr1 hR1
      go_wp2_with fail
      exact hg
    have d2 : (kd == 2) = false := by simpa using h2
    rw [if_neg h2] at hR1
    by_cases h9 : kd = 9
    · subst h9
      rw [if_pos rfl] at hR1
      rw [hm] at c12
      clear s1 hput hv12 hf12 hop1 hop2 hcr1 hm
      go_enter Try.func23, Try.ntmps23
      go_wp2_with fail
      refine hch1 _ (hR1.mono fun k w' hg => ?_)
      clear hch1 hR1
      go_wp2_with fail
      exact hg
    have d9 : (kd == 9) = false := by simpa using h9
    rw [if_neg h9] at hR1
    clear hcr1 hch1
    by_cases h4 : kd = 4
    · subst h4
      rw [if_pos rfl] at hR1
      obtain ⟨s2, k2⟩ := hput (.int .i64 2) { x with mt := 2 } rfl (stV_mt S x _ 2) rfl s1.hok (.inr (.inr (.inr rfl))) (by simp)
      rcases opens_vals x ps with e | e | e
      · rcases opens_vals x ot with e2 | e2 | e2
        · rw [if_neg (by simp [e2])] at hR1
          have hg := hR1 _ (Keep.refl _ _)
          rw [hm] at c12
          rw [e] at hop1
          rw [e2] at hop2
          clear hR1 s1 s2 k2 hput hv12 hf12 hm e e2
          go_enter Try.func23, Try.ntmps23
          go_wp2_with fail
          refine hop1 _ ?_
          clear hop1
          go_wp2_with fail
          refine hop2 _ ?_
          clear hop2
          go_wp2_with fail
          exact hg
        · rw [if_pos ⟨e, e2⟩] at hR1
          have hg := hR1 _ _ _ _ s2 hlen.symm k2 (fun y hy => .inl hy)
          have c12' := c12
          rw [hm] at c12'
          rw [e] at hop1
          rw [e2] at hop2
          clear hR1 s1 s2 k2 hput c12 hv12 hm e e2
          go_enter Try.func23, Try.ntmps23
          go_wp2_with fail
          refine hop1 _ ?_
          clear hop1
          go_wp2_with fail
          refine hop2 _ ?_
          clear hop2
          go_wp2_with fail
          exact hg
        · rw [if_neg (by simp [e2])] at hR1
          have hg := hR1 _ (Keep.refl _ _)
          rw [hm] at c12
          rw [e] at hop1
          rw [e2] at hop2
          clear hR1 s1 s2 k2 hput hv12 hf12 hm e e2
          go_enter Try.func23, Try.ntmps23
          go_wp2_with fail
          refine hop1 _ ?_
          clear hop1
          go_wp2_with fail
          refine hop2 _ ?_
          clear hop2
          go_wp2_with fail
          exact hg
      · rw [if_neg (by simp [e])] at hR1
        have hg := hR1 _ (Keep.refl _ _)
        rw [hm] at c12
        rw [e] at hop1
        clear hR1 s1 s2 k2 hput hv12 hf12 hm e hop2
        go_enter Try.func23, Try.ntmps23
        go_wp2_with fail
        refine hop1 _ ?_
        clear hop1
        go_wp2_with fail
        exact hg
      · rw [if_neg (by simp [e])] at hR1
        have hg := hR1 _ (Keep.refl _ _)
        rw [hm] at c12
        rw [e] at hop1
        clear hR1 s1 s2 k2 hput hv12 hf12 hm e hop2
        go_enter Try.func23, Try.ntmps23
        go_wp2_with fail
        refine hop1 _ ?_
        clear hop1
        go_wp2_with fail
        exact hg
    have d4 : (kd == 4) = false := by simpa using h4
    rw [if_neg h4] at hR1
    clear hop2
    have hcell : ∀ (v : Value) (W : World) , W.cell? ⟨p, 12, none⟩ = some v12 → True := fun _ _ _ => trivial
    clear hcell
    rcases opens_vals x ps with e | e | e
    · rw [e, if_neg (by decide)] at hR1
      obtain ⟨s2, k2⟩ := hput (.int .i64 0) { x with mt := 0 } rfl (stV_mt S x _ 0) rfl s1.hok (.inr (.inl rfl)) (by simp)
      have hg := hR1 _ _ _ _ s2 hlen.symm k2 (fun y hy => .inl hy)
      have c12' := c12
      rw [hm] at c12'
      rw [e] at hop1
      have hs0 := fun w => hsh 0 w
      clear hR1 s1 s2 k2 hput c12 hv12 hm e hsh
      go_enter Try.func23, Try.ntmps23
      go_wp2_with fail
      refine hop1 _ ?_
      clear hop1
      go_wp2_with fail
      refine hs0 _ _ ?_
      go_wp2_with fail
      exact hg
    · rw [e, if_neg (by decide)] at hR1
      obtain ⟨s2, k2⟩ := hput (.int .i64 1) { x with mt := 1 } rfl (stV_mt S x _ 1) rfl s1.hok (.inr (.inr (.inl rfl))) (fun _ => opens_one e)
      have hg := hR1 _ _ _ _ s2 hlen.symm k2 (fun y hy => .inl hy)
      have c12' := c12
      rw [hm] at c12'
      rw [e] at hop1
      have hs0 := fun w => hsh 1 w
      clear hR1 s1 s2 k2 hput c12 hv12 hm e hsh
      go_enter Try.func23, Try.ntmps23
      go_wp2_with fail
      refine hop1 _ ?_
      clear hop1
      go_wp2_with fail
      refine hs0 _ _ ?_
      go_wp2_with fail
      exact hg
    · rw [e, if_pos rfl] at hR1
      obtain ⟨s2, k2⟩ := hput (.int .i64 (-1)) { x with mt := -1 } rfl (stV_mt S x _ (-1)) rfl s1.hok (.inl rfl) (by simp)
      have hg := hR1 _ k2
      have c12' := c12
      rw [hm] at c12'
      rw [e] at hop1
      clear hR1 s1 s2 k2 hput c12 hv12 hm e hsh
      go_enter Try.func23, Try.ntmps23
      go_wp2_with fail
      refine hop1 _ ?_
      clear hop1
      go_wp2_with fail
      exact hg
  · have hl : looseS S x ⟨kd, ps, ot, fi, co, dat⟩ = none := if_pos hm
    rw [hl] at hR1
    have hg := hR1 _ (Keep.refl _ _)
    have d1 : (x.mt != -1) = true := by simpa using hm
    have d0 : (x.mt == -1) = false := by simpa using hm
    clear hl hR1 s1 hcr1 hch1 hop1 hop2 hm
    go_enter Try.func23, Try.ntmps23
    go_wp2_with fail
    exact hg
end Go.Proofs.Ytgchbcopbkoomaa
