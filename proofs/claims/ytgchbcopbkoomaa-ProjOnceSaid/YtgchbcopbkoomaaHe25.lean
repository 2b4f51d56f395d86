/- A story is turned: a step while something is mounted. -/
import Derived.Test.YtgchbcopbkoomaaWr25
namespace Go.Proofs.Ytgchbcopbkoomaa
open Go Go.RowKit

theorem StepR.mono {R R' : Ending → World → Prop} {w : World} {p S : Nat} {wo : Option Addr} {res : Option (Int × Sy)} (h : StepR R w p S wo res) (hm : ∀ (k : Int) (w' : World), R (.returned (.int .i64 k)) w' → R' (.returned (.int .i64 k)) w') : StepR R' w p S wo res := by
  cases res with
  | none => exact fun w2 k => hm _ _ (h w2 k)
  | some r =>
    obtain ⟨k, x'⟩ := r
    exact fun wo' wn' wc' w2 s hl k2 inn => hm _ _ (h wo' wn' wc' w2 s hl k2 inn)
set_option maxRecDepth 100000 in
set_option maxHeartbeats 8000000 in
theorem heldC {p S : Nat} {x : Sy} {wo : Option Addr} {wn wc : Nat} (hS : S ≤ 300) (c : CmX) (da : Option Addr) (dc : Nat) (hdl : c.data.length ≤ 1000000) (hn : wn ≤ 10000) (hx : x.out ≠ none) (w : World) (st : Sto w p S x wo wn wc) (R : Ending → World → Prop) (hR : StepR R w p S wo (heldS S x c)) :
    Calls Try.prog 24 #[.pointer (some ⟨p, 0, none⟩), .agg (cmV c (.slice da c.data.length dc))] w R := by
  have hwr := fun w (hm : x.mt ≠ -1) (st : Sto w p S x wo wn wc) => writeC hS c da dc hdl hn hx hm w st
  obtain ⟨kd, ps, ot, fi, co, dat⟩ := c
  simp only [cmV] at hwr hdl ⊢
  have hml : maxLen = 9223372036854775807 := rfl
  have ga := Grow.alloc w (.cells #[.int .i64 kd, .string (str ps), .string (str ot), .int .i64 fi, .int .i64 co, .slice da dat.length dc] 39)
  have s1 := st.grow ga
  have hR1 := hR.grow ga
  have o1 := alloc_new w (.cells #[.int .i64 kd, .string (str ps), .string (str ot), .int .i64 fi, .int .i64 co, .slice da dat.length dc] 39)
  have q0 := obj_cell o1 0 rfl
  have q3 := obj_cell o1 3 rfl
  have q4 := obj_cell o1 4 rfl
  have hwi := withinC hS hx fi co _ s1
  have hsh := shadeC
  have c12 := s1.cell (i := 12) (stV_end S x _ 0)
  have hlen := st.len
  have hmts := st.mt
  clear o1 hR ga st
  by_cases hm : x.mt = -1
  · have e : heldS S x ⟨kd, ps, ot, fi, co, dat⟩ = none := if_pos hm
    rw [e] at hR1
    have hg := hR1 _ (Keep.refl _ _)
    rw [hm] at c12
    clear e hR1 s1 hwr hwi q0 q3 q4 hm hmts
    go_enter Try.func24, Try.ntmps24
    go_wp2_with fail
    exact hg
  · have hmd : (x.mt == -1) = false := by simpa using hm
    have hh : heldS S x ⟨kd, ps, ot, fi, co, dat⟩ = if kd = 5 then (if x.within S fi co = true then some (shadeS x.mt, x) else none) else if kd = 6 then writeS S x ⟨kd, ps, ot, fi, co, dat⟩ else if kd = 8 then some (shadeS x.mt, { x with mt := -1, trip := false }) else some (shadeS x.mt, x) := if_neg hm
    rw [hh] at hR1
    have hW2 := hwr _ hm s1
    clear hh hwr
    obtain ⟨sh, hshe⟩ : ∃ sh, sh = shadeS x.mt := ⟨_, rfl⟩
    have hsh2 := fun w => hsh x.mt w
    rw [← hshe] at hR1
    simp only [← hshe] at hsh2
    obtain ⟨⟨v12, hv12⟩, hf12, hput⟩ := s1.put 12 (by omega)
    clear hshe hsh hm
    by_cases h5 : kd = 5
    · rw [if_pos h5] at hR1
      subst h5
      obtain ⟨b, hb⟩ : ∃ b, b = x.within S fi co := ⟨_, rfl⟩
      rw [← hb] at hR1 hwi
      clear hb hput hW2 hv12 hf12
      cases b with
      | true =>
        rw [if_pos rfl] at hR1
        have hg := hR1 _ _ _ _ s1 hlen.symm (Keep.refl _ _) (fun y hy => .inl hy)
        clear hR1 s1
        go_enter Try.func24, Try.ntmps24
        go_wp2_with fail
        refine hsh2 _ _ ?_
        go_wp2_with fail
        refine hwi _ ?_
        go_wp2_with fail
        exact hg
      | false =>
        rw [if_neg (by simp)] at hR1
        have hg := hR1 _ (Keep.refl _ _)
        clear hR1 s1
        go_enter Try.func24, Try.ntmps24
        go_wp2_with fail
        refine hsh2 _ _ ?_
        go_wp2_with fail
        refine hwi _ ?_
        go_wp2_with fail
        exact hg
    · have h5d : (kd == 5) = false := by simpa using h5
      rw [if_neg h5] at hR1
      by_cases h6 : kd = 6
      · rw [if_pos h6] at hR1
        subst h6
        clear s1 hput hwi hv12 hf12
        go_enter Try.func24, Try.ntmps24
        go_wp2_with fail
        refine hsh2 _ _ ?_
        go_wp2_with fail
        refine hW2 _ (hR1.mono fun k w' hg => ?_)
        clear hW2 hR1
        go_wp2_with fail
        exact hg
      · have h6d : (kd == 6) = false := by simpa using h6
        rw [if_neg h6] at hR1
        clear hW2 hwi
        by_cases h8 : kd = 8
        · rw [if_pos h8] at hR1
          subst h8
          obtain ⟨s2, k2⟩ := hput (.int .i64 (-1)) { x with mt := -1 } rfl (stV_mt S x _ (-1)) rfl s1.hok (.inl rfl) (by simp)
          obtain ⟨⟨v13, hv13⟩, hf13, hput3⟩ := s2.put 13 (by omega)
          obtain ⟨s3, k3⟩ := hput3 (.bool false) { x with mt := -1, trip := false } rfl (stV_trip S _ _ false) rfl s1.hok (.inl rfl) (by simp)
          have hg := hR1 _ _ _ _ s3 hlen.symm (k2.trans k3) (fun y hy => .inl hy)
          clear hR1 s1 hput hput3 s2 k2 s3 k3
          go_enter Try.func24, Try.ntmps24
          go_wp2_with fail
          refine hsh2 _ _ ?_
          go_wp2_with fail
          exact hg
        · have h8d : (kd == 8) = false := by simpa using h8
          rw [if_neg h8] at hR1
          have hg := hR1 _ _ _ _ s1 hlen.symm (Keep.refl _ _) (fun y hy => .inl hy)
          clear hR1 s1 hput hv12 hf12
          go_enter Try.func24, Try.ntmps24
          go_wp2_with fail
          refine hsh2 _ _ ?_
          go_wp2_with fail
          exact hg
end Go.Proofs.Ytgchbcopbkoomaa
