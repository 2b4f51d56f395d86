/- A story is turned: another password. -/
import Derived.Test.YtgchbcopbkoomaaSt25
namespace Go.Proofs.Ytgchbcopbkoomaa
open Go Go.RowKit

/-- What a step of the story leaves. -/
def StepR (R : Ending → World → Prop) (w : World) (p S : Nat) (wo : Option Addr) (res : Option (Int × Sy)) : Prop := match res with
  | none => ∀ w', Keep (p :: blk wo) w w' → R (.returned (.int .i64 4)) w'
  | some (k, x') => ∀ (wo' : Option Addr) (wn' wc' : Nat) (w' : World), Sto w' p S x' wo' wn' wc' → wn' = x'.wr.length → Keep (p :: blk wo) w w' → (∀ y ∈ blk wo', y ∈ blk wo ∨ w.heap.size ≤ y) → R (.returned (.int .i64 k)) w'
theorem StepR.grow {R : Ending → World → Prop} {w w' : World} {p S : Nat} {wo : Option Addr} {res : Option (Int × Sy)} (h : StepR R w p S wo res) (g : Grow w w') : StepR R w' p S wo res := by
  cases res with
  | none => exact fun w2 k => h w2 ((Keep.of_grow _ g).trans k)
  | some r =>
    obtain ⟨k, x'⟩ := r
    exact fun wo' wn' wc' w2 s hl k2 inn => h wo' wn' wc' w2 s hl ((Keep.of_grow _ g).trans k2) (fun y hy => (inn y hy).imp id fun h => Nat.le_trans g.size h)
/-- A command's cells. -/
def cmV (c : CmX) (dv : Value) : Array Value := #[.int .i64 c.kind, .string (str c.pass), .string (str c.other), .int .i64 c.first, .int .i64 c.count, dv]

/-- A cell of the story is turned. -/
theorem Sto.put {w : World} {p S : Nat} {x : Sy} {wo : Option Addr} {wn wc : Nat} (s : Sto w p S x wo wn wc) (i : Nat) (hi : i < 15) : (∃ v, w.cell? ⟨p, i, none⟩ = some v) ∧ w.frozen? ⟨p, i, none⟩ = false ∧
    ∀ (u : Value) (x' : Sy), u.oneCell' = true → (stV S x (.slice wo wn wc)).set i u = stV S x' (.slice wo wn wc) → x'.wr = x.wr → (∀ h, x'.hid = some h → h.area.ok ∧ h.data.ok) → (x'.mt = -1 ∨ x'.mt = 0 ∨ x'.mt = 1 ∨ x'.mt = 2) → (x'.mt = 1 → x'.hid ≠ none) →
      Sto (w.setCell ⟨p, i, none⟩ u) p S x' wo wn wc ∧ Keep (p :: blk wo) w (w.setCell ⟨p, i, none⟩ u) := by
  obtain ⟨_, v, e, hv, hf, hp⟩ := own_put s.st (i := i) (by omega)
  cases e
  refine ⟨⟨v, hv⟩, hf, fun u x' hu hx hw hh hm hmh => ?_⟩
  have k : Keep [p] w (w.setCell ⟨p, i, none⟩ u) := Keep.setCell w ⟨p, i, none⟩ (by simp) u
  refine ⟨{ st := by rw [← hx]; exact hp u hu, wr := by rw [hw]; exact s.wr.keep k (fun y hy hm => by simp at hm; subst hm; exact s.ne hy), ne := s.ne, hok := hh, wok := by rw [hw]; exact s.wok, mt := hm, mh := hmh, len := by rw [hw]; exact s.len }, k.mono (by simp)⟩
theorem stV_pass (S : Nat) (x : Sy) (wv : Value) (o : List UInt8) (pw : List UInt8) (h : x.out = some o) : (stV S x wv).set 1 (.string (str pw)) = stV S { x with out := some pw } wv := by
  unfold stV; rw [h]; rfl
theorem stV_hpass (S : Nat) (x : Sy) (wv : Value) (h : Hd) (pw : List UInt8) (hh : x.hid = some h) : (stV S x wv).set 7 (.string (str pw)) = stV S { x with hid := x.hid.map fun h => { h with pass := pw } } wv := by
  unfold stV
  rw [List.set_append_right _ _ (by rw [outV_len]; omega), outV_len, hh]
  rfl
theorem stV_mt (S : Nat) (x : Sy) (wv : Value) (m : Int) : (stV S x wv).set 12 (.int .i64 m) = stV S { x with mt := m } wv := by
  unfold stV
  rw [List.set_append_right _ _ (by rw [outV_len]; omega), outV_len, List.set_append_right _ _ (by rw [hidV_len]; omega), hidV_len]
  rfl
theorem stV_trip (S : Nat) (x : Sy) (wv : Value) (b : Bool) : (stV S x wv).set 13 (.bool b) = stV S { x with trip := b } wv := by
  unfold stV
  rw [List.set_append_right _ _ (by rw [outV_len]; omega), outV_len, List.set_append_right _ _ (by rw [hidV_len]; omega), hidV_len]
  rfl

set_option maxRecDepth 100000 in
set_option maxHeartbeats 4000000 in
theorem changeC {p S : Nat} {x : Sy} {wo : Option Addr} {wn wc : Nat} (c : CmX) (dv : Value) (hx : x.out ≠ none) (w : World) (st : Sto w p S x wo wn wc) (R : Ending → World → Prop) (hR : StepR R w p S wo (changeS x c)) :
    Calls Try.prog 28 #[.pointer (some ⟨p, 0, none⟩), .agg (cmV c dv)] w R := by
  unfold cmV
  have ga := Grow.alloc w (.cells #[.int .i64 c.kind, .string (str c.pass), .string (str c.other), .int .i64 c.first, .int .i64 c.count, dv] 39)
  have s1 := st.grow ga
  have ho1 := opensC c.pass _ s1
  have ho2 := opensC c.other _ s1
  have hR1 := hR.grow ga
  have o1 := alloc_new w (.cells #[.int .i64 c.kind, .string (str c.pass), .string (str c.other), .int .i64 c.first, .int .i64 c.count, dv] 39)
  have c1 := obj_cell o1 1 rfl
  have c2 := obj_cell o1 2 rfl
  have hsh := shadeC
  have hlen := st.len
  clear o1 hR ga st
  rcases opens_vals x c.pass with e | e | e
  · rcases opens_vals x c.other with e2 | e2 | e2
    · have e3 : changeS x c = none := by unfold changeS; rw [e, e2]; rfl
      rw [e3] at hR1
      clear e3
      have hg := hR1 _ (Keep.refl _ _)
      rw [e] at ho1
      rw [e2] at ho2
      clear hR1 s1
      go_enter Try.func28, Try.ntmps28
      go_wp2_with fail
      refine ho1 _ ?_
      clear ho1
      go_wp2_with fail
      refine ho2 _ ?_
      clear ho2
      go_wp2_with fail
      exact hg
    · have e3 : changeS x c = none := by unfold changeS; rw [e, e2]; rfl
      rw [e3] at hR1
      clear e3
      have hg := hR1 _ (Keep.refl _ _)
      rw [e] at ho1
      rw [e2] at ho2
      clear hR1 s1
      go_enter Try.func28, Try.ntmps28
      go_wp2_with fail
      refine ho1 _ ?_
      clear ho1
      go_wp2_with fail
      refine ho2 _ ?_
      clear ho2
      go_wp2_with fail
      exact hg
    · have e3 : changeS x c = some (1, { x with out := some c.other }) := by unfold changeS; rw [e, e2]; rfl
      rw [e3] at hR1
      clear e3
      obtain ⟨o, ho⟩ : ∃ o, x.out = some o := by
        cases h : x.out with
        | none => exact absurd h hx
        | some o => exact ⟨o, rfl⟩
      obtain ⟨⟨v, hv⟩, hfz, hput⟩ := s1.put 1 (by omega)
      obtain ⟨s2, k2⟩ := hput (.string (str c.other)) { x with out := some c.other } rfl (stV_pass S x _ o c.other ho) rfl s1.hok s1.mt s1.mh
      have hg := hR1 _ _ _ _ s2 hlen.symm k2 (fun y hy => .inl hy)
      rw [e] at ho1
      rw [e2] at ho2
      clear hput hR1 s1 s2 k2 ho
      go_enter Try.func28, Try.ntmps28
      go_wp2_with fail
      refine ho1 _ ?_
      clear ho1
      go_wp2_with fail
      refine ho2 _ ?_
      clear ho2
      go_wp2_with fail
      refine hsh _ _ _ ?_
      go_wp2_with fail
      exact hg
  · rcases opens_vals x c.other with e2 | e2 | e2
    · have e3 : changeS x c = none := by unfold changeS; rw [e, e2]; rfl
      rw [e3] at hR1
      clear e3
      have hg := hR1 _ (Keep.refl _ _)
      rw [e] at ho1
      rw [e2] at ho2
      clear hR1 s1
      go_enter Try.func28, Try.ntmps28
      go_wp2_with fail
      refine ho1 _ ?_
      clear ho1
      go_wp2_with fail
      refine ho2 _ ?_
      clear ho2
      go_wp2_with fail
      exact hg
    · have e3 : changeS x c = none := by unfold changeS; rw [e, e2]; rfl
      rw [e3] at hR1
      clear e3
      have hg := hR1 _ (Keep.refl _ _)
      rw [e] at ho1
      rw [e2] at ho2
      clear hR1 s1
      go_enter Try.func28, Try.ntmps28
      go_wp2_with fail
      refine ho1 _ ?_
      clear ho1
      go_wp2_with fail
      refine ho2 _ ?_
      clear ho2
      go_wp2_with fail
      exact hg
    · have e3 : changeS x c = some (2, { x with hid := x.hid.map fun h => { h with pass := c.other } }) := by unfold changeS; rw [e, e2]; rfl
      rw [e3] at hR1
      clear e3
      obtain ⟨h, hh⟩ : ∃ h, x.hid = some h := by
        cases h0 : x.hid with
        | none => unfold Sy.opens at e; rw [h0] at e; split at e <;> cases e
        | some h => exact ⟨h, rfl⟩
      obtain ⟨⟨v, hv⟩, hfz, hput⟩ := s1.put 7 (by omega)
      obtain ⟨s2, k2⟩ := hput (.string (str c.other)) { x with hid := x.hid.map fun h => { h with pass := c.other } } rfl (stV_hpass S x _ h c.other hh) rfl (fun h' e' => by rw [hh] at e'; cases e'; exact s1.hok h hh) s1.mt (fun e' => by rw [hh]; simp)
      have hg := hR1 _ _ _ _ s2 hlen.symm k2 (fun y hy => .inl hy)
      rw [e] at ho1
      rw [e2] at ho2
      clear hput hR1 s1 s2 k2 hh
      go_enter Try.func28, Try.ntmps28
      go_wp2_with fail
      refine ho1 _ ?_
      clear ho1
      go_wp2_with fail
      refine ho2 _ ?_
      clear ho2
      go_wp2_with fail
      refine hsh _ _ _ ?_
      go_wp2_with fail
      exact hg
  · have e3 : changeS x c = none := by unfold changeS; rw [e]; rfl
    rw [e3] at hR1
    clear e3
    have hg := hR1 _ (Keep.refl _ _)
    rw [e] at ho1
    clear hR1 s1 ho2
    go_enter Try.func28, Try.ntmps28
    go_wp2_with fail
    refine ho1 _ ?_
    clear ho1
    go_wp2_with fail
    exact hg
end Go.Proofs.Ytgchbcopbkoomaa
