/- The ideal cipher: Encrypt, Decrypt. -/
import Derived.Test.YtfmnkcmicbnfdaaIdlG
namespace Go.Proofs.Ytfmnkcmicbnfdaa
open Go Go.RowKit

abbrev Prs := List (B16 × B16)
def absI (l : List Ent) : List (Pla × (Prs × Prs)) := l.map fun e => (e.k, (e.fl, e.bl))
theorem look_abs (x : Pla) : ∀ l : List Ent, look x (entP l) = none → look x (absI l) = none
  | [], _ => rfl
  | e :: l, h => by
    rw [show entP (e :: l) = (e.k, (e.f, e.b)) :: entP l from rfl, look_cons] at h
    rw [show absI (e :: l) = (e.k, (e.fl, e.bl)) :: absI l from rfl, look_cons]
    split at h
    · cases h
    · rename_i hk
      rw [if_neg hk]
      exact look_abs x l h
theorem look_mid {α β : Type} [DecidableEq α] (x : α) (v : β) (l2 : List (α × β)) : ∀ l1 : List (α × β), look x l1 = none → look x (l1 ++ (x, v) :: l2) = some v
  | [], _ => by rw [List.nil_append, look_cons, if_pos rfl]
  | p :: l1, h => by
    rw [look_cons] at h
    rw [List.cons_append, look_cons]
    split at h
    · cases h
    · rename_i hk
      rw [if_neg hk]
      exact look_mid x v l2 l1 h
theorem put_mid {α β : Type} [DecidableEq α] (x : α) (v u : β) (l2 : List (α × β)) : ∀ l1 : List (α × β), look x l1 = none → putM x u (l1 ++ (x, v) :: l2) = l1 ++ (x, u) :: l2
  | [], _ => by rw [List.nil_append, putM, if_pos rfl]; rfl
  | p :: l1, h => by
    rw [look_cons] at h
    rw [List.cons_append, putM]
    split at h
    · cases h
    · rename_i hk
      rw [if_neg hk, put_mid x v u l2 l1 h]
      rfl

/-- What there is after the place was asked for. -/
def AtSt (w : World) (p t P K : Nat) (wf rb : List Nat) (bs : List UInt8) (at_ : Nat) (l : List Ent) (ks : List Kv) (cnt ag : Nat) (x : Pla) (f b : Nat) (w' : World) : Prop :=
  ∃ l1 e l2, e.f = f ∧ e.b = b ∧ e.k = x ∧ look x (entP l1) = none ∧ Ci w' p t P K wf rb bs at_ (l1 ++ e :: l2) ks cnt ag ∧ (look x (absI l)).getD ([], []) = (e.fl, e.bl) ∧ absI (l1 ++ e :: l2) = putM x (e.fl, e.bl) (absI l) ∧ Keep [P] w w' ∧
    (∀ g ∈ fpI p P K wf (l1 ++ e :: l2), g ∈ fpI p P K wf l ∨ w.heap.size ≤ g)
theorem atC {w : World} {p t P K : Nat} {wf rb : List Nat} {bs : List UInt8} {at_ : Nat} {l : List Ent} {ks : List Kv} {cnt ag : Nat} (h : Ci w p t P K wf rb bs at_ l ks cnt ag) (x : Pla)
    (R : Ending → World → Prop) (hR : ∀ f b w', AtSt w p t P K wf rb bs at_ l ks cnt ag x f b w' → R (.returned (.agg (prV f b).toArray)) w') :
    Calls Try.prog 56 #[.pointer (some ⟨p, 0, none⟩), .string x.key, .int .i64 x.unit, .int .i64 x.i] w R := by
  cases hl : look x (entP l) with
  | some v =>
    obtain ⟨f, b⟩ := v
    obtain ⟨l1, e, l2, rfl, h1, h2, h3, h4⟩ := entP_split hl
    refine atOld h x f b hl R fun w' g => hR f b w' ⟨l1, e, l2, h2, h3, h1, h4, h.grow g, ?_, ?_, Keep.of_grow _ g, fun g hg => .inl hg⟩
    · have : absI (l1 ++ e :: l2) = absI l1 ++ (x, (e.fl, e.bl)) :: absI l2 := by simp [absI, h1]
      rw [this, look_mid x _ _ _ (look_abs x l1 h4)]
      rfl
    · have : absI (l1 ++ e :: l2) = absI l1 ++ (x, (e.fl, e.bl)) :: absI l2 := by simp [absI, h1]
      rw [this, put_mid x _ _ _ _ (look_abs x l1 h4)]
  | none =>
    refine atNew h x hl R fun f b w' hC k hf hb => hR f b w' ⟨l, ⟨x, f, b, [], []⟩, [], rfl, rfl, rfl, hl, hC, ?_, ?_, k, fun g hg => ?_⟩
    · rw [look_abs x l hl]; rfl
    · rw [putM_new x _ _ (look_abs x l hl)]
      simp [absI]
    · simp only [fpI, List.flatMap_append, List.flatMap_cons, List.flatMap_nil, List.append_nil, List.mem_cons, List.mem_append, List.not_mem_nil, or_false] at hg ⊢
      rcases hg with h1 | h1 | h1 | h1 | h1 | h1 | h1
      · exact .inl (.inl h1)
      · exact .inl (.inr (.inl h1))
      · exact .inl (.inr (.inr (.inl h1)))
      · exact .inl (.inr (.inr (.inr (.inl h1))))
      · exact .inl (.inr (.inr (.inr (.inr h1))))
      · right; omega
      · right; omega


set_option maxRecDepth 100000 in
set_option maxHeartbeats 1000000 in
theorem encrypt3 (p : Nat) (x : Pla) {c1 c5 c6 c7 c8 c9 c10 c11 c12 c13 c14 c15 c16 c17 c18 c19 c20 c21 c22 c23 c24 c25 c26 c27 c28 c29 c30 c31 c32 : Value} (w : World) (St : Nat → Nat → World → Prop) (hc : ∀ R : Ending → World → Prop, (∀ f b w', St f b w' → R (.returned (.agg (prV f b).toArray)) w') → Calls Try.prog 56 #[.pointer (some ⟨p, 0, none⟩), .string x.key, .int .i64 x.unit, .int .i64 x.i] w R) {Q : Exit → Act → World → Prop}
    (hQ : ∀ (f b : Nat) (w' : World) (q : Nat) (w2 : World), St f b w' → Own w2 105 1 (some ⟨q, 0, none⟩) 2 2 (prV f b) → Grow w' w2 → w'.heap.size ≤ q → ∀ {u18 u19 u20 u21 u22 : Value}, Q .normal ⟨List.toArray (.pointer (some ⟨p, 0, none⟩) :: c1 :: .string x.key :: .int .i64 x.unit :: .int .i64 x.i :: c5 :: c6 :: c7 :: c8 :: c9 :: c10 :: c11 :: c12 :: c13 :: .pointer (some ⟨q, 0, none⟩) :: c15 :: c16 :: c17 :: u18 :: u19 :: u20 :: u21 :: u22 :: c23 :: c24 :: c25 :: c26 :: c27 :: c28 :: c29 :: c30 :: c31 :: c32 :: []), []⟩ w2) :
    Code.wp Try.prog (regionAt Try.f18 3) Q ⟨List.toArray (.pointer (some ⟨p, 0, none⟩) :: c1 :: .string x.key :: .int .i64 x.unit :: .int .i64 x.i :: c5 :: c6 :: c7 :: c8 :: c9 :: c10 :: c11 :: c12 :: c13 :: c14 :: c15 :: c16 :: c17 :: c18 :: c19 :: c20 :: c21 :: c22 :: c23 :: c24 :: c25 :: c26 :: c27 :: c28 :: c29 :: c30 :: c31 :: c32 :: []), []⟩ w := by
  have hml : maxLen = 9223372036854775807 := rfl
  conv => arg 2; whnf
  go_wp2_with fail
  refine hc _ ?_
  clear hc
  intro f b w2 hS
  obtain ⟨o9, ga1, th1, al1⟩ := newvarY (t := 105) (n := 2) w2 prZ rfl prZ_one (by omega) (F := prV f b) rfl (prV_one f b)
  have hszF : (Try.prog.info? 105).map (·.size) = some (prV f b).toArray.size := i2
  have hf := @hQ f b w2 _ _ hS o9 ga1 (Nat.le_refl _)
  clear hQ o9 ga1
  go_wp2_with (refine wpList_store_mid rfl 105 _ _ rfl w2.heap.size 0 (prV f b).toArray rfl rfl th1 hszF al1 ?_)
  exact hf


set_option maxRecDepth 100000 in
set_option maxHeartbeats 1000000 in
theorem encrypt4 (p q11 q12 q14 F G : Nat) (what : ByteArray) (x : B16) (Z : List Value) {c2 c3 c4 c5 c6 c7 c8 c9 c10 c13 c15 c16 c17 c18 c19 c20 c21 c22 c23 c24 c25 c26 c27 c28 c29 c30 c31 c32 : Value} (w : World) (o11 : Own w 33 1 (some ⟨q11, 0, none⟩) 16 16 (x.b.map B)) (o14 : Own w 105 1 (some ⟨q14, 0, none⟩) 2 2 (prV F G))
    (St : B16 → Int → World → Prop) (hSt : ∀ y e w', St y e w' → Own w' 33 1 (some ⟨q12, 0, none⟩) 16 16 Z)
    (hc : ∀ R : Ending → World → Prop, (∀ y e w', St y e w' → R (.returned (.tuple #[ekB y, .int .i64 e])) w') → Calls Try.prog 57 #[.pointer (some ⟨p, 0, none⟩), .string what, ekB x, .map (some F), .map (some G)] w R) {Q : Exit → Act → World → Prop}
    (hQ : ∀ (y : B16) (e : Int) (w' w2 : World), St y e w' → Own w2 33 1 (some ⟨q12, 0, none⟩) 16 16 (y.b.map B) → Keep [q12] w' w2 → ∀ {u23 u24 u25 u26 u27 u28 u29 u30 u31 u32 : Value}, Q .normal ⟨List.toArray (.pointer (some ⟨p, 0, none⟩) :: .string what :: c2 :: c3 :: c4 :: c5 :: c6 :: c7 :: c8 :: c9 :: c10 :: .pointer (some ⟨q11, 0, none⟩) :: .pointer (some ⟨q12, 0, none⟩) :: .int .i64 e :: .pointer (some ⟨q14, 0, none⟩) :: c15 :: c16 :: c17 :: c18 :: c19 :: c20 :: c21 :: c22 :: u23 :: u24 :: u25 :: u26 :: u27 :: u28 :: u29 :: u30 :: u31 :: u32 :: []), []⟩ w2) :
    Code.wp Try.prog (regionAt Try.f18 4) Q ⟨List.toArray (.pointer (some ⟨p, 0, none⟩) :: .string what :: c2 :: c3 :: c4 :: c5 :: c6 :: c7 :: c8 :: c9 :: c10 :: .pointer (some ⟨q11, 0, none⟩) :: .pointer (some ⟨q12, 0, none⟩) :: c13 :: .pointer (some ⟨q14, 0, none⟩) :: c15 :: c16 :: c17 :: c18 :: c19 :: c20 :: c21 :: c22 :: c23 :: c24 :: c25 :: c26 :: c27 :: c28 :: c29 :: c30 :: c31 :: c32 :: []), []⟩ w := by
  have hml : maxLen = 9223372036854775807 := rfl
  have hrg := own_range o11 (by omega)
  have hsX : (Try.prog.info? 33).map (·.size) = some (x.b.map B).length := by rw [List.length_map, x.h]; exact i16
  have hp := own_cells4 o14 (by omega)
  have e0 := hp.at (i := 0) rfl
  have e1 := hp.at (i := 1) rfl
  simp only [Nat.zero_add] at e0 e1
  unfold ekB at hc
  obtain ⟨X, hX⟩ : ∃ X, X = x.b.map B := ⟨_, rfl⟩
  rw [← hX] at hrg hsX
  simp only [← hX] at hc
  clear hp o14 o11 hX
  conv => arg 2; whnf
  go_wp2_with (refine wpList_load_mid rfl 33 _ rfl q11 0 rfl X _ hrg Try.underlying33 rfl hsX ?_)
  refine hc _ ?_
  clear hc hrg hsX e0 e1
  intro y e w2 hS
  have o12 := hSt y e w2 hS
  have hyl : (y.b.map B).length = 16 := by rw [List.length_map]; exact y.h
  have hy1 := B_one y.b
  obtain ⟨r1, r3, r4⟩ := store_arr (P := Try.prog) hyl hy1 o12 i16
  have hth := own_there o12 (y.b.map B).toArray.size (by simpa using hyl)
  have hsz : (Try.prog.info? 33).map (·.size) = some (y.b.map B).toArray.size := by rw [List.size_toArray, hyl]; exact i16
  have hall := one_all hy1
  have hf := @hQ y e w2 _ hS r3 r4
  clear r1 r3 r4 o12 hQ hSt hS
  obtain ⟨Y, hY⟩ : ∃ X, X = y.b.map B := ⟨_, rfl⟩
  rw [← hY] at hth hsz hall hf ⊢
  clear hY hy1 hyl
  go_wp2_with (refine wpList_store_mid rfl 33 _ _ rfl q12 0 Y.toArray rfl rfl hth hsz hall ?_)
  exact hf


set_option maxRecDepth 100000 in
set_option maxHeartbeats 1000000 in
theorem decrypt3 (p : Nat) (x : Pla) {c1 c5 c6 c7 c8 c9 c10 c11 c12 c13 c14 c15 c16 c17 c18 c19 c20 c21 c22 c23 c24 c25 c26 c27 c28 c29 c30 c31 c32 : Value} (w : World) (St : Nat → Nat → World → Prop) (hc : ∀ R : Ending → World → Prop, (∀ f b w', St f b w' → R (.returned (.agg (prV f b).toArray)) w') → Calls Try.prog 56 #[.pointer (some ⟨p, 0, none⟩), .string x.key, .int .i64 x.unit, .int .i64 x.i] w R) {Q : Exit → Act → World → Prop}
    (hQ : ∀ (f b : Nat) (w' : World) (q : Nat) (w2 : World), St f b w' → Own w2 105 1 (some ⟨q, 0, none⟩) 2 2 (prV f b) → Grow w' w2 → w'.heap.size ≤ q → ∀ {u18 u19 u20 u21 u22 : Value}, Q .normal ⟨List.toArray (.pointer (some ⟨p, 0, none⟩) :: c1 :: .string x.key :: .int .i64 x.unit :: .int .i64 x.i :: c5 :: c6 :: c7 :: c8 :: c9 :: c10 :: c11 :: c12 :: c13 :: .pointer (some ⟨q, 0, none⟩) :: c15 :: c16 :: c17 :: u18 :: u19 :: u20 :: u21 :: u22 :: c23 :: c24 :: c25 :: c26 :: c27 :: c28 :: c29 :: c30 :: c31 :: c32 :: []), []⟩ w2) :
    Code.wp Try.prog (regionAt Try.f21 3) Q ⟨List.toArray (.pointer (some ⟨p, 0, none⟩) :: c1 :: .string x.key :: .int .i64 x.unit :: .int .i64 x.i :: c5 :: c6 :: c7 :: c8 :: c9 :: c10 :: c11 :: c12 :: c13 :: c14 :: c15 :: c16 :: c17 :: c18 :: c19 :: c20 :: c21 :: c22 :: c23 :: c24 :: c25 :: c26 :: c27 :: c28 :: c29 :: c30 :: c31 :: c32 :: []), []⟩ w := by
  have hml : maxLen = 9223372036854775807 := rfl
  conv => arg 2; whnf
  go_wp2_with fail
  refine hc _ ?_
  clear hc
  intro f b w2 hS
  obtain ⟨o9, ga1, th1, al1⟩ := newvarY (t := 105) (n := 2) w2 prZ rfl prZ_one (by omega) (F := prV f b) rfl (prV_one f b)
  have hszF : (Try.prog.info? 105).map (·.size) = some (prV f b).toArray.size := i2
  have hf := @hQ f b w2 _ _ hS o9 ga1 (Nat.le_refl _)
  clear hQ o9 ga1
  go_wp2_with (refine wpList_store_mid rfl 105 _ _ rfl w2.heap.size 0 (prV f b).toArray rfl rfl th1 hszF al1 ?_)
  exact hf


set_option maxRecDepth 100000 in
set_option maxHeartbeats 1000000 in
theorem decrypt4 (p q11 q12 q14 F G : Nat) (what : ByteArray) (x : B16) (Z : List Value) {c2 c3 c4 c5 c6 c7 c8 c9 c10 c13 c15 c16 c17 c18 c19 c20 c21 c22 c23 c24 c25 c26 c27 c28 c29 c30 c31 c32 : Value} (w : World) (o11 : Own w 33 1 (some ⟨q11, 0, none⟩) 16 16 (x.b.map B)) (o14 : Own w 105 1 (some ⟨q14, 0, none⟩) 2 2 (prV F G))
    (St : B16 → Int → World → Prop) (hSt : ∀ y e w', St y e w' → Own w' 33 1 (some ⟨q12, 0, none⟩) 16 16 Z)
    (hc : ∀ R : Ending → World → Prop, (∀ y e w', St y e w' → R (.returned (.tuple #[ekB y, .int .i64 e])) w') → Calls Try.prog 57 #[.pointer (some ⟨p, 0, none⟩), .string what, ekB x, .map (some G), .map (some F)] w R) {Q : Exit → Act → World → Prop}
    (hQ : ∀ (y : B16) (e : Int) (w' w2 : World), St y e w' → Own w2 33 1 (some ⟨q12, 0, none⟩) 16 16 (y.b.map B) → Keep [q12] w' w2 → ∀ {u23 u24 u25 u26 u27 u28 u29 u30 u31 u32 : Value}, Q .normal ⟨List.toArray (.pointer (some ⟨p, 0, none⟩) :: .string what :: c2 :: c3 :: c4 :: c5 :: c6 :: c7 :: c8 :: c9 :: c10 :: .pointer (some ⟨q11, 0, none⟩) :: .pointer (some ⟨q12, 0, none⟩) :: .int .i64 e :: .pointer (some ⟨q14, 0, none⟩) :: c15 :: c16 :: c17 :: c18 :: c19 :: c20 :: c21 :: c22 :: u23 :: u24 :: u25 :: u26 :: u27 :: u28 :: u29 :: u30 :: u31 :: u32 :: []), []⟩ w2) :
    Code.wp Try.prog (regionAt Try.f21 4) Q ⟨List.toArray (.pointer (some ⟨p, 0, none⟩) :: .string what :: c2 :: c3 :: c4 :: c5 :: c6 :: c7 :: c8 :: c9 :: c10 :: .pointer (some ⟨q11, 0, none⟩) :: .pointer (some ⟨q12, 0, none⟩) :: c13 :: .pointer (some ⟨q14, 0, none⟩) :: c15 :: c16 :: c17 :: c18 :: c19 :: c20 :: c21 :: c22 :: c23 :: c24 :: c25 :: c26 :: c27 :: c28 :: c29 :: c30 :: c31 :: c32 :: []), []⟩ w := by
  have hml : maxLen = 9223372036854775807 := rfl
  have hrg := own_range o11 (by omega)
  have hsX : (Try.prog.info? 33).map (·.size) = some (x.b.map B).length := by rw [List.length_map, x.h]; exact i16
  have hp := own_cells4 o14 (by omega)
  have e0 := hp.at (i := 0) rfl
  have e1 := hp.at (i := 1) rfl
  simp only [Nat.zero_add] at e0 e1
  unfold ekB at hc
  obtain ⟨X, hX⟩ : ∃ X, X = x.b.map B := ⟨_, rfl⟩
  rw [← hX] at hrg hsX
  simp only [← hX] at hc
  clear hp o14 o11 hX
  conv => arg 2; whnf
  go_wp2_with (refine wpList_load_mid rfl 33 _ rfl q11 0 rfl X _ hrg Try.underlying33 rfl hsX ?_)
  refine hc _ ?_
  clear hc hrg hsX e0 e1
  intro y e w2 hS
  have o12 := hSt y e w2 hS
  have hyl : (y.b.map B).length = 16 := by rw [List.length_map]; exact y.h
  have hy1 := B_one y.b
  obtain ⟨r1, r3, r4⟩ := store_arr (P := Try.prog) hyl hy1 o12 i16
  have hth := own_there o12 (y.b.map B).toArray.size (by simpa using hyl)
  have hsz : (Try.prog.info? 33).map (·.size) = some (y.b.map B).toArray.size := by rw [List.size_toArray, hyl]; exact i16
  have hall := one_all hy1
  have hf := @hQ y e w2 _ hS r3 r4
  clear r1 r3 r4 o12 hQ hSt hS
  obtain ⟨Y, hY⟩ : ∃ X, X = y.b.map B := ⟨_, rfl⟩
  rw [← hY] at hth hsz hall hf ⊢
  clear hY hy1 hyl
  go_wp2_with (refine wpList_store_mid rfl 33 _ _ rfl q12 0 Y.toArray rfl rfl hth hsz hall ?_)
  exact hf
end Go.Proofs.Ytfmnkcmicbnfdaa
