/- The plain law of IdealBack. -/
import Derived.Test.YtfmnkcmicbnfdaaLIdA0
namespace Go.Proofs.Ytfmnkcmicbnfdaa
open Go Go.RowKit

theorem draw_spec (bs : List UInt8) (gl : Prs) : ∀ (f a g : Nat) (r : Option B16) (a' g' : Nat), a ≤ bs.length → drawN bs gl f a g = (r, a', g') → a ≤ a' ∧ a' ≤ bs.length ∧ g' + a ≤ g + a' ∧ (∀ y, r = some y → look y gl = none)
  | 0, a, g, r, a', g', ha, h => by
    simp only [drawN, Prod.mk.injEq] at h
    obtain ⟨rfl, rfl, rfl⟩ := h
    exact ⟨Nat.le_refl _, ha, Nat.le_refl _, by simp⟩
  | f + 1, a, g, r, a', g', ha, h => by
    rw [drawN] at h
    split at h
    · simp only [Prod.mk.injEq] at h
      obtain ⟨rfl, rfl, rfl⟩ := h
      exact ⟨Nat.le_refl _, ha, Nat.le_refl _, by simp⟩
    · split at h
      · obtain ⟨h1, h2, h3, h4⟩ := draw_spec bs gl f (a + 16) (g + 1) r a' g' (by omega) h
        exact ⟨by omega, h2, by omega, h4⟩
      · rename_i hl
        simp only [Prod.mk.injEq] at h
        obtain ⟨rfl, rfl, rfl⟩ := h
        refine ⟨by omega, by omega, by omega, fun y hy => ?_⟩
        obtain rfl := Option.some.inj hy
        simpa using hl
def bk0 (unit : Int) : Pla := ⟨⟨#[107]⟩, unit, 0⟩
def bk1 (unit : Int) : Pla := ⟨⟨#[107]⟩, unit, 1⟩
theorem bk_ne (unit : Int) : bk1 unit ≠ bk0 unit := fun e => absurd (show (1 : Int) = 0 from congrArg Pla.i e) (by decide)
/-- Pairs that fit, at one place alone. -/
structure BaI (bs : List UInt8) (unit : Int) (s : IdS) (fl bl : Prs) : Prop where
  p : prsS s (bk0 unit) = (fl, bl)
  n : look (bk1 unit) s.S = none
  b : ∀ x y, look x fl = some y ↔ look y bl = some x
  a : s.a ≤ bs.length
  g : s.ag ≤ s.a
theorem ba_put {bs : List UInt8} {unit : Int} {s : IdS} {fl bl : Prs} (h : BaI bs unit s fl bl) (fl' bl' : Prs) (a' c' g' : Nat) (hb : ∀ x y, look x fl' = some y ↔ look y bl' = some x) (ha : a' ≤ bs.length) (hg : g' ≤ a') : BaI bs unit ⟨a', putM (bk0 unit) (fl', bl') s.S, c', g'⟩ fl' bl' where
  p := by unfold prsS; rw [look_putM, if_pos rfl]; rfl
  n := by
    show look (bk1 unit) (putM (bk0 unit) (fl', bl') s.S) = none
    rw [look_putM, if_neg (bk_ne unit)]
    exact h.n
  b := hb
  a := ha
  g := hg
theorem ba_enc {bs : List UInt8} {unit : Int} {s : IdS} {fl bl : Prs} (h : BaI bs unit s fl bl) (x : B16) :
    (∃ y s1 fl' bl', encS bs s (bk0 unit) x = ((y, 0), s1) ∧ BaI bs unit s1 fl' bl' ∧ look x fl' = some y ∧ (∀ x' y', look x' fl = some y' → look x' fl' = some y') ∧ s1.cnt ≤ s.cnt + 1) ∨ (∃ s1, encS bs s (bk0 unit) x = ((b16z, 9), s1)) := by
  unfold encS
  rw [h.p]
  cases hl : look x fl with
  | some y => exact .inl ⟨y, _, fl, bl, rfl, ba_put h fl bl _ _ _ h.b h.a h.g, hl, fun _ _ h => h, by show s.cnt ≤ s.cnt + 1; omega⟩
  | none =>
    simp only
    cases hd : drawN bs bl (bs.length + 1) s.a s.ag with
    | mk r ag =>
      obtain ⟨a', g'⟩ := ag
      obtain ⟨h1, h2, h3, h4⟩ := draw_spec bs bl _ _ _ _ _ _ h.a hd
      have hg := h.g
      cases r with
      | none => exact .inr ⟨_, rfl⟩
      | some y =>
        have hy := h4 y rfl
        refine .inl ⟨y, _, putM x y fl, putM y x bl, rfl, ba_put h _ _ _ _ _ (fun x' y' => ?_) h2 (by omega), by rw [look_putM, if_pos rfl], fun x' y' hx' => ?_, Nat.le_refl _⟩
        · rw [look_putM, look_putM]
          by_cases hx : x' = x
          · subst hx
            rw [if_pos rfl]
            by_cases hyy : y' = y
            · subst hyy; simp
            · rw [if_neg hyy, ← h.b, hl]
              simp [Ne.symm hyy]
          · rw [if_neg hx]
            by_cases hyy : y' = y
            · subst hyy
              rw [if_pos rfl, h.b, hy]
              simp [Ne.symm hx]
            · rw [if_neg hyy]
              exact h.b x' y'
        · rw [look_putM, if_neg (fun e => by rw [e, hl] at hx'; cases hx')]
          exact hx'
theorem ba_same {bs : List UInt8} {unit : Int} {s : IdS} {fl bl : Prs} (h : BaI bs unit s fl bl) {x y : B16} (hx : look x fl = some y) : ∃ s1, encS bs s (bk0 unit) x = ((y, 0), s1) ∧ BaI bs unit s1 fl bl ∧ s1.a = s.a ∧ s1.cnt = s.cnt := by
  unfold encS
  rw [h.p]
  simp only [hx]
  exact ⟨_, rfl, ba_put h fl bl _ _ _ h.b h.a h.g, rfl, rfl⟩
theorem ba_back {bs : List UInt8} {unit : Int} {s : IdS} {fl bl : Prs} (h : BaI bs unit s fl bl) {x y : B16} (hx : look x fl = some y) : ∃ s1, decS bs s (bk0 unit) y = ((x, 0), s1) ∧ BaI bs unit s1 fl bl ∧ s1.a = s.a ∧ s1.cnt = s.cnt := by
  have hy := (h.b x y).1 hx
  unfold decS
  rw [h.p]
  simp only [hy]
  exact ⟨_, rfl, ba_put h fl bl _ _ _ h.b h.a h.g, rfl, rfl⟩
theorem ba_inj {bs : List UInt8} {unit : Int} {s : IdS} {fl bl : Prs} (h : BaI bs unit s fl bl) {x y x' y' : B16} (hx : look x fl = some y) (hx' : look x' fl = some y') : decide (y = y') = decide (x = x') := by
  rw [decide_eq_decide]
  constructor
  · intro e
    subst e
    have h1 := (h.b x y).1 hx
    have h2 := (h.b x' y).1 hx'
    rw [h1] at h2
    exact Option.some.inj h2
  · intro e
    subst e
    rw [hx] at hx'
    exact Option.some.inj hx'
theorem ba_end {bs : List UInt8} {unit : Int} {s : IdS} {fl bl : Prs} (h : BaI bs unit s fl bl) (x : B16) :
    (∃ y s1, encS bs s (bk1 unit) x = ((y, 0), s1) ∧ s1.cnt = s.cnt + 1 ∧ s1.a = s.a + 16 ∧ s.a + 16 ≤ bs.length) ∨ (∃ y s1, encS bs s (bk1 unit) x = ((y, 9), s1)) := by
  have hp : prsS s (bk1 unit) = ([], []) := by unfold prsS; rw [h.n]; rfl
  unfold encS
  rw [hp]
  simp only [look_nil]
  rw [drawN]
  by_cases hd : bs.length < s.a + 16
  · rw [if_pos hd]
    exact .inr ⟨_, _, rfl⟩
  · rw [if_neg hd]
    exact .inl ⟨_, _, rfl, rfl, rfl, by omega⟩
end Go.Proofs.Ytfmnkcmicbnfdaa
