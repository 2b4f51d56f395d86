/- The tree of fours, in plain Lean: how wide each level is, who are kids of whom, and who stands beside. -/
import Derived.Test.YtoelddjmjhnbaaaAwakeP
namespace Go.Proofs.Ytoelddjmjhnbaaa
open Go Go.RowKit

theorem rows_len {w : World} {av : List Nat} : ∀ {vs : List Value} {ls : List (List Pl)}, RowsOf w av vs ls → vs.length = ls.length
  | [], [], _ => rfl
  | _ :: _, _ :: _, ⟨_, h⟩ => by simp [rows_len h]
  | [], _ :: _, h => h.elim
  | _ :: _, [], h => h.elim
theorem rows_at {w : World} {av : List Nat} : ∀ {vs : List Value} {ls : List (List Pl)}, RowsOf w av vs ls → ∀ i (h : i < ls.length), ∃ ao c, vs[i]? = some (.slice ao ls[i].length c) ∧ Sl w 2 ao ls[i].length c (pk ls[i])
  | [], [], _, i, h => by simp at h
  | _ :: _, _ :: _, ⟨⟨ao, c, e, s, _⟩, h⟩, i, hi => by
    cases i with
    | zero => exact ⟨ao, c, by simp [e], s⟩
    | succ i => simpa using rows_at h i (by simpa using hi)
  | [], _ :: _, h, _, _ => h.elim
  | _ :: _, [], h, _, _ => h.elim

/-- As many levels as it takes. -/
theorem lw_reach (n : Nat) (h1 : 1 ≤ n) : ∃ k, (wl n).length = k + 1 ∧ n ≤ 4 ^ k ∧ ∀ j, j < k → 4 ^ j < n := by
  induction n using Nat.strongRecOn with
  | ind n ih =>
    by_cases h : n ≤ 1
    · exact ⟨0, by rw [wl_one h]; rfl, by simpa using h, by omega⟩
    · obtain ⟨k, hk, h2, h3⟩ := ih ((n + 3) / 4) (by omega) (by omega)
      refine ⟨k + 1, by rw [wl_more h]; simp [hk], by rw [Nat.pow_succ]; omega, fun j hj => ?_⟩
      cases j with
      | zero => simp; omega
      | succ j =>
        have := h3 j (by omega)
        rw [Nat.pow_succ]; omega
/-- How wide level 'i' is. -/
def lw (n i : Nat) : Nat := (wl n).getD i 0
theorem lw_zero (n : Nat) : lw n 0 = n := by
  unfold lw
  by_cases h : n ≤ 1
  · rw [wl_one h]; rfl
  · rw [wl_more h]; rfl
theorem lw_next (n i : Nat) (h : i + 1 < (wl n).length) : lw n (i + 1) = (lw n i + 3) / 4 := by
  induction i generalizing n with
  | zero =>
    by_cases h1 : n ≤ 1
    · rw [wl_one h1] at h; simp at h
    · have := lw_zero ((n + 3) / 4)
      rw [lw_zero]
      unfold lw at this ⊢
      rw [wl_more h1]
      simpa using this
  | succ i ih =>
    by_cases h1 : n ≤ 1
    · rw [wl_one h1] at h; simp at h
    · have := ih ((n + 3) / 4) (by rw [wl_more h1] at h; simpa using h)
      unfold lw at this ⊢
      rw [wl_more h1]
      simpa using this
theorem lw_last (n : Nat) (h1 : 1 ≤ n) : lw n ((wl n).length - 1) = 1 := by
  induction n using Nat.strongRecOn with
  | ind n ih =>
    by_cases h : n ≤ 1
    · unfold lw; rw [wl_one h]; simp; omega
    · have := ih ((n + 3) / 4) (by omega) (by omega)
      have hp : 0 < (wl ((n + 3) / 4)).length := by
        by_cases h2 : (n + 3) / 4 ≤ 1
        · rw [wl_one h2]; simp
        · rw [wl_more h2]; simp
      unfold lw at this ⊢
      rw [wl_more h]
      obtain ⟨k, hk⟩ : ∃ k, (wl ((n + 3) / 4)).length = k + 1 := ⟨_, (Nat.sub_add_cancel hp).symm⟩
      rw [hk] at this
      rw [List.length_cons, hk]
      simpa using this
theorem lw_pos (n : Nat) (h1 : 1 ≤ n) : ∀ i, i < (wl n).length → 1 ≤ lw n i := by
  intro i
  induction i with
  | zero => intro _; rw [lw_zero]; exact h1
  | succ i ih => intro h; rw [lw_next n i h]; have := ih (by omega); omega
theorem lw_le (n i : Nat) : lw n i ≤ n := by
  unfold lw
  rw [List.getD_eq_getElem?_getD]
  by_cases h : i < (wl n).length
  · rw [List.getElem?_eq_getElem h]; exact wl_le n _ (List.getElem_mem h)
  · rw [List.getElem?_eq_none (by omega)]; exact Nat.zero_le _
theorem wid_lw (m l : Nat) (h1 : 1 ≤ m) (h2 : m ≤ 65536) : wid m l = lw m l := by
  unfold wid lw wide
  rw [if_neg (by omega), if_neg (by omega)]
  rfl
theorem filter_lt (a b : Int) (n : Nat) : ((List.range n).filter fun (j : Nat) => decide (a + j < b)) = List.range (min n (b - a).toNat) := by
  induction n with
  | zero => simp
  | succ n ih =>
    rw [List.range_succ, List.filter_append, ih]
    by_cases h : a + n < b
    · rw [show min n (b - a).toNat = n by omega, show min (n + 1) (b - a).toNat = n + 1 by omega, List.range_succ]
      simp [h]
    · rw [show min n (b - a).toNat = min (n + 1) (b - a).toNat by omega]
      simp [h]
theorem kids_eq (m l i : Nat) (h1 : 1 ≤ m) (h2 : m ≤ 65536) (hi : i < lw m (l + 1)) :
    kids m ((l + 1 : Nat) : Int) i = (List.range (min 4 (lw m l - 4 * i))).map fun (j : Nat) => ((l : Int), ((4 * i + j : Nat) : Int)) := by
  have e1 : wid m ((l + 1 : Nat) : Int) = lw m (l + 1) := wid_lw m (l + 1) h1 h2
  have e2 : wid m (((l + 1 : Nat) : Int) - 1) = lw m l := by rw [show ((l + 1 : Nat) : Int) - 1 = (l : Nat) by omega]; exact wid_lw m l h1 h2
  unfold kids kidN
  rw [if_neg (by rw [e1]; omega), e2, filter_lt, show ((lw m l : Int) - 4 * (i : Int)).toNat = lw m l - 4 * i by omega]
  refine List.map_congr_left fun j _ => ?_
  simp only [Prod.mk.injEq]
  omega
/-- The place of a leaf's way on level 'j'. -/
theorem way_at (m leaf : Nat) (h1 : 1 ≤ m) (h2 : m ≤ 65536) (hl : leaf < m) : way m leaf = wayN leaf (wl m).length := by
  unfold way
  rw [if_neg (by rw [show (0 : Int) = ((0 : Nat) : Int) from rfl, wid_lw m 0 h1 h2, lw_zero]; omega)]
  unfold wide
  rw [if_neg (by omega)]
  rfl
theorem beside_at (m leaf : Nat) (h1 : 1 ≤ m) (h2 : m ≤ 65536) (hl : leaf < m) : beside m leaf = besideN m leaf ((wl m).length - 1) := by
  unfold beside
  rw [if_neg (by rw [show (0 : Int) = ((0 : Nat) : Int) from rfl, wid_lw m 0 h1 h2, lw_zero]; omega)]
  unfold wide
  rw [if_neg (by omega)]
  rfl
/-- A leaf's way stays in the tree. -/
theorem way_in (m leaf : Nat) (hl : leaf < m) : ∀ j, j < (wl m).length → leaf / 4 ^ j < lw m j := by
  intro j
  induction j with
  | zero => intro _; rw [lw_zero]; simpa using hl
  | succ j ih =>
    intro h
    rw [lw_next m j h, Nat.pow_succ, ← Nat.div_div_eq_div_mul]
    have := ih (by omega)
    omega
end Go.Proofs.Ytoelddjmjhnbaaa
