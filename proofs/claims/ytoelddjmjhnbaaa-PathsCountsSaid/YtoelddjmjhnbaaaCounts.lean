/- PathsCounts: the plain law and the walk. -/
import Derived.Test.YtoelddjmjhnbaaaAwakeP
namespace Go.Proofs.Ytoelddjmjhnbaaa
open Go Go.RowKit

theorem wl_pos (n : Nat) : 0 < (wl n).length := by
  by_cases h : n ≤ 1
  · rw [wl_one h]; simp
  · rw [wl_more h]; simp
/-- As many levels as it takes. -/
theorem wl_reach (n : Nat) (h1 : 1 ≤ n) : ∃ k, (wl n).length = k + 1 ∧ n ≤ 4 ^ k ∧ ∀ j, j < k → 4 ^ j < n := by
  induction n using Nat.strongRecOn with
  | ind n ih =>
    by_cases h : n ≤ 1
    · exact ⟨0, by rw [wl_one h]; rfl, by simpa using h, by omega⟩
    · obtain ⟨k, hk, h2, h3⟩ := ih ((n + 3) / 4) (by omega) (by omega)
      refine ⟨k + 1, by rw [wl_more h]; simp [hk], by rw [Nat.pow_succ]; omega, fun j hj => ?_⟩
      cases j with
      | zero => simp; omega
      | succ j =>
        have := h3 j (by omega)
        rw [Nat.pow_succ]; omega
theorem wl_sum (n : Nat) (h1 : 1 ≤ n) : n ≤ 3 * (wl n).tail.sum + 1 ∧ 3 * (wl n).tail.sum + 3 ≤ n + 3 * (wl n).length := by
  induction n using Nat.strongRecOn with
  | ind n ih =>
    by_cases h : n ≤ 1
    · rw [wl_one h]; simp; omega
    · obtain ⟨a, b⟩ := ih ((n + 3) / 4) (by omega) (by omega)
      have e : (wl n).tail = wl ((n + 3) / 4) := by rw [wl_more h]; rfl
      have e2 : (wl n).length = (wl ((n + 3) / 4)).length + 1 := by rw [wl_more h]; rfl
      have e3 : (wl ((n + 3) / 4)).sum = (n + 3) / 4 + (wl ((n + 3) / 4)).tail.sum := by
        by_cases h' : (n + 3) / 4 ≤ 1
        · rw [wl_one h']; simp
        · rw [wl_more h']; simp
      rw [e, e2, e3]
      omega

set_option maxRecDepth 100000 in
set_option maxHeartbeats 2000000 in
theorem counts (n : Int) (w : World) (hn : (Lit.int .i64 n).wf = true) (R : Ending → World → Prop) (hR : ∀ w', Grow w w' → R (.returned (.bool true)) w') :
    Calls Try.prog 9 #[.int .i64 n] w R := by
  by_cases hb1 : n < 1
  · go_enter Try.func9, Try.ntmps9
    go_wp2_with fail
    refine awakeP w _ ?_
    intro w1 g1
    go_wp2
    exact g1
  by_cases hb2 : 65536 < n
  · go_enter Try.func9, Try.ntmps9
    go_wp2_with fail
    refine awakeP w _ ?_
    intro w1 g1
    go_wp2
    exact g1
  obtain ⟨m, rfl⟩ : ∃ m : Nat, n = m := ⟨n.toNat, by omega⟩
  have hw : wide m = wl m := by unfold wide; rw [if_neg (by omega)]; rfl
  obtain ⟨K, hK, hreach, hless⟩ := wl_reach m (by omega)
  have hK8 : K ≤ 8 := by
    apply Nat.le_of_not_lt
    intro h
    have := hless 8 h
    omega
  obtain ⟨hs1, hs2⟩ := wl_sum m (by omega)
  have hp8 : ∀ j, j ≤ K → 4 ^ j ≤ 65536 := fun j hj => by
    have : 4 ^ j ≤ 4 ^ 8 := Nat.pow_le_pow_right (by omega) (by omega)
    omega
  go_enter Try.func9, Try.ntmps9
  go_wp2_with fail
  go_loopw [3, 4] (fun a b wr => ∃ (k r : Nat), a = .int .i64 ((k : Int) + 1) ∧ b = .int .i64 (r : Int) ∧ r = 4 ^ k ∧ k ≤ K ∧ Grow w wr) (fun a _ _ => K + 1 - (intOf a).toNat)
  case atStart => exact ⟨0, 1, by simp, by simp, rfl, Nat.zero_le _, Grow.refl _⟩
  case round =>
    obtain ⟨k, r, rfl, rfl, hr, hk, hg⟩ := hrel
    have hr8 := hp8 k hk
    rw [← hr] at hr8
    by_cases hlt : r < m
    · have hkK : k < K := by
        apply Nat.lt_of_not_le
        intro h
        obtain rfl : k = K := by omega
        omega
      have hr2 : 4 ^ (k + 1) = r * 4 := by rw [Nat.pow_succ, hr]
      clear hr
      go_wp2_with fail
      go_roundw
      case rel => exact ⟨k + 1, r * 4, by go_num, by go_num, hr2.symm, by omega, hg⟩
      case measure => simp [intOf]; omega
    · have hkK : k = K := by
        rcases Nat.lt_or_ge k K with h | h
        · have := hless k h; omega
        · omega
      subst hkK
      clear hr hr8
      have hwid : ∀ j (h : j < k), wid m ((j : Int) + 1) = (wl m).tail[j]'(by simp; omega) := by
        intro j h
        unfold wid
        rw [if_neg (by omega), hw, List.getD_eq_getElem?_getD, show ((j : Int) + 1).toNat = j + 1 by omega]
        simp [show j + 1 < (wl m).length by omega]
      have hw1 : wid m ((k : Int) + 1) = 0 := by
        unfold wid
        rw [if_neg (by omega), hw, List.getD_eq_getElem?_getD, List.getElem?_eq_none (by omega)]
        rfl
      have hw2 : wid m (-1) = 0 := by unfold wid; rw [if_pos (by omega)]
      have hle1 := wid_le (m : Int)
      have htl : (wl m).tail.length = k := by simp; omega
      have htake : ∀ j (h : j < k), ((wl m).tail.take (j + 1)).sum = ((wl m).tail.take j).sum + (wl m).tail[j]'(by omega) := by
        intro j h
        rw [List.take_add_one, List.getElem?_eq_getElem (by omega)]
        simp
      have hsle : ∀ j, j ≤ k → ((wl m).tail.take j).sum ≤ j * 65536 := by
        intro j
        induction j with
        | zero => intro _; simp
        | succ j ih =>
          intro h
          rw [htake j (by omega), ← hwid j (by omega)]
          have := ih (by omega)
          have := hle1 ((j : Int) + 1)
          omega
      clear hreach hless
      go_wp2_with fail
      go_loopw [5, 6] (fun a b wr2 => ∃ (j : Nat), a = .int .i64 (((wl m).tail.take j).sum : Int) ∧ b = .int .i64 ((j : Int) + 1) ∧ j ≤ k ∧ Grow w wr2) (fun _ b _ => k + 1 - (intOf b).toNat)
      case atStart => exact ⟨0, by simp, by simp, Nat.zero_le _, hg⟩
      case round =>
        obtain ⟨j, rfl, rfl, hj, hg2⟩ := hrel
        have hsj := hsle j hj
        obtain ⟨S, hS⟩ : ∃ S, S = ((wl m).tail.take j).sum := ⟨_, rfl⟩
        rw [← hS] at hsj ⊢
        by_cases hjk : j < k
        · have ht := htake j hjk
          rw [← hwid j hjk, ← hS] at ht
          have hw4 := hle1 ((j : Int) + 1)
          clear hS hwid htake hsle hle1
          go_wp2_with fail
          refine levelsC m hn wr _ ?_
          rw [hw, hK]
          intro w3 g3
          have hjk' : decide (j + 1 < k + 1) = true := by simp; omega
          go_wp2_with fail
          refine widthC m ((j : Int) + 1) hn w3 _ ?_
          intro w4 g4
          go_wp2_with fail
          go_roundw
          case rel => exact ⟨j + 1, by rw [ht, Int.natCast_add], by go_num, by omega, (hg2.trans g3).trans g4⟩
          case measure => simp [intOf]; omega
        · obtain rfl : j = k := by omega
          rw [List.take_of_length_le (by omega)] at hS
          rw [← hS] at hs1 hs2
          rw [hK] at hs2
          clear hS
          go_wp2_with fail
          refine levelsC m hn wr _ ?_
          rw [hw, hK]
          intro w3 g3
          go_wp2_with fail
          refine levelsC m hn w3 _ ?_
          rw [hw, hK]
          intro w4 g4
          go_wp2_with fail
          refine widthC m ((j : Int) + 1) hn w4 _ ?_
          rw [hw1]
          intro w5 g5
          go_wp2_with fail
          refine widthC m (-1) hn w5 _ ?_
          rw [hw2]
          intro w6 g6
          go_wp2_with fail
          refine awakeP w6 _ ?_
          intro w7 g7
          go_wp2
          exact (((((hg2.trans g3).trans g4).trans g5).trans g6).trans g7)
end Go.Proofs.Ytoelddjmjhnbaaa
