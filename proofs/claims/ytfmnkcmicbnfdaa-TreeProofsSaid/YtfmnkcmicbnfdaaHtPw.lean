/- What proofs of a tree tell, in plain Lean. -/
import Derived.Test.YtfmnkcmicbnfdaaGHt5
import Derived.Test.YtfmnkcmicbnfdaaGHt3
import Derived.Test.YtfmnkcmicbnfdaaCounts
namespace Go.Proofs.Ytfmnkcmicbnfdaa
open Go Go.RowKit

theorem up_top (n leaf : Nat) (hl : leaf < n) : upN leaf ((wl n).length - 1) = 0 := by
  obtain ⟨k, hk, h4, -⟩ := wl_reach n (by omega)
  rw [hk, Nat.add_sub_cancel]
  unfold upN
  exact Nat.div_eq_of_lt (by omega)
theorem nodeA_nat (n : Nat) (T : Nat → Nat → B16) (j i : Nat) (h1 : 1 ≤ n) (h2 : n ≤ 65536) (hi : i < lw n j) : nodeA n T (j : Int) (i : Int) = T j i := by
  unfold nodeA
  rw [wid_lw n j h1 h2, if_pos (by omega)]
  simp
theorem nodeA_out (n : Nat) (T : Nat → Nat → B16) (j : Int) (i : Int) (h : ¬ (0 ≤ i ∧ i < (wid n j : Int))) : nodeA n T j i = B0 := if_neg h
theorem nodeA_agr {key : List UInt8} {n L : Nat} {lv : Nat → B16} {T : Nat → Nat → B16} (a : Agr key n L lv T) (h1 : 1 ≤ n) (h2 : n ≤ 65536) (hL : L = (wl n).length) (l i : Int) : nodeA n T l i = nodeA n (nd key n lv) l i := by
  unfold nodeA
  by_cases h : 0 ≤ i ∧ i < (wid n l : Int)
  · rw [if_pos h, if_pos h]
    have hp := wid_level (n := n) (level := l) (by omega)
    have e : wid n l = lw n l.toNat := by
      have := wid_lw n l.toNat h1 h2
      rwa [show ((l.toNat : Nat) : Int) = l by omega] at this
    have hi : i.toNat < lw n l.toNat := by omega
    refine a l.toNat ?_ i.toNat hi
    rw [hL]
    apply Classical.byContradiction
    intro hc
    unfold lw at hi
    rw [List.getD_eq_getElem?_getD, List.getElem?_eq_none (by omega)] at hi
    simp at hi
  · rw [if_neg h, if_neg h]
theorem proofA_agr {key : List UInt8} {n L : Nat} {lv : Nat → B16} {T : Nat → Nat → B16} (a : Agr key n L lv T) (h1 : 1 ≤ n) (h2 : n ≤ 65536) (hL : L = (wl n).length) (ls : List (List Pl)) : proofA n T ls = proofA n (nd key n lv) ls := by
  unfold proofA rowA
  simp only [nodeA_agr a h1 h2 hL]
theorem rootA_agr {key : List UInt8} {n L : Nat} {lv : Nat → B16} {T : Nat → Nat → B16} (a : Agr key n L lv T) (h1 : 1 ≤ n) (h2 : n ≤ 65536) (hL : L = (wl n).length) : rootA n T = rootA n (nd key n lv) := nodeA_agr a h1 h2 hL _ _

/-- A row of a proof: the four that a node of the way has below it. -/
theorem row_at (n leaf : Nat) (T : Nat → Nat → B16) (h1 : 1 ≤ n) (h2 : n ≤ 65536) (hl : leaf < n) (j : Nat) (h : j < (beside n leaf).length) : rowA n T (beside n leaf)[j] = kidsB n T j (upN leaf (j + 1)) := by
  have e := beside_at n leaf h1 h2 hl
  have hj : j < (wl n).length - 1 := by rw [e, besideN_len] at h; exact h
  have e2 : (beside n leaf)[j] = kids n ((j + 1 : Nat) : Int) ((leaf / 4 ^ j / 4 : Nat) : Int) := by
    have : ∀ (l : List (List Pl)) (hh : j < l.length), l = besideN n leaf ((wl n).length - 1) → l[j] = kids n ((j + 1 : Nat) : Int) ((leaf / 4 ^ j / 4 : Nat) : Int) := fun l hh el => by subst el; simp [besideN]
    exact this _ h e
  have hu : leaf / 4 ^ j / 4 = upN leaf (j + 1) := by unfold upN; rw [Nat.pow_succ, ← Nat.div_div_eq_div_mul]
  rw [e2, hu, kids_eq n j (upN leaf (j + 1)) h1 h2 (way_in n leaf hl (j + 1) (by omega))]
  unfold rowA kidsB kn
  rw [List.map_map]
  refine List.map_congr_left fun i hi => ?_
  have hi' := List.mem_range.1 hi
  exact nodeA_nat n T j _ h1 h2 (by omega)
theorem beside_rows (n leaf : Nat) (h1 : 1 ≤ n) (h2 : n ≤ 65536) (hl : leaf < n) : (beside n leaf).length = (wl n).length - 1 := by rw [beside_at n leaf h1 h2 hl, besideN_len]
theorem proof_len (n leaf : Nat) (T : Nat → Nat → B16) (h1 : 1 ≤ n) (h2 : n ≤ 65536) (hl : leaf < n) : ∀ j, j ≤ (beside n leaf).length → (proofA n T ((beside n leaf).take j)).length = sumV n leaf j
  | 0, _ => rfl
  | j + 1, h => by
    rw [proofA_take (by omega), List.length_append, proof_len n leaf T h1 h2 hl j (by omega), row_at n leaf T h1 h2 hl j (by omega), kidsB_len]
    rfl
theorem proof_all (n leaf : Nat) (T : Nat → Nat → B16) (h1 : 1 ≤ n) (h2 : n ≤ 65536) (hl : leaf < n) : (proofA n T (beside n leaf)).length = sumV n leaf ((wl n).length - 1) := by
  have := proof_len n leaf T h1 h2 hl _ (Nat.le_refl _)
  rwa [List.take_length, beside_rows n leaf h1 h2 hl] at this
theorem proof_ck (n leaf : Nat) (T : Nat → Nat → B16) (h1 : 1 ≤ n) (h2 : n ≤ 65536) (hl : leaf < n) (j : Nat) (h : j < (wl n).length - 1) : ckV n leaf (proofA n T (beside n leaf)) j = kidsB n T j (upN leaf (j + 1)) := by
  have hb := beside_rows n leaf h1 h2 hl
  have hj : j < (beside n leaf).length := by omega
  have e : proofA n T (beside n leaf) = proofA n T ((beside n leaf).take j) ++ (rowA n T (beside n leaf)[j] ++ proofA n T ((beside n leaf).drop (j + 1))) := by
    have e0 : beside n leaf = (beside n leaf).take j ++ ((beside n leaf)[j] :: (beside n leaf).drop (j + 1)) := by rw [← List.drop_eq_getElem_cons hj, List.take_append_drop]
    conv => lhs; rw [e0]
    unfold proofA
    rw [List.flatMap_append, List.flatMap_cons]
  unfold ckV
  rw [e, List.drop_left' (proof_len n leaf T h1 h2 hl j (by omega)), row_at n leaf T h1 h2 hl j hj, List.take_left' (by rw [kidsB_len]; rfl)]
theorem tag_at (key : List UInt8) (n leaf : Nat) (lv : Nat → B16) (h1 : 1 ≤ n) (h2 : n ≤ 65536) (hl : leaf < n) (j : Nat) (h : j ≤ (wl n).length - 1) :
    tagAt (cksV n leaf (proofA n (nd key n lv) (beside n leaf)) ((wl n).length - 1)) (rootA n (nd key n lv)) j (upN leaf j) = nd key n lv j (upN leaf j) := by
  have hp := wl_pos n
  unfold tagAt
  rw [cksV_len]
  by_cases e : j = (wl n).length - 1
  · have hw := way_in n leaf hl ((wl n).length - 1) (by omega)
    rw [if_pos e]
    subst e
    unfold rootA
    rw [up_top n leaf hl, show (((wl n).length : Int) - 1) = (((wl n).length - 1 : Nat) : Int) by omega]
    refine nodeA_nat n _ _ 0 h1 h2 ?_
    have : 0 ≤ leaf / 4 ^ ((wl n).length - 1) := Nat.zero_le _
    omega
  · rw [if_neg e]
    have hj : j < (wl n).length - 1 := by omega
    have e2 : (cksV n leaf (proofA n (nd key n lv) (beside n leaf)) ((wl n).length - 1)).getD j [] = kidsB n (nd key n lv) j (upN leaf (j + 1)) := by
      rw [List.getD_eq_getElem?_getD, List.getElem?_eq_getElem (by rw [cksV_len]; exact hj), Option.getD_some, cksV_at, proof_ck n leaf _ h1 h2 hl j hj]
    have hu := up_in n leaf hl j (by omega)
    have h4 : upN leaf (j + 1) = upN leaf j / 4 := by unfold upN; rw [Nat.pow_succ, ← Nat.div_div_eq_div_mul]
    rw [e2, List.getD_eq_getElem?_getD]
    unfold kidsB
    rw [List.getElem?_map, List.getElem?_range (by exact hu), Option.map_some, Option.getD_some, h4]
    congr 1
    omega
/-- With its own proof a leaf's text is told right just if the leaf has that text's tag. -/
theorem verS_own (key : List UInt8) (n leaf : Nat) (lv : Nat → B16) (text : List UInt8) (h1 : 1 ≤ n) (h2 : n ≤ 65536) (hl : leaf < n) :
    verS key n leaf text (rootA n (nd key n lv)) (proofA n (nd key n lv) (beside n leaf)) = ((leafT key leaf text).b == (lv leaf).b) := by
  have hp := wl_pos n
  have hu0 : upN leaf 0 = leaf := by simp [upN]
  have hall : ((List.range ((wl n).length - 1)).all fun j => okN key leaf (cksV n leaf (proofA n (nd key n lv) (beside n leaf)) ((wl n).length - 1)) (rootA n (nd key n lv)) (ckV n leaf (proofA n (nd key n lv) (beside n leaf)) j) j) = true := by
    rw [List.all_eq_true]
    intro j hj
    have hj' := List.mem_range.1 hj
    unfold okN
    rw [tag_at key n leaf lv h1 h2 hl (j + 1) (by omega), proof_ck n leaf _ h1 h2 hl j hj', nd_succ]
    simp [nodeT, tagB]
  have h0 := tag_at key n leaf lv h1 h2 hl 0 (by omega)
  rw [hu0] at h0
  unfold verS okL
  rw [hall, h0, proof_all n leaf _ h1 h2 hl, decide_eq_true rfl, nd_zero, Bool.true_and, Bool.and_true]
  rfl
/-- A proof of another length tells nothing. -/
theorem verS_len (key : List UInt8) (n leaf : Nat) (text : List UInt8) (root : B16) (P : List B16) (h : P.length ≠ sumV n leaf ((wl n).length - 1)) : verS key n leaf text root P = false := by
  unfold verS
  rw [decide_eq_false h]
  rfl
end Go.Proofs.Ytfmnkcmicbnfdaa
