/- A fast check of a great region's order. -/
import Derived.Test.YtgchbcopbkoomaaReg
namespace Go.Proofs.Ytgchbcopbkoomaa
open Go Go.RowKit
namespace Lx
def force {α : Type} (n : Nat) (k : Nat → α) : α := match n with | 0 => k 0 | m + 1 => k (m + 1)
theorem force_eq {α : Type} (n : Nat) (k : Nat → α) : force n k = k n := by cases n <;> rfl
def mask (l : List Nat) : Nat := l.foldl (fun s t => s ||| 2 ^ t) 0
theorem mask_from : ∀ (l : List Nat) (s t : Nat), (l.foldl (fun s t => s ||| 2 ^ t) s).testBit t = (s.testBit t || l.contains t)
  | [], s, t => by simp
  | x :: l, s, t => by
    rw [List.foldl_cons, mask_from l _ t, Nat.testBit_or, Nat.testBit_two_pow, List.contains_cons, Bool.or_assoc]
    congr 2
    by_cases h : x = t
    · subst h; simp
    · have h2 : ¬ t = x := fun e => h e.symm
      simp [h, h2]
theorem mask_bit (l : List Nat) (t : Nat) : (mask l).testBit t = l.contains t := by
  rw [mask, mask_from]; simp
def edges (o : Oper) : List Nat := (o.after.toList.filter (Region.binds .any)).map (·.on)
def looks (ops : Array Oper) (o : Oper) : Nat := mask (o.looksAt ops)
def dstM (o : Oper) : Nat := mask o.dst.toList
def edgeM (o : Oper) : Nat := mask (edges o)
def two (a b : Nat) (x : Nat × Nat × Nat) (k : Nat) : Bool := x.2.2.testBit k || (b &&& (x.1 ||| x.2.1) == 0 && x.2.1 &&& a == 0)
def good : Nat → List (Nat × Nat × Nat) → Bool
  | _, [] => true
  | k, (a, b, c) :: r => Nat.blt c (2 ^ k) && r.all (fun x => two a b x k) && good (k + 1) r
def rows (ops : Array Oper) : List Oper → List (Nat × Nat × Nat) → Bool
  | [], acc => good 0 acc.reverse
  | o :: r, acc => force (looks ops o) fun a => force (dstM o) fun b => force (edgeM o) fun c => rows ops r ((a, b, c) :: acc)
def row (ops : Array Oper) (o : Oper) : Nat × Nat × Nat := (looks ops o, dstM o, edgeM o)
theorem rows_eq (ops : Array Oper) : ∀ (l : List Oper) (acc : List (Nat × Nat × Nat)), rows ops l acc = good 0 (acc.reverse ++ l.map (row ops))
  | [], acc => by simp [rows]
  | o :: r, acc => by
    rw [rows, force_eq, force_eq, force_eq, rows_eq ops r]
    simp [row]
theorem and_zero {a b t : Nat} (h : (a &&& b == 0) = true) (ha : a.testBit t = true) : b.testBit t = false := by
  have h0 : a &&& b = 0 := by simpa using h
  have : (a &&& b).testBit t = false := by rw [h0]; simp
  rw [Nat.testBit_and, ha] at this
  simpa using this
theorem two_apart {ops : Array Oper} {x y : Oper} {k : Nat} (h : two (looks ops x) (dstM x) (row ops y) k = true) : (y.after.any (fun e => Region.binds .any e && e.on == k) || x.apart ops y) = true := by
  simp only [two, row, Bool.or_eq_true, Bool.and_eq_true] at h
  rcases h with h | ⟨h1, h2⟩
  · rw [edgeM, mask_bit, List.contains_iff_mem, edges, List.mem_map] at h
    obtain ⟨e, he, hk⟩ := h
    rw [List.mem_filter] at he
    rw [Bool.or_eq_true]
    exact .inl (Array.any_eq_true'.2 ⟨e, by simpa using he.1, by simp [he.2, hk]⟩)
  · rw [Bool.or_eq_true]
    refine .inr ?_
    unfold Oper.apart
    rw [Bool.and_eq_true]
    refine ⟨?_, ?_⟩
    · cases hx : x.dst with
      | none => rfl
      | some d =>
        have hb : (dstM x).testBit d = true := by rw [dstM, mask_bit, hx]; simp
        have := and_zero h1 hb
        rw [Nat.testBit_or, Bool.or_eq_false_iff, looks, dstM, mask_bit, mask_bit] at this
        simp only [this.1, Bool.not_false, Bool.true_and]
        cases hy : y.dst with
        | none => rfl
        | some d2 =>
          have h3 := this.2
          rw [hy] at h3
          simp only [Option.toList_some, List.contains_cons, List.contains_nil, Bool.or_false] at h3
          simp only [bne, Bool.not_eq_true']
          rw [show (some d2 == some d) = (d == d2) from by rw [Bool.eq_iff_iff, beq_iff_eq, beq_iff_eq, Option.some.injEq, eq_comm]]
          exact h3
    · cases hy : y.dst with
      | none => rfl
      | some d =>
        have hb : (dstM y).testBit d = true := by rw [dstM, mask_bit, hy]; simp
        have := and_zero h2 hb
        rw [looks, mask_bit] at this
        simp only [this, Bool.not_false]
theorem lt_of_mask {o : Oper} {k : Nat} (h : Nat.blt (edgeM o) (2 ^ k) = true) (e : Edge) (he : e ∈ o.after) (hb : Region.binds .any e = true) : e.on < k := by
  have h1 : (edgeM o).testBit e.on = true := by
    rw [edgeM, mask_bit, List.contains_iff_mem, edges, List.mem_map]
    exact ⟨e, List.mem_filter.2 ⟨by simpa using he, hb⟩, rfl⟩
  have h2 : edgeM o < 2 ^ k := by simpa [Nat.blt_eq] using h
  rcases Nat.lt_or_ge e.on k with h | h
  · exact h
  · have := Nat.testBit_lt_two_pow (Nat.lt_of_lt_of_le h2 (Nat.pow_le_pow_right (by decide) h))
    rw [h1] at this; cases this
theorem lex_from {ops : Array Oper} : ∀ (l : List Oper) (k : Nat) (listed : Array Bool), (∀ j, l[j]? = ops[k + j]?) → listed.size = ops.size → (∀ j, j < ops.size → (listed.getD j true = decide (j < k))) → (∀ j, j < ops.size → (listed.getD j false = decide (j < k))) → good k (l.map (row ops)) = true → Region.lexFrom .any ops l.length k listed = true
  | [], k, listed, hl, hsz, h1, h2, _ => by
    have hk : ops.size ≤ k := by have := hl 0; simp at this; simpa using this
    show (Region.ready .any ops listed).isEmpty = true
    rw [List.isEmpty_iff, List.eq_nil_iff_forall_not_mem]
    intro j hj
    rw [mem_ready] at hj
    obtain ⟨h0, o, ho, -⟩ := hj
    have hlt : j < ops.size := (Array.getElem?_eq_some_iff.1 ho).1
    rw [h1 j hlt] at h0
    simp at h0
    omega
  | o :: l, k, listed, hl, hsz, h1, h2, hg => by
    have h0 : ops[k]? = some o := by simpa using (hl 0).symm
    have hk : k < ops.size := (Array.getElem?_eq_some_iff.1 h0).1
    have hl' : ∀ j, l[j]? = ops[(k + 1) + j]? := fun j => by have := hl (j + 1); simpa [Nat.add_assoc, Nat.add_comm 1 j] using this
    rw [List.map_cons] at hg
    simp only [row, good, Bool.and_eq_true] at hg
    obtain ⟨⟨hm, ha⟩, hg'⟩ := hg
    simp only [List.length_cons, Region.lexFrom, Bool.and_eq_true]
    refine ⟨⟨?_, ?_⟩, ?_⟩
    · rw [List.contains_iff_mem, mem_ready]
      refine ⟨by rw [h1 k hk]; simp, o, h0, fun e he hb => ?_⟩
      have := lt_of_mask hm e he hb
      rw [h2 e.on (by omega)]
      simpa using this
    · simp only [Region.free, h0, List.all_eq_true, List.mem_range]
      intro j hj
      by_cases hjk : j = k
      · simp [hjk]
      rw [h1 j hj]
      by_cases hjl : j < k
      · simp [hjl]
      simp only [hjl, decide_false, Bool.or_false]
      have hej : (j == k) = false := by simpa using hjk
      rw [hej, Bool.false_or]
      cases hoj : ops[j]? with
      | none => rfl
      | some oj =>
        have hmem : oj ∈ l := by
          have := hl' (j - (k + 1))
          rw [show k + 1 + (j - (k + 1)) = j from by omega, hoj] at this
          exact List.mem_of_getElem? this
        exact two_apart (List.all_eq_true.1 ha _ (List.mem_map.2 ⟨oj, hmem, rfl⟩))
    · refine lex_from l (k + 1) _ hl' (by simpa using hsz) (fun j hj => ?_) (fun j hj => ?_) hg'
      · by_cases hjk : k = j
        · subst hjk
          simp [hsz, hk]
        · rw [getD_set_ne true hjk, h1 j hj]
          simp only [decide_eq_decide]; omega
      · by_cases hjk : k = j
        · subst hjk
          simp [hsz, hk]
        · rw [getD_set_ne false hjk, h2 j hj]
          simp only [decide_eq_decide]; omega
theorem lexB_of {l : List Oper} (hs : Region.noSelect l.toArray = true) (h : rows l.toArray l [] = true) : Region.lexB .any l.toArray = true := by
  rw [rows_eq] at h
  rw [Region.lexB, Bool.and_eq_true]
  refine ⟨hs, ?_⟩
  have h1 : ∀ j, j < l.toArray.size → ((Array.replicate l.toArray.size false).getD j true = decide (j < 0)) := fun j hj => by
    have hj' : j < l.length := by simpa using hj
    simp [hj']
  have := lex_from (ops := l.toArray) l 0 (Array.replicate l.toArray.size false) (by simp) (by simp) h1 (fun j hj => by rw [Array.getD_eq_getD_getElem?, Array.getElem?_replicate]; split <;> simp) (by simpa using h)
  simpa using this
/-- A region in which nothing waits for what it needs: no table of what stands ahead. -/
theorem bmOk_none (ops : Array Oper) : bmOk ops #[] = true := by
  simp [bmOk, before]
theorem wp_region_0 {P : Program} {Q : Exit → Act → World → Prop} {id : Nat} {a : Act} {w : World} {l : List Oper} (S : Seg) (hm : P.follows .mixedOrders = true) (hs : Region.noSelect l.toArray = true) (hB : rows l.toArray l [] = true)
    (hC : S.C w.drew) (h : wpV P l.toArray #[] [] Q l 0 S a (fun _ _ => True)) : (Code.region id l.toArray true).wp P Q a w :=
  wp_region_V S _ [] hm (lexB_of hs hB) (bmOk_none _) hC h
end Lx
end Go.Proofs.Ytgchbcopbkoomaa
