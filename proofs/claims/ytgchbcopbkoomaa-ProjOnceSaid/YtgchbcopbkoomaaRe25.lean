/- slices.Repeat of a slice of one number. -/
import Derived.Test.YtgchbcopbkoomaaCl25
namespace Go.Proofs.Ytgchbcopbkoomaa
open Go Go.RowKit

/-- k times x, and noughts. -/
def repV (x : Int) (n k : Nat) : List Value := List.replicate k (.int .i64 x) ++ List.replicate (n - k) (.int .i64 0)
theorem repV_len (x : Int) {n k : Nat} (h : k ≤ n) : (repV x n k).length = n := by simp [repV]; omega
theorem repV_at (x : Int) {n k j : Nat} (h : j < k) : (repV x n k)[j]? = some (.int .i64 x) := by
  unfold repV
  rw [List.getElem?_append_left (by simpa using h), List.getElem?_replicate, if_pos h]
theorem repV_spl (x : Int) {n k m : Nat} (_ : k + m ≤ n) : spl (repV x n k) k (List.replicate m (.int .i64 x)) = repV x n (k + m) := by
  unfold spl repV
  rw [List.take_left' (by simp), List.drop_append, List.drop_eq_nil_of_le (by simp), List.nil_append, List.drop_replicate, List.length_replicate, List.length_replicate, show k + m - k = m by omega, show n - k - m = n - (k + m) by omega, List.replicate_append_replicate]
theorem madeCells_rep (z : Value) (n : Nat) : madeCells #[z] n = (List.replicate n z).toArray := by
  apply Array.ext'
  refine List.ext_getElem (by simp [madeCells]) fun i h1 h2 => ?_
  simp [madeCells, Nat.mod_one]
theorem mkI (n : Nat) (hn : n ≤ 10000000) (w : World) :
    (Instr.makeSlice 29 (.int .i64 (n : Int)) (.int .i64 (n : Int))).run Try.prog w = .ok (.slice (some ⟨w.heap.size, 0, none⟩) n n) (w.alloc (.cells (List.replicate n (.int .i64 0)).toArray 3)) := by
  have hml : maxLen = 9223372036854775807 := rfl
  rw [← madeCells_rep]
  exact run_make_row' 29 3 (.int .i64 0) 8 Try.underlying29 (by kernel_rfl) rfl .i64 .i64 n (by omega) (by omega) w
/-- The slice's beginning onto what follows. -/
theorem copyOn (x : Int) {n k q : Nat} (_ : 0 < k) (hkn : k ≤ n) (w : World) (o : Own w 3 1 (some ⟨q, 0, none⟩) n n (repV x n k)) (b so sn sc : Nat) (m : Nat) (hm : m = min sn (n - k))
    (hs : ∀ j, j < m → w.cell? ⟨b, so + j, none⟩ = some (.int .i64 x)) (ty : TypeId) :
    (Builtin.copy_ #[29, 29] ty #[.slice (some ⟨q, k, none⟩) (n - k) (n - k), .slice (some ⟨b, so, none⟩) sn sc]).run Try.prog w = .ok (.int .i64 (m : Int)) (w.setCells q k (List.replicate m (.int .i64 x))) ∧
    Own (w.setCells q k (List.replicate m (.int .i64 x))) 3 1 (some ⟨q, 0, none⟩) n n (repV x n (k + m)) ∧ Keep [q] w (w.setCells q k (List.replicate m (.int .i64 x))) := by
  have hmn : k + m ≤ n := by omega
  have hr := o.row
  have hrep : ∀ v ∈ List.replicate m (Value.int .i64 x), v.oneCell' = true := fun v hv => by rw [List.eq_of_mem_replicate hv]; rfl
  have h1 := run_copyR (P := Try.prog) TIn rfl w ty q k (n - k) (n - k) b so sn sc (List.replicate m (.int .i64 x)) (by rw [List.length_replicate]; exact hm) (fun j v hj => by
    obtain ⟨hj1, hj2⟩ := List.getElem?_eq_some_iff.1 hj
    rw [List.getElem_replicate] at hj2
    subst hj2
    exact hs j (by simpa using hj1)) (fun j hj => by exact o.rowR.there (by simp at hj; omega)) hrep
  rw [List.length_replicate] at h1
  obtain ⟨h2, -⟩ := own_sets (List.replicate m (.int .i64 x)) k _ w o (by simp; omega) hrep
  rw [repV_spl x hmn] at h2
  exact ⟨h1, h2, Keep.setCells _ _ _ _⟩


set_option maxRecDepth 100000 in
set_option maxHeartbeats 2000000 in
theorem rep9 (x : Int) (q n k : Nat) (hk : 0 < k) (hkn : k < n) (hn : n ≤ 100000) {c0 c1 c2 c3 c4 c5 c6 c9 c10 c11 c12 c13 c14 c15 c16 c17 c18 c19 c20 c21 c22 c23 c24 c25 c26 c27 c28 c29 c30 c31 c32 c33 c34 c35 c36 c37 c38 c39 c40 c41 c42 c43 c44 c45 c46 c47 : Value} (w : World) (o : Own w 3 1 (some ⟨q, 0, none⟩) n n (repV x n k)) {Q : Exit → Act → World → Prop}
    (hQ : ∀ (m : Nat) (w' : World), 0 < m → k + m ≤ n → Own w' 3 1 (some ⟨q, 0, none⟩) n n (repV x n (k + m)) → Keep [q] w w' → ∀ {u38 u39 u40 u41 u42 u43 u44 u45 u46 : Value}, Q .normal ⟨List.toArray (c0 :: c1 :: c2 :: c3 :: c4 :: c5 :: c6 :: .slice (some ⟨q, 0, none⟩) n n :: .int .i64 ((k + m : Nat) : Int) :: c9 :: c10 :: c11 :: c12 :: c13 :: c14 :: c15 :: c16 :: c17 :: c18 :: c19 :: c20 :: c21 :: c22 :: c23 :: c24 :: c25 :: c26 :: c27 :: c28 :: c29 :: c30 :: c31 :: c32 :: c33 :: c34 :: c35 :: c36 :: c37 :: u38 :: u39 :: u40 :: u41 :: u42 :: u43 :: u44 :: u45 :: u46 :: c47 :: []), []⟩ w') :
    Code.wp Try.prog (regionAt Try.f20 9) Q ⟨List.toArray (c0 :: c1 :: c2 :: c3 :: c4 :: c5 :: c6 :: .slice (some ⟨q, 0, none⟩) n n :: .int .i64 (k : Int) :: c9 :: c10 :: c11 :: c12 :: c13 :: c14 :: c15 :: c16 :: c17 :: c18 :: c19 :: c20 :: c21 :: c22 :: c23 :: c24 :: c25 :: c26 :: c27 :: c28 :: c29 :: c30 :: c31 :: c32 :: c33 :: c34 :: c35 :: c36 :: c37 :: c38 :: c39 :: c40 :: c41 :: c42 :: c43 :: c44 :: c45 :: c46 :: c47 :: []), []⟩ w := by
  have hml : maxLen = 9223372036854775807 := rfl
  have kFrom := cutFrom (P := Try.prog) TIn rfl q 0 n n k (by omega) (.inl hkn)
  have kTo := cutTo (P := Try.prog) TIn q 0 n n k (by omega)
  obtain ⟨m, hm⟩ : ∃ m, m = min k (n - k) := ⟨_, rfl⟩
  have hm0 : 0 < m ∧ k + m ≤ n ∧ m ≤ k := by omega
  have hw : ∀ w', Keep [] w w' → ∀ ty, _ := fun w' kk ty => copyOn x hk (Nat.le_of_lt hkn) w' (o.keep kk (by simp)) q 0 k n m hm (fun j hj => (o.keep kk (by simp)).rowR.cell (by rw [Nat.zero_add]; exact repV_at x (by omega))) ty
  clear hm o
  conv => arg 2; whnf
  refine wp_region_F [0] (segT w []) (by kernel_rfl) segT_drew ?_
  unfold segT segK segR
  repeat (first | (refine wpV_look rfl rfl rfl rfl rfl (fun K hK => ?_); go_big_quiet_op; refine hK _ ?_; clear hK K) | (refine wpV_free rfl rfl rfl rfl (fun K hK => ?_); go_big_quiet_op; refine hK _ ?_; clear hK K))
  refine wpV_tn rfl rfl (by kernel_rfl) (fun w2 hC hF => ?_)
  obtain ⟨⟨w2, hk2, -⟩, rfl⟩ := hC
  have hc := fun ty => (hw w2 hk2 ty).1
  obtain ⟨-, o2, k2⟩ := hw w2 hk2 0
  refine yields_run (run_exec_copy (hc _)) ⟨segU _, ⟨(), rfl⟩, ?_⟩
  simp only [List.set_cons_succ, List.set_cons_zero]
  clear hc
  generalize w2.setCells q k (List.replicate m (Value.int .i64 x)) = w3 at *
  have K2 := (hk2.mono (fun _ h => by simp at h : ∀ y ∈ [], y ∈ [q])).trans k2
  have hf := fun {u38 u39 u40 u41 u42 u43 u44 u45 u46 : Value} => @hQ m _ hm0.1 hm0.2.1 o2 K2 u38 u39 u40 u41 u42 u43 u44 u45 u46
  clear hQ o2 k2 K2 hF kFrom kTo hw
  unfold segU
  repeat (refine wpV_look rfl rfl rfl rfl rfl (fun K hK => ?_); go_big_quiet_op; refine hK _ ?_; clear hK K)
  refine wpV_nil ?_
  intro w9 hC hF
  obtain ⟨-, rfl⟩ := hC
  exact hf
set_option maxRecDepth 100000 in
set_option maxHeartbeats 2000000 in
theorem repeatC (x : Int) (n : Nat) (h1 : 1 ≤ n) (h2 : n ≤ 100000) (q0 : Nat) (w : World) (c0 : w.cell? ⟨q0, 0, none⟩ = some (.int .i64 x)) (R : Ending → World → Prop)
    (hR : ∀ q c w', Own w' 3 1 (some ⟨q, 0, none⟩) n c (List.replicate n (.int .i64 x)) → Grow w w' → w.heap.size ≤ q → R (.returned (.slice (some ⟨q, 0, none⟩) n c)) w') :
    Calls Try.prog 20 #[.slice (some ⟨q0, 0, none⟩) 1 1, .int .i64 (n : Int)] w R := by
  have hml : maxLen = 9223372036854775807 := rfl
  have hmu := mulC n h2
  have hmk := mkI n (by omega)
  have hg1 : decide ((n : Int) < 0) = false := decide_eq_false (by omega)
  have hg2 : decide ((9223372036854775807 : Int) < (n : Int)) = false := decide_eq_false (by omega)
  have ga := Grow.alloc w (.cells (List.replicate n (.int .i64 0)).toArray 3)
  have o0 : Own (w.alloc (.cells (List.replicate n (.int .i64 0)).toArray 3)) 3 1 (some ⟨w.heap.size, 0, none⟩) n n (repV x n 0) := by
    have := own_new (t := 3) (n := n) w (.int .i64 0) rfl (by omega)
    simpa [repV] using this
  have c1 := ga.cell c0
  have hlt := World.block_lt_of_cell? w _ c0
  simp only at hlt
  have hcp : ∀ ty, _ := fun ty => run_copyR (P := Try.prog) TIn rfl (w.alloc (.cells (List.replicate n (.int .i64 0)).toArray 3)) ty w.heap.size 0 n n q0 0 1 1 [.int .i64 x] (by show 1 = min 1 n; omega) (fun j v hj => by
    obtain rfl : j = 0 := by have := (List.getElem?_eq_some_iff.1 hj).1; simpa using this
    cases hj
    exact c1) (fun j hj => by rw [Nat.zero_add]; exact o0.rowR.there (by simp at hj; omega)) (by simp [Value.oneCell'])
  obtain ⟨o1, -⟩ := own_sets [.int .i64 x] 0 _ _ o0 (by simp; omega) (by simp [Value.oneCell'])
  have ek := Keep.setCells w.heap.size [.int .i64 x] 0 (w.alloc (.cells (List.replicate n (.int .i64 0)).toArray 3))
  have e1 := repV_spl x (n := n) (k := 0) (m := 1) (by omega)
  rw [show List.replicate 1 (Value.int .i64 x) = [.int .i64 x] from rfl] at e1
  rw [e1, Nat.zero_add] at o1
  have G1 := ga.then ek (fun y hy => by simp at hy; omega)
  obtain ⟨q, hq⟩ : ∃ q, q = w.heap.size := ⟨_, rfl⟩
  obtain ⟨W1, hW1⟩ : ∃ W1, W1 = (w.alloc (.cells (List.replicate n (.int .i64 0)).toArray 3)).setCells w.heap.size 0 [.int .i64 x] := ⟨_, rfl⟩
  rw [← hW1] at o1 G1 hcp
  simp only [List.toArray_replicate, List.length_singleton] at hcp
  rw [← hq] at o1
  clear hW1 ek e1 c1 o0 ga c0 hlt
  go_enter Try.func20, Try.ntmps20
  go_wp2_with (first
    | (refine hmu _ _ ?_)
    | (at_builtin; refine wpList_copyR rfl rfl (hcp _) ?_))
  rw [← hq]
  have hge : w.heap.size ≤ q := by omega
  clear hcp hmu hmk hg1 hg2 hq
  have h9 := @rep9
  go_loopw [8] (fun vi wr => ∃ k : Nat, vi = .int .i64 (k : Int) ∧ 1 ≤ k ∧ k ≤ n ∧ Own wr 3 1 (some ⟨q, 0, none⟩) n n (repV x n k) ∧ Grow w wr) (fun vi _ => n - (intOf vi).toNat)
  case atStart => exact ⟨1, by simp, by omega, by omega, o1, G1⟩
  case round =>
    clear o1 G1
    obtain ⟨k, rfl, hk1, hkn, o, g⟩ := hrel
    have hR0 := Lib.hid hR
    clear hR
    by_cases hlt : k < n
    · have hd : decide ((k : Int) < (n : Int)) = true := decide_eq_true (by omega)
      go_upto_region 9 with (fail)
      refine h9 x q n k hk1 hlt h2 _ o ?_
      clear o h9
      intro m w2 hm0 hmn o2 k2
      have G2 := g.then k2 (fun y hy => by simp at hy; omega)
      clear g k2 hd
      intros
      go_wp2_with fail
      exact ⟨⟨k + m, by go_num, by omega, by omega, o2, G2⟩, by simp [intOf]; omega⟩
    · obtain rfl : k = n := by omega
      have hd : decide ((k : Int) < (k : Int)) = false := decide_eq_false (by omega)
      rw [show repV x k k = List.replicate k (.int .i64 x) by simp [repV]] at o
      have hf := hR0.out q k wr o g hge
      clear hR0 h9 o g
      go_wp2_with fail
      exact hf
end Go.Proofs.Ytgchbcopbkoomaa
