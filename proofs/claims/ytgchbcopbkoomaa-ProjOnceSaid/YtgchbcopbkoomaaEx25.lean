/- Steps in memory. -/
import Derived.Test.YtgchbcopbkoomaaRe25
namespace Go.Proofs.Ytgchbcopbkoomaa
open Go Go.RowKit

structure Ex where
  s : StX
  da : Option Addr
  dc : Nat
  ka : Option Addr
  kc : Nat
  ba : Option Addr
  bc : Nat
def Ex.dv (e : Ex) : Value := .slice e.da e.s.cmd.data.length e.dc
def Ex.kv (e : Ex) : Value := .slice e.ka e.s.keep.length e.kc
def Ex.bv (e : Ex) : Value := .slice e.ba e.s.data.length e.bc
def exV (e : Ex) : List Value := [.int .i64 e.s.kind, .int .i64 e.s.cmd.kind, .string (str e.s.cmd.pass), .string (str e.s.cmd.other), .int .i64 e.s.cmd.first, .int .i64 e.s.cmd.count, e.dv, .int .i64 e.s.n, e.kv, e.bv]
theorem exV_arr (e : Ex) : (exV e).toArray = sxV e.s e.dv e.kv e.bv := rfl
structure exG (w : World) (e : Ex) : Prop where
  d : Sl w 1 e.da e.s.cmd.data.length e.dc (e.s.cmd.data.map B)
  k : Sl w 1 e.ka e.s.keep.length e.kc (e.s.keep.map .bool)
  b : Sl w 1 e.ba e.s.data.length e.bc (e.s.data.map B)
theorem exG.grow {w w' : World} {e : Ex} (h : exG w e) (g : Grow w w') : exG w' e := ⟨h.d.grow g, h.k.grow g, h.b.grow g⟩
theorem exV_len (e : Ex) : (exV e).length = 10 := rfl
theorem exV_one (e : Ex) : ∀ v ∈ exV e, v.oneCell' = true := by simp [exV, Ex.dv, Ex.kv, Ex.bv, Value.oneCell']
theorem exs_len (l : List Ex) : (l.flatMap exV).length = l.length * 10 := by
  induction l with
  | nil => rfl
  | cons c cs ih => simp only [List.flatMap_cons, List.length_append] at ih ⊢; rw [ih, List.length_cons, exV_len]; omega
theorem exs_one (l : List Ex) : ∀ v ∈ l.flatMap exV, v.oneCell' = true := by
  intro v hv
  obtain ⟨c, -, hc⟩ := List.mem_flatMap.1 hv
  exact exV_one c v hc
theorem exs_at (l : List Ex) (i : Nat) (h : i < l.length) (j : Nat) (hj : j < 10) : (l.flatMap exV)[i * 10 + j]? = (exV l[i])[j]? := by
  have h1 : l.flatMap exV = (l.take i).flatMap exV ++ (exV l[i] ++ (l.drop (i + 1)).flatMap exV) := by
    conv => lhs; rw [← List.take_append_drop i l, List.flatMap_append, List.drop_eq_getElem_cons h]
    rfl
  have h2 : ((l.take i).flatMap exV).length = i * 10 := by rw [exs_len, List.length_take, Nat.min_eq_left (by omega)]
  rw [h1, List.getElem?_append_right (by omega), h2, Nat.add_sub_cancel_left, List.getElem?_append_left (by rw [exV_len]; omega)]
theorem cells_ex {w : World} {g off : Nat} {l : List Ex} (h : Cells w g off (l.flatMap exV)) (i : Nat) (hi : i < l.length) : Cells w g (off + i * 10) (exV l[i]) := fun j hj => by
  have := h.at (i := i * 10 + j) (v := (exV l[i])[j]) (by rw [exs_at l i hi j hj, List.getElem?_eq_getElem hj])
  rw [Nat.add_assoc]; exact this
theorem Cells.range {w : World} {g off : Nat} {xs : List Value} (h : Cells w g off xs) : w.rangeAt g off xs := fun _ _ hv => h.at hv
theorem i10 : (Try.prog.info? 41).map (·.size) = some 10 := by kernel_rfl
theorem i10r : (Try.prog.info? 38).map (·.size) = some 10 := by kernel_rfl
theorem newvarZ {t : TypeId} {n : Nat} {F : List Value} (w : World) (Z : List Value) (hZ : Z.length = n) (hz : ∀ v ∈ Z, v.oneCell' = true) (hm : n ≤ maxLen) (hF : F.length = n) (h1 : ∀ v ∈ F, v.oneCell' = true) :
    Own ((w.alloc (.cells Z.toArray t)).setCells w.heap.size 0 F) t 1 (some ⟨w.heap.size, 0, none⟩) n n F ∧ Grow w ((w.alloc (.cells Z.toArray t)).setCells w.heap.size 0 F) ∧ (w.alloc (.cells Z.toArray t)).there w.heap.size 0 F.toArray.size ∧ F.toArray.all (·.oneCell') = true := by
  have o : Own (w.alloc (.cells Z.toArray t)) t 1 (some ⟨w.heap.size, 0, none⟩) n n Z := Own.made (n := n) (sz := 1) (heap_alloc_new w (.cells Z.toArray t)) (by simp [hZ]) hm (by simpa using hz)
  exact ⟨own_whole o hF h1, (Grow.alloc w _).then (Keep.setCells _ F 0 _) (fun x hx => by simp at hx; omega), own_there o _ (by simpa using hF), one_all h1⟩
theorem exec_built {P : Program} {w : World} {dst : Option Tmp} {ty t : TypeId} {pos : String} {after : Array Edge} {gd : Option (Nat × Bool)} {ρ : Operand → Value} (ps : List (Nat × Operand)) {vs : List (Nat × Value)} {cells : Array Value}
    (hv : (ps.map fun (i, x) => (i, ρ x)) = vs) (h : P.built t vs = some cells) :
    (execOp ρ ⟨dst, .build t ps.toArray, ty, pos, after, gd⟩).run P w = .ok (.value (.agg cells)) w := by
  subst hv
  unfold execOp
  simp only [Sem.run_bind, List.map_toArray, run_build w t (ps.map fun (i, x) => (i, ρ x)).toArray cells (by simpa using h), Result.andThen_ok, Sem.run_pure]
def stZ : List Value := [.int .i64 0, .int .i64 0, .string .empty, .string .empty, .int .i64 0, .int .i64 0, .slice none 0 0, .int .i64 0, .slice none 0 0, .slice none 0 0]
theorem stZ_one : ∀ v ∈ stZ, v.oneCell' = true := by simp [stZ, Value.oneCell']
theorem TSt : ST Try.prog 25 41 10 144 := ST.mk' (z := .agg #[.int .i64 0, .int .i64 0, .string .empty, .string .empty, .int .i64 0, .int .i64 0, .slice none 0 0, .int .i64 0, .slice none 0 0, .slice none 0 0]) Try.underlying25 (by kernel_rfl) (by kernel_rfl) (by decide)
theorem TSr : ST Try.prog 22 38 10 144 := ST.mk' (z := .agg #[.int .i64 0, .int .i64 0, .string .empty, .string .empty, .int .i64 0, .int .i64 0, .slice none 0 0, .int .i64 0, .slice none 0 0, .slice none 0 0]) Try.underlying22 (by kernel_rfl) (by kernel_rfl) (by decide)

/-! What is plain -/
def Fit (x : Sy) (r : Option (Int × Sy)) : Prop := ∀ k y, r = some (k, y) → (k = 1 ∨ k = 2 ∨ k = 3) ∧ y.wr.length ≤ x.wr.length + 1
theorem Fit.no (x : Sy) : Fit x none := fun _ _ h => by cases h
theorem Fit.yes {x y : Sy} {k : Int} (h1 : k = 1 ∨ k = 2 ∨ k = 3) (h2 : y.wr.length ≤ x.wr.length + 1) : Fit x (some (k, y)) := fun _ _ h => by
  simp only [Option.some.injEq, Prod.mk.injEq] at h
  obtain ⟨rfl, rfl⟩ := h
  exact ⟨h1, h2⟩
theorem Fit.ite {x : Sy} {c : Prop} [Decidable c] {a b : Option (Int × Sy)} (h1 : Fit x a) (h2 : Fit x b) : Fit x (if c then a else b) := by
  split
  · exact h1
  · exact h2
theorem shadeS_fit (m : Int) : shadeS m = 1 ∨ shadeS m = 2 ∨ shadeS m = 3 := by unfold shadeS; split <;> simp
theorem stepS_fit (S : Nat) (x : Sy) (s : StX) : Fit x (stepS S x s) := by
  have hn := Fit.no x
  have hsh : ∀ (y : Sy) m, y.wr.length ≤ x.wr.length + 1 → Fit x (some (shadeS m, y)) := fun y m h => Fit.yes (shadeS_fit m) h
  have hw : Fit x (writeS S x s.cmd) := by
    unfold writeS
    refine Fit.ite (Fit.ite (Fit.yes (by simp) (by simp)) (Fit.ite hn (Fit.ite (Fit.yes (by simp) (by simp)) (Fit.yes (by simp) (by simp))))) hn
  have hh : Fit x (heldS S x s.cmd) := by
    unfold heldS
    exact Fit.ite hn (Fit.ite (Fit.ite (hsh _ _ (by simp)) hn) (Fit.ite hw (Fit.ite (hsh _ _ (by simp)) (hsh _ _ (by simp)))))
  have hl : Fit x (looseS S x s.cmd) := by
    unfold looseS createS changeS
    exact Fit.ite hn (Fit.ite (Fit.ite (Fit.yes (by simp) (by simp)) hn) (Fit.ite (Fit.ite hn (Fit.ite (Fit.yes (by simp) (by simp)) (Fit.yes (by simp) (by simp)))) (Fit.ite (Fit.ite (Fit.yes (by simp) (by simp)) hn) (Fit.ite hn (hsh _ _ (by simp))))))
  unfold stepS
  refine Fit.ite hn ?_
  split
  · exact Fit.ite (Fit.yes (by simp) (by simp)) hn
  · exact Fit.ite hl (Fit.ite hh hn)
theorem stepS_kind {S : Nat} {x y : Sy} {s : StX} {k : Int} (h : stepS S x s = some (k, y)) : (k = 1 ∨ k = 2 ∨ k = 3) ∧ y.wr.length ≤ x.wr.length + 1 := stepS_fit S x s k y h
theorem kindsS_drop {S : Nat} {x : Sy} {s : StX} {l : List StX} : kindsS S x (s :: l) = match stepS S x s with
    | none => none
    | some (k, y) => (kindsS S y l).map (k :: ·) := rfl
end Go.Proofs.Ytgchbcopbkoomaa
