/- Operations whose run is known by an equation; rows that are written; slices cut at plain addresses. -/
import Derived.Test.YtaepfkpfageiaaaSpare
import Derived.Laws.IdiomCopy
import Derived.Lib.AppendZerosOnto
import Derived.Lib.SliceRun
namespace Go.Proofs.Ytaepfkpfageiaaa
open Go Go.RowKit

theorem wpList_exec {P : Program} {w : World} {ops : Array Oper} {rest : List Oper} {o : Oper} {a : Act} {Q : Exit → Act → World → Prop} (hg : o.guard = none) {v : Value} {w' : World} (h : (execOp a.eval o).run P w = .ok (.value v) w')
    (k : wpList P ops Q rest (a.put o.dst v) w') : wpList P ops Q (o :: rest) a w := by
  refine wpList_plain hg fun K hK => ?_
  unfold Oper.wp
  rw [h]
  exact hK _ _ k
theorem run_exec_copy {P : Program} {dst : Option Tmp} {s x : Operand} {t t2 ty : TypeId} {pos : String} {after : Array Edge} {guard : Option (Nat × Bool)} {ρ : Operand → Value} {w w' : World} {v : Value}
    (h : (Builtin.copy_ #[t, t2] ty #[ρ s, ρ x]).run P w = .ok v w') :
    (execOp ρ ⟨dst, .call { callee := .builtin .copy, args := #[s, x], argTypes := #[t, t2] }, ty, pos, after, guard⟩).run P w = .ok (.value v) w' := by
  simp only [BigFrame.execOp_builtin, BigFrame.builtin_copy, List.map_toArray, List.map_cons, List.map_nil, Sem.run_bind, h, Result.andThen_ok, Sem.run_pure]
theorem run_exec_append2 {P : Program} {dst : Option Tmp} {s x : Operand} {t t2 ty : TypeId} {pos : String} {after : Array Edge} {guard : Option (Nat × Bool)} {ρ : Operand → Value} {w w' : World} {v : Value}
    (h : (Builtin.append_ #[t, t2] ty #[ρ s, ρ x]).run P w = .ok v w') :
    (execOp ρ ⟨dst, .call { callee := .builtin .append, args := #[s, x], argTypes := #[t, t2] }, ty, pos, after, guard⟩).run P w = .ok (.value v) w' := by
  simp only [BigFrame.execOp_builtin, BigFrame.builtin_append, List.map_toArray, List.map_cons, List.map_nil, Sem.run_bind, h, Result.andThen_ok, Sem.run_pure]
/-- A copy, in a walk. -/
theorem wpList_copyR {P : Program} {w : World} {ops : Array Oper} {rest : List Oper} {a : Act} {Q : Exit → Act → World → Prop} {dst : Option Tmp} {s x : Operand} {t t2 ty : TypeId} {pos : String} {after : Array Edge} {v u r : Value} {w' : World}
    (hs : a.eval s = v) (hx : a.eval x = u) (h : (Builtin.copy_ #[t, t2] ty #[v, u]).run P w = .ok r w') (k : wpList P ops Q rest (a.put dst r) w') :
    wpList P ops Q (⟨dst, .call { callee := .builtin .copy, args := #[s, x], argTypes := #[t, t2] }, ty, pos, after, none⟩ :: rest) a w :=
  wpList_exec rfl (run_exec_copy (by rw [hs, hx]; exact h)) k
theorem wpList_appendR {P : Program} {w : World} {ops : Array Oper} {rest : List Oper} {a : Act} {Q : Exit → Act → World → Prop} {dst : Option Tmp} {s x : Operand} {t t2 ty : TypeId} {pos : String} {after : Array Edge} {v u r : Value} {w' : World}
    (hs : a.eval s = v) (hx : a.eval x = u) (h : (Builtin.append_ #[t, t2] ty #[v, u]).run P w = .ok r w') (k : wpList P ops Q rest (a.put dst r) w') :
    wpList P ops Q (⟨dst, .call { callee := .builtin .append, args := #[s, x], argTypes := #[t, t2] }, ty, pos, after, none⟩ :: rest) a w :=
  wpList_exec rfl (run_exec_append2 (by rw [hs, hx]; exact h)) k

/-- .. at a frame that is written out. -/
theorem wpList_copyL {P : Program} {w : World} {ops : Array Oper} {rest : List Oper} {l : List Value} {df : List Deferred} {Q : Exit → Act → World → Prop} {d : Nat} {s x : Operand} {t t2 ty : TypeId} {pos : String} {after : Array Edge} {v u r : Value} {w' : World}
    (hs : (Act.mk l.toArray df).eval s = v) (hx : (Act.mk l.toArray df).eval x = u) (h : (Builtin.copy_ #[t, t2] ty #[v, u]).run P w = .ok r w') (k : wpList P ops Q rest ⟨(l.set d r).toArray, df⟩ w') :
    wpList P ops Q (⟨some d, .call { callee := .builtin .copy, args := #[s, x], argTypes := #[t, t2] }, ty, pos, after, none⟩ :: rest) ⟨l.toArray, df⟩ w :=
  wpList_copyR hs hx h (by simpa [Act.put] using k)
theorem wpList_appendL {P : Program} {w : World} {ops : Array Oper} {rest : List Oper} {l : List Value} {df : List Deferred} {Q : Exit → Act → World → Prop} {d : Nat} {s x : Operand} {t t2 ty : TypeId} {pos : String} {after : Array Edge} {v u r : Value} {w' : World}
    (hs : (Act.mk l.toArray df).eval s = v) (hx : (Act.mk l.toArray df).eval x = u) (h : (Builtin.append_ #[t, t2] ty #[v, u]).run P w = .ok r w') (k : wpList P ops Q rest ⟨(l.set d r).toArray, df⟩ w') :
    wpList P ops Q (⟨some d, .call { callee := .builtin .append, args := #[s, x], argTypes := #[t, t2] }, ty, pos, after, none⟩ :: rest) ⟨l.toArray, df⟩ w :=
  wpList_appendR hs hx h (by simpa [Act.put] using k)

/-- A row of the call's own, whatever is in it. -/
def Row (w : World) (e : TypeId) (g n cap : Nat) (xs : List Value) : Prop := w.ownsRow 0 e 1 (.slice (some ⟨g, 0, none⟩) n cap) n xs
theorem Own.rowR {w : World} {e : TypeId} {g n cap : Nat} {xs : List Value} (h : Own w e 1 (some ⟨g, 0, .none⟩) n cap xs) : Row w e g n cap xs := h.row
theorem Row.own {w : World} {e : TypeId} {g n cap : Nat} {xs : List Value} (h : Row w e g n cap xs) (h1 : ∀ u ∈ xs, u.oneCell' = true) : Own w e 1 (some ⟨g, 0, none⟩) n cap xs := ⟨h, h1⟩
theorem Row.form {w : World} {e : TypeId} {g n cap : Nat} {xs : List Value} (h : Row w e g n cap xs) : ∃ cur : Array Value, w.heap[g]? = some (.cells cur e (0, 0)) ∧ n ≤ cap ∧ cap ≤ maxLen ∧ cur.size = cap ∧ cur.toList.take n = xs ∧ xs.length = n := by
  rcases h.2 with ⟨hv, _⟩ | ⟨g', cap', cur, hv, _, hh, h1, h2, h3, h4⟩
  · simp at hv
  · obtain ⟨rfl, rfl⟩ : g = g' ∧ cap = cap' := by simpa using hv
    exact ⟨cur, hh, h1, h2, by omega, by simpa using h4, by simpa using h.1⟩
theorem Row.mk' {w : World} {e : TypeId} {g n cap : Nat} {cur : Array Value} (hh : w.heap[g]? = some (.cells cur e (0, 0))) (h1 : n ≤ cap) (h2 : cap ≤ maxLen) (h3 : cur.size = cap) : Row w e g n cap (cur.toList.take n) :=
  ⟨by simp; omega, .inr ⟨g, cap, cur, rfl, Nat.zero_le _, hh, h1, h2, by omega, by simp⟩⟩
theorem Row.keep {fp : List Nat} {w w' : World} {e : TypeId} {g n cap : Nat} {xs : List Value} (h : Row w e g n cap xs) (k : Keep fp w w') (hg : g ∉ fp) : Row w' e g n cap xs := by
  obtain ⟨cur, hh, h1, h2, h3, rfl, _⟩ := h.form
  exact Row.mk' (k.obj hh hg) h1 h2 h3
theorem Row.cell {w : World} {e : TypeId} {g n cap : Nat} {xs : List Value} (h : Row w e g n cap xs) {j : Nat} {v : Value} (hj : xs[j]? = some v) : w.cell? ⟨g, j, none⟩ = some v := by
  obtain ⟨cur, hh, h1, h2, h3, rfl, _⟩ := h.form
  rw [cell_of_row w g j cur e (0, 0) hh]
  rw [List.getElem?_take] at hj
  split at hj
  · simpa using hj
  · cases hj
theorem Row.there {w : World} {e : TypeId} {g n cap : Nat} {xs : List Value} (h : Row w e g n cap xs) {j : Nat} (hj : j < cap) : (w.cell? ⟨g, j, none⟩).isSome = true ∧ w.frozen? ⟨g, j, none⟩ = false := by
  obtain ⟨cur, hh, h1, h2, h3, _, _⟩ := h.form
  refine ⟨?_, obj_free hh j⟩
  rw [cell_of_row w g j cur e (0, 0) hh, Array.getElem?_eq_getElem (by omega)]
  rfl
theorem Row.lt {w : World} {e : TypeId} {g n cap : Nat} {xs : List Value} (h : Row w e g n cap xs) : g < w.heap.size := by
  obtain ⟨cur, hh, _⟩ := h.form
  exact (Array.getElem?_eq_some_iff.1 hh).1
/-- Longer, within the capacity. -/
theorem Row.ext {w : World} {e : TypeId} {g n cap m : Nat} {xs : List Value} (h : Row w e g n cap xs) (hm : m ≤ cap) (hn : n ≤ m) : ∃ ys, Row w e g m cap (xs ++ ys) ∧ ys.length = m - n := by
  obtain ⟨cur, hh, h1, h2, h3, rfl, h5⟩ := h.form
  refine ⟨(cur.toList.drop n).take (m - n), ?_, by simp; omega⟩
  have := Row.mk' (n := m) hh hm h2 h3
  rw [show m = n + (m - n) by omega, List.take_add] at this
  rwa [show n + (m - n) = m by omega] at this
/-- vs in the place of what was there from off on. -/
def spl (l : List Value) (off : Nat) (vs : List Value) : List Value := l.take off ++ vs ++ l.drop (off + vs.length)
theorem Row.sets {e : TypeId} {g n cap : Nat} : ∀ (vs : List Value) (o : Nat) (xs : List Value) (w : World), Row w e g n cap xs → o + vs.length ≤ n → Row (w.setCells g o vs) e g n cap (spl xs o vs)
  | [], o, xs, w, h, _ => by simpa [spl, World.setCells] using h
  | v :: vs, o, xs, w, h, hl => by
    have h1 : Row (w.setCell ⟨g, o, none⟩ v) e g n cap (xs.set o v) := (World.ownsRow.stored h o v).1
    simp only [List.length_cons] at hl
    have h2 := Row.sets vs (o + 1) (xs.set o v) (w.setCell ⟨g, o, none⟩ v) h1 (by omega)
    have hx : xs.length = n := h.form.choose_spec.2.2.2.2.2
    have e1 : spl (xs.set o v) (o + 1) vs = spl xs o (v :: vs) := by
      unfold spl
      rw [List.take_add_one, List.take_set_of_le (by omega), List.getElem?_set_self (by omega), List.drop_set_of_lt (by omega)]
      simp only [Option.toList_some, List.append_assoc, List.cons_append, List.nil_append, List.length_cons]
      rw [show o + 1 + vs.length = o + (vs.length + 1) by omega]
    rw [e1] at h2
    exact h2
/-- x[l:], x[:h] at plain addresses. -/
theorem cutFrom {P : Program} {t e : TypeId} {sz bytes : Nat} (T : ST P t e sz bytes) (hsz : sz = 1) (g o n cap lo : Nat) (h1 : lo ≤ n) (h3 : lo < cap ∨ lo = 0) (w' : World) :
    (Instr.sliceAt t (.slice (some ⟨g, o, none⟩) n cap) (some (.int .i64 (lo : Int))) none none).run P w' = .ok (.slice (some ⟨g, o + lo, none⟩) (n - lo) (cap - lo)) w' := by
  obtain ⟨i, z, hi', hz, hs, hby, hzs, h0⟩ := T.info
  have e2 : (0 : Int) ≤ lo ∧ (lo : Int) ≤ (n : Nat) := by omega
  simp [Instr.sliceAt, Instr.slice, run_underlying T.und, Instr.sliceBounds, Instr.sliceBound, asIntOf, e2, sizeOf, typeInfo, hi', hs, hsz, h1, add_plain]
  intro hc
  rcases h3 with h3 | h3
  · omega
  · omega
theorem cutTo {P : Program} {t e : TypeId} {sz bytes : Nat} (T : ST P t e sz bytes) (g o n cap hi : Nat) (h2 : hi ≤ cap) (w' : World) :
    (Instr.sliceAt t (.slice (some ⟨g, o, none⟩) n cap) none (some (.int .i64 (hi : Int))) none).run P w' = .ok (.slice (some ⟨g, o, none⟩) hi cap) w' := by
  obtain ⟨i, z, hi', -, -, -, -, -⟩ := T.info
  have e2 : (0 : Int) ≤ hi ∧ (hi : Int) ≤ (cap : Nat) := by omega
  simp [Instr.sliceAt, Instr.slice, run_underlying T.und, Instr.sliceBounds, Instr.sliceBound, asIntOf, e2, sizeOf, typeInfo, hi', h2, add_plain]
theorem run_copyR {P : Program} {t e : TypeId} {sz bytes : Nat} (T : ST P t e sz bytes) (hsz : sz = 1) (w : World) (ty : TypeId) (b o dn dc sb so sn sc : Nat) (cs : List Value) (hn : cs.length = Nat.min sn dn)
    (hsrc : ∀ j v, cs[j]? = some v → w.cell? ⟨sb, so + j, none⟩ = some v) (hc : ∀ j, j < cs.length → (w.cell? ⟨b, o + j, none⟩).isSome = true ∧ w.frozen? ⟨b, o + j, none⟩ = false) (h1 : ∀ v ∈ cs, v.oneCell' = true) :
    (Builtin.copy_ #[t, t] ty #[.slice (some ⟨b, o, none⟩) dn dc, .slice (some ⟨sb, so, none⟩) sn sc]).run P w = .ok (goInt cs.length) (w.setCells b o cs) := by
  obtain ⟨i, z, hi', hz, hs, hby, hzs, h0⟩ := T.info
  exact run_copy_cells w t t ty e b o dn dc ⟨sb, so, none⟩ sn sc cs T.und (by rw [hi']; simp [hs, hsz]) hn (fun j v hj => by rw [add_plain]; exact hsrc j v hj) (fun j hj => (hc j hj).1) (fun j hj => (hc j hj).2) h1
end Go.Proofs.Ytaepfkpfageiaaa
