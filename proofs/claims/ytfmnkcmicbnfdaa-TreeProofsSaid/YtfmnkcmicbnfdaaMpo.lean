/- Maps that a call makes and keeps: what is known of their blocks. -/
import Derived.Test.YtfmnkcmicbnfdaaGMem
import Derived.Test.YtfmnkcmicbnfdaaRows
import Derived.MapKept
import Derived.WideKeyRuns
namespace Go.Proofs.Ytfmnkcmicbnfdaa
open Go Go.RowKit

set_option linter.unusedSectionVars false
theorem run_getO {P : Program} {w : World} {r : Nat} {es : Array MapEntry} {c : Nat} (h : w.heap[r]? = some (.map es c)) : (getObj r).run P w = .ok (.map es c) w := by simp [getObj, Sem.run, h]
theorem run_setO {P : Program} {w : World} {r : Nat} {es : Array MapEntry} {c : Nat} (o : Obj) (h : w.heap[r]? = some (.map es c)) : (setObj r o).run P w = .ok () { w with heap := w.heap.setIfInBounds r o } := by simp [setObj, Sem.run, h]
section
variable {α β : Type} [DecidableEq α]
/-- Where a key is, and its element. -/
def lookN (k : α) : List (α × β) → Nat → Option (Nat × β)
  | [], _ => none
  | p :: l, i => if k = p.1 then some (i, p.2) else lookN k l (i + 1)
/-- The element of a key. -/
def look (k : α) (l : List (α × β)) : Option β := (lookN k l 0).map (·.2)
/-- With an element stored. -/
def putM (k : α) (v : β) : List (α × β) → List (α × β)
  | [] => [(k, v)]
  | p :: l => if k = p.1 then (k, v) :: l else p :: putM k v l
/-- With a key taken out. -/
def delM (k : α) : List (α × β) → List (α × β)
  | [] => []
  | p :: l => if k = p.1 then l else p :: delM k l
theorem lookN_shift (k : α) : ∀ (l : List (α × β)) (i : Nat), lookN k l i = (lookN k l 0).map fun p => (i + p.1, p.2)
  | [], _ => rfl
  | p :: l, i => by
    rw [lookN, lookN]
    split
    · rfl
    · rw [lookN_shift k l (i + 1), lookN_shift k l (0 + 1), Option.map_map]
      congr 1
      funext q
      simp; omega
theorem look_cons (k : α) (p : α × β) (l : List (α × β)) : look k (p :: l) = if k = p.1 then some p.2 else look k l := by
  unfold look
  rw [lookN]
  split
  · rfl
  · rw [lookN_shift k l (0 + 1), Option.map_map]
    rfl
theorem look_nil (k : α) : look k ([] : List (α × β)) = none := rfl
theorem look_putM (k : α) (v : β) (j : α) : ∀ l : List (α × β), look j (putM k v l) = if j = k then some v else look j l
  | [] => by rw [putM, look_cons]
  | p :: l => by
    rw [putM]
    split
    · rename_i h
      rw [look_cons, look_cons]
      by_cases hj : j = k
      · simp [hj]
      · have : ¬ j = p.1 := fun e => hj (by rw [e, h])
        simp [hj, this]
    · rename_i h
      rw [look_cons, look_cons, look_putM k v j l]
      by_cases hj : j = p.1
      · have : ¬ j = k := fun e => h (by rw [← e, hj])
        simp [hj]
        intro e
        exact absurd e.symm (by rw [← hj]; exact fun e2 => this e2.symm)
      · simp [hj]
theorem putM_new (k : α) (v : β) : ∀ l : List (α × β), look k l = none → putM k v l = l ++ [(k, v)]
  | [], _ => rfl
  | p :: l, h => by
    rw [look_cons] at h
    split at h
    · cases h
    · rename_i hk
      rw [putM, if_neg hk, putM_new k v l h]
      rfl
theorem lookN_some {k : α} : ∀ {l : List (α × β)} {i j : Nat} {v : β}, lookN k l i = some (j, v) → ∃ d, j = i + d ∧ l[d]? = some (k, v) ∧ ∀ v', l.set d (k, v') = putM k v' l
  | [], _, _, _, h => by cases h
  | p :: l, i, j, v, h => by
    rw [lookN] at h
    split at h
    · rename_i hk
      obtain ⟨rfl, rfl⟩ : i = j ∧ p.2 = v := by simpa using h
      exact ⟨0, rfl, by rw [hk]; rfl, fun v' => by rw [putM, if_pos hk]; rfl⟩
    · rename_i hk
      obtain ⟨d, h1, h2, h3⟩ := lookN_some h
      exact ⟨d + 1, by omega, by simpa using h2, fun v' => by rw [putM, if_neg hk, ← h3]; rfl⟩
theorem lookN_none {k : α} : ∀ {l : List (α × β)} {i : Nat}, lookN k l i = none → ∀ v', putM k v' l = l ++ [(k, v')]
  | [], _, _, _ => rfl
  | p :: l, i, h, v' => by
    rw [lookN] at h
    split at h
    · cases h
    · rename_i hk
      rw [putM, if_neg hk, lookN_none h v']
      rfl

/-- The map at block r has these keys and elements. -/
def Mp (ek : α → Value) (ev : β → Value) (w : World) (r : Nat) (l : List (α × β)) : Prop :=
  ∃ es c, w.heap[r]? = some (.map es c) ∧ es.toList.map (fun e => (e.key, e.val)) = l.map fun p => (ek p.1, ev p.2)
theorem Mp.keep {ek : α → Value} {ev : β → Value} {fp : List Nat} {w w' : World} {r : Nat} {l : List (α × β)} (h : Mp ek ev w r l) (k : Keep fp w w') (hr : r ∉ fp) : Mp ek ev w' r l := by
  obtain ⟨es, c, ho, he⟩ := h
  exact ⟨es, c, k.obj ho hr, he⟩
theorem Mp.grow {ek : α → Value} {ev : β → Value} {w w' : World} {r : Nat} {l : List (α × β)} (h : Mp ek ev w r l) (g : Grow w w') : Mp ek ev w' r l := h.keep (Keep.of_grow [] g) (by simp)
theorem Mp.lt {ek : α → Value} {ev : β → Value} {w : World} {r : Nat} {l : List (α × β)} (h : Mp ek ev w r l) : r < w.heap.size := by
  obtain ⟨es, c, ho, -⟩ := h
  exact (Array.getElem?_eq_some_iff.1 ho).1
theorem Mp.new (ek : α → Value) (ev : β → Value) (w : World) : Mp ek ev (w.alloc (.map #[] 0)) w.heap.size ([] : List (α × β)) := ⟨#[], 0, heap_alloc_new w _, rfl⟩

theorem run_asking {P : Program} {w : World} {kt : TypeId} {ek : α → Value} {ev : β → Value} (heq : ∀ a b : α, (Op.equal kt (ek a) (ek b)).run P w = .ok (decide (a = b)) w) (k : α) :
    ∀ (es : List MapEntry) (l : List (α × β)) (i : Nat), es.map (fun e => (e.key, e.val)) = l.map (fun p => (ek p.1, ev p.2)) → (Instr.findAsking kt (ek k) es i).run P w = .ok ((lookN k l i).map fun p => (p.1, ev p.2)) w
  | [], [], _, _ => rfl
  | [], _ :: _, _, h => by simp at h
  | _ :: _, [], _, h => by simp at h
  | e :: es, p :: l, i, h => by
    simp only [List.map_cons, List.cons.injEq, Prod.mk.injEq] at h
    rw [Instr.findAsking, Sem.run_bind, h.1.1, heq k p.1]
    simp only [Result.andThen_ok]
    by_cases hk : k = p.1
    · simp [lookN, hk, h.1.2]
    · simp only [hk, decide_false, Bool.false_eq_true, if_false, lookN]
      exact run_asking heq k es l (i + 1) h.2

/-- What a look-up tells. -/
def lookV (ev : β → Value) (z : Value) (ok : Bool) (o : Option β) : Value := match ok, o with
  | true, some v => .tuple #[ev v, .bool true]
  | true, none => .tuple #[z, .bool false]
  | false, some v => ev v
  | false, none => z
/-- A key of a map: what the operations ask of it. -/
structure KeyOk (P : Program) (kt : TypeId) (ek : α → Value) : Prop where
  wide : (match P.underlying kt with | some (.array _ _) | some (.struct _) => true | _ => false) = true
  eq : ∀ (a b : α) (w : World), (Op.equal kt (ek a) (ek b)).run P w = .ok (decide (a = b)) w
  ck : ∀ (b : Bool) (a : α) (w : World), (Instr.checkKey b 10000 kt (ek a)).run P w = .ok () w
  same : ∀ a : α, Instr.sameBits 10000 (ek a) (ek a) = true

theorem run_look {P : Program} {w : World} {T kt vt : TypeId} {ek : α → Value} {ev : β → Value} (hT : P.underlying T = some (.map kt vt)) (hk : KeyOk P kt ek) {z : Value} (hz : (zeroValue vt).run P w = .ok z w) {r : Nat} {l : List (α × β)} (m : Mp ek ev w r l) (k : α) (ok : Bool) :
    (Instr.lookup T (.map (some r)) (ek k) ok).run P w = .ok (lookV ev z ok (look k l)) w := by
  obtain ⟨es, c, ho, he⟩ := m
  have h2 : (Instr.findKey kt (ek k) es.toList).run P w = .ok ((lookN k l 0).map fun p => (p.1, ev p.2)) w := by
    rw [run_findKey_eq w hk.wide]
    exact run_asking (fun a b => hk.eq a b w) k _ l 0 he
  unfold Instr.lookup
  simp only [Sem.run_bind, run_underlying hT, Result.andThen_ok, run_getO ho, Sem.run_pure, hk.ck, h2]
  unfold look
  cases lookN k l 0 with
  | none => cases ok <;> simp [lookV, hz]
  | some p => cases ok <;> simp [lookV]

theorem run_put {P : Program} {w : World} {T kt vt : TypeId} {ek : α → Value} {ev : β → Value} (hT : P.underlying T = some (.map kt vt)) (hk : KeyOk P kt ek) {r : Nat} {l : List (α × β)} (m : Mp ek ev w r l) (k : α) (v : β) :
    ∃ w', (Instr.mapUpdate T (.map (some r)) (ek k) (ev v)).run P w = .ok () w' ∧ Mp ek ev w' r (putM k v l) ∧ Keep [r] w w' := by
  obtain ⟨es, c, ho, he⟩ := m
  have h2 : (Instr.findKey kt (ek k) es.toList).run P w = .ok ((lookN k l 0).map fun p => (p.1, ev p.2)) w := by
    rw [run_findKey_eq w hk.wide]
    exact run_asking (fun a b => hk.eq a b w) k _ l 0 he
  have hlt := (Array.getElem?_eq_some_iff.1 ho).1
  have hkeep : ∀ o, Keep [r] w { w with heap := w.heap.setIfInBounds r o } := fun o => ⟨rfl, rfl, rfl, by simp, fun i _ hn => by simp at hn; simp [Ne.symm hn]⟩
  have hat : ∀ o, (w.heap.setIfInBounds r o)[r]? = some o := fun o => by simp [hlt]
  unfold Instr.mapUpdate
  simp only [Sem.run_bind, run_underlying hT, Result.andThen_ok, run_getO ho, hk.ck, h2]
  cases hl : lookN k l 0 with
  | none =>
    refine ⟨_, by simp only [Option.map_none]; exact run_setO _ ho, ⟨_, _, hat _, ?_⟩, hkeep _⟩
    rw [lookN_none hl v]
    simp [he]
  | some p =>
    obtain ⟨j, b⟩ := p
    obtain ⟨d, hd, hat', hset⟩ := lookN_some hl
    obtain rfl : j = d := by omega
    have hlen : es.size = l.length := by simpa using congrArg List.length he
    have hjl : j < l.length := (List.getElem?_eq_some_iff.1 hat').1
    have hj : j < es.size := by omega
    have hkey : es[j].key = ek k := by
      have := congrArg (fun L => L[j]?) he
      simp only [List.getElem?_map, Array.getElem?_toList, Array.getElem?_eq_getElem hj, hat', Option.map_some, Option.some.injEq, Prod.mk.injEq] at this
      exact this.1
    refine ⟨_, by
      simp only [Option.map_some, Sem.run_bind, Array.getElem?_eq_getElem hj, Option.getD_some, hkey, Instr.keyThatStays, hk.same, if_true, Sem.run_pure, Result.andThen_ok]
      exact run_setO _ ho, ⟨_, _, hat _, ?_⟩, hkeep _⟩
    rw [← hset v]
    refine List.ext_getElem? fun i => ?_
    have hi := congrArg (fun L => L[i]?) he
    simp only [List.getElem?_map, Array.getElem?_toList] at hi ⊢
    rw [Array.getElem?_modify, List.getElem?_set]
    by_cases e : j = i
    · subst e
      simp [Array.getElem?_eq_getElem hj, hjl]
    · simp only [e, if_false]
      exact hi
end
end Go.Proofs.Ytfmnkcmicbnfdaa
