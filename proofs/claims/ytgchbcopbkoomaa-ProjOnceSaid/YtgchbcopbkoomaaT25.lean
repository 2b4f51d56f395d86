/- Tools for memory: GSha2, GSha3, GNew, GTab, GSha3, GTabE, Want, GHt2, HtVh, HtPl, HtQ, GHt5, PqT. -/
import Derived.Test.YtgchbcopbkoomaaGMem
import Derived.Lib.ConvBytes
import Derived.Deep.MidRow
import Derived.Deep.DeepCutAuto
import Derived.Lib.Hide
import Derived.WalkMore
import Derived.Deep.OwnRows
import Derived.Test.YtgchbcopbkoomaaRows
namespace Go.Proofs.Ytgchbcopbkoomaa
open Go Go.RowKit

theorem Keep.setCells (g : Nat) : ∀ (vs : List Value) (o : Nat) (w : World), Keep [g] w (w.setCells g o vs)
  | [], _, w => Keep.refl _ w
  | v :: r, o, w => (Keep.setCell (fp := [g]) w ⟨g, o, none⟩ (by simp) v).trans (Keep.setCells g r (o + 1) _)
/-- A store into a block of the call's own. -/
theorem own_put {w : World} {e : TypeId} {sz : Nat} {ao : Option Addr} {n cap : Nat} {xs : List Value} (h : Own w e sz ao n cap xs) {i : Nat} (hi : i < n * sz) :
    ∃ g v, ao = some ⟨g, 0, none⟩ ∧ w.cell? ⟨g, i, none⟩ = some v ∧ w.frozen? ⟨g, i, none⟩ = false ∧ ∀ u : Value, u.oneCell' = true → Own (w.setCell ⟨g, i, none⟩ u) e sz ao n cap (xs.set i u) := by
  obtain ⟨g, off, rfl, hc⟩ := h.sl.hat (by rcases Nat.eq_zero_or_pos n with h | h; subst h; simp at hi; exact h)
  have h0 : off = 0 := by
    rcases h.row.2 with ⟨hv, -⟩ | ⟨g', cap', cur, hv, -⟩
    · simp at hv
    · simp only [Value.slice.injEq, Option.some.injEq, Addr.mk.injEq, and_true] at hv
      exact hv.1.2
  subst h0
  have hl := h.row.1
  have := hc i (by omega)
  rw [Nat.zero_add] at this
  refine ⟨g, _, rfl, this, h.row.frozenAt i, fun u hu => ⟨(h.row.stored i u).1, fun v hv => ?_⟩⟩
  rcases List.mem_or_eq_of_mem_set hv with h' | h'
  · exact h.one v h'
  · exact h' ▸ hu
/-- A whole array stored. -/
theorem own_setCells {e : TypeId} {g n : Nat} : ∀ (vs : List Value) (o : Nat) (xs : List Value) (w : World), Own w e 1 (some ⟨g, 0, none⟩) n n xs → o + vs.length = n → (∀ v ∈ vs, v.oneCell' = true) → Own (w.setCells g o vs) e 1 (some ⟨g, 0, none⟩) n n (xs.take o ++ vs)
  | [], o, xs, w, h, hl, _ => by
    have := h.row.1
    simp only [List.length_nil, Nat.add_zero] at hl
    rw [List.take_of_length_le (by omega), List.append_nil]
    exact h
  | v :: r, o, xs, w, h, hl, h1 => by
    have hx := h.row.1
    simp only [List.length_cons] at hl
    obtain ⟨g', u, e', -, -, hs⟩ := own_put h (i := o) (by omega)
    cases e'
    have := own_setCells r (o + 1) (xs.set o v) (w.setCell ⟨g, o, none⟩ v) (hs v (h1 v (by simp))) (by omega) (fun x hx => h1 x (by simp [hx]))
    rw [World.setCells]
    rwa [show (xs.set o v).take (o + 1) = xs.take o ++ [v] by rw [List.take_add_one, List.take_set_of_le (by omega), List.getElem?_set_self (by omega)]; rfl, List.append_assoc] at this
theorem own_whole {w : World} {e : TypeId} {g n : Nat} {X Y : List Value} (o : Own w e 1 (some ⟨g, 0, none⟩) n n X) (hY : Y.length = n) (h1 : ∀ v ∈ Y, v.oneCell' = true) : Own (w.setCells g 0 Y) e 1 (some ⟨g, 0, none⟩) n n Y := by
  have := own_setCells Y 0 X w o (by omega) h1
  simpa using this
theorem own_there {w : World} {e : TypeId} {g n : Nat} {X : List Value} (o : Own w e 1 (some ⟨g, 0, none⟩) n n X) (m : Nat) (hm : m = n) : w.there g 0 m := fun j hj => by
  obtain ⟨g3, v, eg, hv, hfz, -⟩ := own_put o (i := j) (by omega)
  cases eg
  rw [Nat.zero_add]
  exact ⟨by rw [hv]; rfl, hfz⟩
theorem one_all {F : List Value} (h : ∀ v ∈ F, v.oneCell' = true) : F.toArray.all (·.oneCell') = true := by
  rw [Array.all_eq_true_iff_forall_mem]
  intro v hv
  exact h v (by simpa using hv)
theorem own_new {t : TypeId} {n : Nat} (w : World) (z : Value) (hz : z.oneCell' = true) (hm : n ≤ maxLen) : Own (w.alloc (.cells (List.replicate n z).toArray t)) t 1 (some ⟨w.heap.size, 0, none⟩) n n (List.replicate n z) :=
  Own.made (n := n) (sz := 1) (heap_alloc_new w (.cells (List.replicate n z).toArray t)) (by simp) hm (by intro u hu; have hu' : u ∈ List.replicate n z := hu; rw [List.eq_of_mem_replicate hu']; exact hz)
theorem newvar {t : TypeId} {n : Nat} {F : List Value} (w : World) (z : Value) (hz : z.oneCell' = true) (hm : n ≤ maxLen) (hF : F.length = n) (h1 : ∀ v ∈ F, v.oneCell' = true) :
    Own ((w.alloc (.cells (List.replicate n z).toArray t)).setCells w.heap.size 0 F) t 1 (some ⟨w.heap.size, 0, none⟩) n n F ∧ Grow w ((w.alloc (.cells (List.replicate n z).toArray t)).setCells w.heap.size 0 F) ∧ (w.alloc (.cells (List.replicate n z).toArray t)).there w.heap.size 0 F.toArray.size ∧ F.toArray.all (·.oneCell') = true := by
  have o := own_new (t := t) w z hz hm
  exact ⟨own_whole o hF h1, (Grow.alloc w _).then (Keep.setCells _ F 0 _) (fun x hx => by simp at hx; omega), own_there o _ (by simpa using hF), one_all h1⟩
/-- .. the array read back. -/
theorem own_range {w : World} {e : TypeId} {g n : Nat} {F : List Value} (o : Own w e 1 (some ⟨g, 0, none⟩) n n F) (h : 0 < n) : w.rangeAt g 0 F := fun j v hj => by
  obtain ⟨g', off', eg, hcs⟩ := o.sl.hat h
  cases eg
  exact hcs.at hj
theorem alloc_new (w : World) (o : Obj) : (w.alloc o).heap[w.heap.size]? = some o := heap_alloc_new w o
theorem conv_str {P : Program} {src dst e : TypeId} (hs : P.underlying src = some .string) (hd : P.underlying dst = some (.slice e)) (he : P.underlying e = some (.int .u8)) (s : ByteArray) (l : List UInt8) (hl : s.data.toList = l) (hm : l.length ≤ 1000000) (w : World) :
    ∃ c w', (convert src dst (.string s)).run P w = .ok (.slice (some ⟨w.heap.size, 0, none⟩) l.length c) w' ∧ Sl w' 1 (some ⟨w.heap.size, 0, none⟩) l.length c (l.map B) ∧ Grow w w' := by
  have hsz : s.size = l.length := by rw [← hl]; rfl
  have hr := Lib.run_convert_string_bytes (P := P) w src dst e s hs hd he
  rw [hsz] at hr
  refine ⟨_, _, hr, ⟨grownCap_ge _ _ _ _, grownCap_le_maxLen _ _ _ _ (by unfold maxLen; omega), by simp, B_one l, by simp, fun _ => ⟨_, 0, rfl, fun i hi => ?_⟩⟩, ⟨rfl, rfl, rfl, by rw [Lib.bytesWorld_size]; omega, fun k hk => Lib.bytesWorld_at_old w e s k hk⟩⟩
  have hi' : i < l.length := by simpa using hi
  rw [Nat.zero_add, Lib.bytesWorld_cell w e s i (by omega), hl]
  simp [B, hi']
theorem sz_al (w : World) (o : Obj) : (w.alloc o).heap.size = w.heap.size + 1 := Array.size_push _
structure Pr where
  p : Value → World → Prop
  st : ∀ {v w w'}, Keep [] w w' → p v w → p v w'
def VT (T : List (Nat × Pr)) (i : Nat) (_ : Array Value) (v : Value) (w : World) : Prop := match T.lookup i with
  | some q => q.p v w
  | none => True
theorem VT_st (T : List (Nat × Pr)) (i : Nat) (vs : Array Value) (v : Value) (w w' : World) (k : Keep [] w w') (h : VT T i vs v w) : VT T i vs v w' := by
  unfold VT at *
  split at h
  · exact Pr.st _ k h
  · trivial
def segT (w0 : World) (T : List (Nat × Pr)) : Seg := segK [] w0 (T.map (·.1)) (VT T) (VT_st T)
theorem segT_drew {w0 : World} {T : List (Nat × Pr)} : (segT w0 T).C w0.drew := segK_drew
/-- The value x. -/
def pIs (x : Value) : Pr := ⟨fun v _ => v = x, fun _ h => h⟩
/-- A slice that reads these bytes. -/
def pBy (l : List UInt8) : Pr := ⟨fun v w => ∃ ao c, v = .slice ao l.length c ∧ Sl w 1 ao l.length c (l.map B), fun k ⟨ao, c, e, h⟩ => ⟨ao, c, e, h.keep k (by simp)⟩⟩
/-- A slice of the call's own. -/
def pOw (e : TypeId) (sz n : Nat) (xs : List Value) : Pr := ⟨fun v w => ∃ ao c, v = .slice ao n c ∧ Own w e sz ao n c xs, fun k ⟨ao, c, h1, h⟩ => ⟨ao, c, h1, h.keep k (by simp)⟩⟩
theorem load_arr {P : Program} {t : TypeId} {g n : Nat} {X : List Value} {d : TypeDesc} {w : World} (h0 : 0 < n) (hX : X.length = n) (o : Own w t 1 (some ⟨g, 0, none⟩) n n X) (hu : P.underlying t = some d) (hd : d.isRow = true) (hi : (P.info? t).map (·.size) = some n) :
    (Instr.loadAt t (.pointer (some ⟨g, 0, none⟩))).run P w = .ok (.agg X.toArray) w := by
  obtain ⟨g', off', eg, hc⟩ := o.sl.hat (by omega)
  cases eg
  exact run_ld hu hd (by rw [hX]; exact hi) hc
theorem store_arr {P : Program} {t : TypeId} {g n : Nat} {X Y : List Value} {w : World} (hX : X.length = n) (h1 : ∀ v ∈ X, v.oneCell' = true) (o : Own w t 1 (some ⟨g, 0, none⟩) n n Y) (hi : (P.info? t).map (·.size) = some n) :
    (Instr.storeAt t (.pointer (some ⟨g, 0, none⟩)) (.agg X.toArray)).run P w = .ok () (w.setCells g 0 X) ∧ Own (w.setCells g 0 X) t 1 (some ⟨g, 0, none⟩) n n X ∧ Keep [g] w (w.setCells g 0 X) := by
  refine ⟨?_, own_whole o hX h1, Keep.setCells _ _ _ _⟩
  have := run_storeAt_mid (P := P) w g 0 t X.toArray (own_there o _ (by simpa using hX)) (by rw [hi]; simp [hX]) (one_all h1)
  simpa using this
theorem exec_store {P : Program} {t ty : TypeId} {a x : Operand} {pos : String} {after : Array Edge} {gd : Option (Nat × Bool)} {ρ : Operand → Value} {w w' : World} (h : (Instr.storeAt t (ρ a) (ρ x)).run P w = .ok () w') :
    (execOp ρ ⟨none, .store t a x, ty, pos, after, gd⟩).run P w = .ok .skip w' := by
  have : execOp ρ ⟨none, .store t a x, ty, pos, after, gd⟩ = (do Instr.storeAt t (ρ a) (ρ x); pure Next.skip) := rfl
  rw [this, Sem.run_bind, h]; rfl
theorem exec_conv {P : Program} {src dst ty : TypeId} {x : Operand} {d : Option Tmp} {pos : String} {after : Array Edge} {gd : Option (Nat × Bool)} {ρ : Operand → Value} {w w' : World} {v : Value} (h : (convert src dst (ρ x)).run P w = .ok v w') :
    (execOp ρ ⟨d, .convert src dst x, ty, pos, after, gd⟩).run P w = .ok (.value v) w' := by
  have : execOp ρ ⟨d, .convert src dst x, ty, pos, after, gd⟩ = (do pure (Next.value (← convert src dst (ρ x)))) := rfl
  rw [this, Sem.run_bind, h]; rfl
/-- A guarded operation that is wanted. -/
theorem wpList_want {P : Program} {ops : Array Oper} {rest : List Oper} {o : Oper} {a : Act} {w : World} {Q : Exit → Act → World → Prop} (hw : Region.wanted o (yielded ops a.tmps) = true)
    (h : ∀ K : Act → World → Prop, (∀ a w, wpList P ops Q rest a w → K a w) → o.wp P a w K Q) : wpList P ops Q (o :: rest) a w :=
  wpList_step fun K hK => by rw [if_pos hw]; exact h K hK
theorem wpList_load_G {P : Program} {ops : Array Oper} {rest : List Oper} {op : Oper} {a : Act} {w : World} {Q : Exit → Act → World → Prop} (ty : TypeId) (x : Operand) (ho : op.op = .load ty x) (hw : Region.wanted op (yielded ops a.tmps) = true)
    (b o : Nat) (hx : a.eval x = .pointer (some ⟨b, o, none⟩)) (cs : List Value) (d : TypeDesc) (hc : w.rangeAt b o cs)
    (hu : P.underlying ty = some d) (hd : d.isRow = true) (hi : (P.info? ty).map (·.size) = some cs.length)
    (h : wpList P ops Q rest (a.put op.dst (.agg cs.toArray)) w) : wpList P ops Q (op :: rest) a w :=
  wpList_want hw fun _ hK => wp_load_mid ty x ho b o hx cs d hc hu hd hi (hK _ _ h)
theorem lt_obj {w : World} {p : Nat} {o : Obj} (h : w.heap[p]? = some o) : p < w.heap.size := (Array.getElem?_eq_some_iff.1 h).1
/-- What is written in a row of the call's own. -/
theorem own_sets {e : TypeId} {sz : Nat} {g n cap : Nat} : ∀ (vs : List Value) (o : Nat) (xs : List Value) (w : World), Own w e sz (some ⟨g, 0, none⟩) n cap xs → o + vs.length ≤ n * sz → (∀ v ∈ vs, v.oneCell' = true) →
    Own (w.setCells g o vs) e sz (some ⟨g, 0, none⟩) n cap (spl xs o vs) ∧ w.there g o vs.length
  | [], o, xs, w, h, _, _ => ⟨by simpa [spl, World.setCells] using h, fun j hj => by simp at hj⟩
  | v :: vs, o, xs, w, h, hl, h1 => by
    simp only [List.length_cons] at hl
    obtain ⟨g', v', eg, hc, hf, hst⟩ := own_put h (i := o) (by omega)
    cases eg
    have o1 := hst v (h1 v (by simp))
    obtain ⟨h2, h3⟩ := own_sets vs (o + 1) (xs.set o v) _ o1 (by omega) (fun u hu => h1 u (by simp [hu]))
    have hx : xs.length = n * sz := h.row.1
    have e1 : spl (xs.set o v) (o + 1) vs = spl xs o (v :: vs) := by
      unfold spl
      rw [List.take_add_one, List.take_set_of_le (by omega), List.getElem?_set_self (by omega), List.drop_set_of_lt (by omega)]
      simp only [Option.toList_some, List.append_assoc, List.cons_append, List.nil_append, List.length_cons]
      rw [show o + 1 + vs.length = o + (vs.length + 1) by omega]
    rw [e1] at h2
    refine ⟨h2, fun j hj => ?_⟩
    cases j with
    | zero => exact ⟨by rw [Nat.add_zero, hc]; rfl, by rw [Nat.add_zero]; exact hf⟩
    | succ j =>
      simp only [List.length_cons] at hj
      obtain ⟨g2, v2, eg2, hc2, hf2, -⟩ := own_put h (i := o + (j + 1)) (by omega)
      cases eg2
      exact ⟨by rw [hc2]; rfl, hf2⟩
theorem own_tyH {w : World} {e : TypeId} {sz : Nat} {ao : Option Addr} {n c g : Nat} {xs : List Value} (o : Own w e sz ao n c xs) (h : g ∈ blk ao) : ∃ cur, w.heap[g]? = some (.cells cur e (0, 0)) := by
  rcases o.row.2 with ⟨hv, _⟩ | ⟨g1, k1, u1, e1, _, h1, _⟩
  · obtain ⟨rfl, -⟩ : ao = Option.none ∧ _ := by simpa using hv
    simp [blk] at h
  · obtain ⟨rfl, rfl⟩ : ao = some ⟨g1, 0, Option.none⟩ ∧ c = k1 := by simpa using e1
    simp [blk] at h
    subst h
    exact ⟨u1, h1⟩
/-- One world alone. -/
def segU (w' : World) : Seg where
  C := fun x => ∃ _ : Unit, x = w'
  R := fun _ _ x => x = w'
  V := fun _ _ _ _ => True
  es := []
  hC := fun _ _ _ _ h => ⟨(), h⟩
  hV := fun _ _ _ _ _ _ _ _ _ h => h
def pNw (e : TypeId) (n q : Nat) (xs : List Value) : Pr := ⟨fun v w => ∃ ao c, v = .slice ao n c ∧ Own w e 1 ao n c xs ∧ ∀ y ∈ blk ao, q ≤ y, fun k ⟨ao, c, h1, h, hq⟩ => ⟨ao, c, h1, h.keep k (by simp), hq⟩⟩
/-- An operation that looks at no memory, whose value is given. -/
theorem wpV_fval {P : Program} {ops : Array Oper} {bm : Array Nat} {fr : List Nat} {Q : Exit → Act → World → Prop} {k : Nat} {S : Seg} {l : List Value} {df : List Deferred} {F : Facts} {dst : Nat} {op : Op} {ty : TypeId} {pos : String} {after : Array Edge} {gd : Option (Nat × Bool)} {rest : List Oper} (hi : ops[k]? = some ⟨some dst, op, ty, pos, after, gd⟩)
    (hw : Region.wanted ⟨some dst, op, ty, pos, after, gd⟩ (yielded ops l.toArray) = true) (hfr : fr.contains k = true) (hp : plainOp op = true) (v : Value)
    (hv : ∀ w, (execOp (Act.mk l.toArray df).eval ⟨some dst, op, ty, pos, after, gd⟩).run P w = .ok (.value v) w)
    (h : wpV P ops bm fr Q rest (k + 1) S ⟨(l.set dst v).toArray, df⟩ F) : wpV P ops bm fr Q (⟨some dst, op, ty, pos, after, gd⟩ :: rest) k S ⟨l.toArray, df⟩ F :=
  ⟨_, hi, .inl ⟨v, .inl ⟨hw, .inl (by simpa using hfr), hp, fun w _ => hv w⟩, by simpa [Act.put] using h⟩⟩
/-- An append in a guarded place. -/
theorem wpList_app_G {P : Program} {t e : TypeId} {sz bytes : Nat} (T : ST P t e sz bytes) {w : World} {ops : Array Oper} {rest : List Oper} {a : Act} {Q : Exit → Act → World → Prop}
    {dst : Option Tmp} {s x : Operand} {ty : TypeId} {pos : String} {after : Array Edge} {gd : Option (Nat × Bool)} {ao : Option Addr} {n cap : Nat} {xs : List Value} {bo : Option Addr} {m c : Nat} {ys : List Value}
    (hw : Region.wanted ⟨dst, .call { callee := .builtin .append, args := #[s, x], argTypes := #[t, t] }, ty, pos, after, gd⟩ (yielded ops a.tmps) = true)
    (hs : a.eval s = .slice ao n cap) (hx : a.eval x = .slice bo m c) (ho : Own w e sz ao n cap xs) (hy : Sl w sz bo m c ys) (h63 : n + m ≤ maxLen) (hb : (n + m) * bytes ≤ 140737488355328)
    (k : ∀ ao' cap' w', Own w' e sz ao' (n + m) cap' (xs ++ ys) → Own w' e sz ao n cap xs → Keep (blk ao) w w' → (∀ g ∈ blk ao', g ∈ blk ao ∨ w.heap.size ≤ g) → wpList P ops Q rest (a.put dst (.slice ao' (n + m) cap')) w') :
    wpList P ops Q (⟨dst, .call { callee := .builtin .append, args := #[s, x], argTypes := #[t, t] }, ty, pos, after, gd⟩ :: rest) a w := by
  obtain ⟨ao', cap', w', hr, h1, h2, h3, h4⟩ := run_app T w ty ho hy h63 hb
  refine wpList_want hw fun K hK => ?_
  unfold Oper.wp
  rw [run_exec_append (by rw [hs, hx]; exact hr)]
  exact hK _ _ (k ao' cap' w' h1 h2 h3 h4)
end Go.Proofs.Ytgchbcopbkoomaa
