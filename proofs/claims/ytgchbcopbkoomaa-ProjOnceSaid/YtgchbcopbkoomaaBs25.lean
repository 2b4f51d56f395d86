/- Slices of one, two, three, five steps that are built. -/
import Derived.Test.YtgchbcopbkoomaaAn25
namespace Go.Proofs.Ytgchbcopbkoomaa
open Go Go.RowKit
set_option maxRecDepth 100000 in
theorem run_bs1 (e0 : Ex) (w : World) : (Instr.buildSlice 22 1 #[(0, .agg (exV e0).toArray)]).run Try.prog w = .ok (.slice (some ⟨w.heap.size, 0, none⟩) 1 1) (w.alloc (.cells ([e0].flatMap exV).toArray 38)) := by
  obtain ⟨⟨k0, ⟨ck0, cp0, co0, cf0, cc0, cd0⟩, n0, ke0, d0⟩, da0, dc0, ka0, kc0, ba0, bc0⟩ := e0
  kernel_rfl

theorem wpList_bs1 {ops : Array Oper} {rest : List Oper} {op : Oper} {a : Act} {w : World} {Q : Exit → Act → World → Prop} (hw : Region.wanted op (yielded ops a.tmps) = true) (x0 : Operand) (e0 : Ex) (ho : op.op = .buildSlice 22 1 #[(0, x0)])
    (hx0 : a.eval x0 = .agg (exV e0).toArray) (h : ∀ g w', Grow w w' → w.heap.size ≤ g → Own w' 38 10 (some ⟨g, 0, none⟩) 1 1 ([e0].flatMap exV) → wpList Try.prog ops Q rest (a.put op.dst (.slice (some ⟨g, 0, none⟩) 1 1)) w') : wpList Try.prog ops Q (op :: rest) a w := by
  have hr := run_bs1 e0 w
  have o : Own (w.alloc (.cells ([e0].flatMap exV).toArray 38)) 38 10 (some ⟨w.heap.size, 0, none⟩) 1 1 ([e0].flatMap exV) := Own.made (n := 1) (sz := 10) (heap_alloc_new w _) rfl (by decide) (fun v hv => exs_one [e0] v hv)
  refine wpList_want hw fun K hK => ?_
  unfold Oper.wp execOp
  simp only [ho, Sem.run_bind, List.map_toArray, List.map_cons, List.map_nil, hx0, hr, Result.andThen_ok, Sem.run_pure]
  exact hK _ _ (h _ _ (Grow.alloc w _) (Nat.le_refl _) o)

set_option maxRecDepth 100000 in
theorem run_bs2 (e0 e1 : Ex) (w : World) : (Instr.buildSlice 22 2 #[(0, .agg (exV e0).toArray), (1, .agg (exV e1).toArray)]).run Try.prog w = .ok (.slice (some ⟨w.heap.size, 0, none⟩) 2 2) (w.alloc (.cells ([e0, e1].flatMap exV).toArray 38)) := by
  obtain ⟨⟨k0, ⟨ck0, cp0, co0, cf0, cc0, cd0⟩, n0, ke0, d0⟩, da0, dc0, ka0, kc0, ba0, bc0⟩ := e0
  obtain ⟨⟨k1, ⟨ck1, cp1, co1, cf1, cc1, cd1⟩, n1, ke1, d1⟩, da1, dc1, ka1, kc1, ba1, bc1⟩ := e1
  kernel_rfl

theorem wpList_bs2 {ops : Array Oper} {rest : List Oper} {op : Oper} {a : Act} {w : World} {Q : Exit → Act → World → Prop} (hw : Region.wanted op (yielded ops a.tmps) = true) (x0 x1 : Operand) (e0 e1 : Ex) (ho : op.op = .buildSlice 22 2 #[(0, x0), (1, x1)])
    (hx0 : a.eval x0 = .agg (exV e0).toArray) (hx1 : a.eval x1 = .agg (exV e1).toArray) (h : ∀ g w', Grow w w' → w.heap.size ≤ g → Own w' 38 10 (some ⟨g, 0, none⟩) 2 2 ([e0, e1].flatMap exV) → wpList Try.prog ops Q rest (a.put op.dst (.slice (some ⟨g, 0, none⟩) 2 2)) w') : wpList Try.prog ops Q (op :: rest) a w := by
  have hr := run_bs2 e0 e1 w
  have o : Own (w.alloc (.cells ([e0, e1].flatMap exV).toArray 38)) 38 10 (some ⟨w.heap.size, 0, none⟩) 2 2 ([e0, e1].flatMap exV) := Own.made (n := 2) (sz := 10) (heap_alloc_new w _) rfl (by decide) (fun v hv => exs_one [e0, e1] v hv)
  refine wpList_want hw fun K hK => ?_
  unfold Oper.wp execOp
  simp only [ho, Sem.run_bind, List.map_toArray, List.map_cons, List.map_nil, hx0, hx1, hr, Result.andThen_ok, Sem.run_pure]
  exact hK _ _ (h _ _ (Grow.alloc w _) (Nat.le_refl _) o)

set_option maxRecDepth 100000 in
theorem run_bs3 (e0 e1 e2 : Ex) (w : World) : (Instr.buildSlice 22 3 #[(0, .agg (exV e0).toArray), (1, .agg (exV e1).toArray), (2, .agg (exV e2).toArray)]).run Try.prog w = .ok (.slice (some ⟨w.heap.size, 0, none⟩) 3 3) (w.alloc (.cells ([e0, e1, e2].flatMap exV).toArray 38)) := by
  obtain ⟨⟨k0, ⟨ck0, cp0, co0, cf0, cc0, cd0⟩, n0, ke0, d0⟩, da0, dc0, ka0, kc0, ba0, bc0⟩ := e0
  obtain ⟨⟨k1, ⟨ck1, cp1, co1, cf1, cc1, cd1⟩, n1, ke1, d1⟩, da1, dc1, ka1, kc1, ba1, bc1⟩ := e1
  obtain ⟨⟨k2, ⟨ck2, cp2, co2, cf2, cc2, cd2⟩, n2, ke2, d2⟩, da2, dc2, ka2, kc2, ba2, bc2⟩ := e2
  kernel_rfl

theorem wpList_bs3 {ops : Array Oper} {rest : List Oper} {op : Oper} {a : Act} {w : World} {Q : Exit → Act → World → Prop} (hw : Region.wanted op (yielded ops a.tmps) = true) (x0 x1 x2 : Operand) (e0 e1 e2 : Ex) (ho : op.op = .buildSlice 22 3 #[(0, x0), (1, x1), (2, x2)])
    (hx0 : a.eval x0 = .agg (exV e0).toArray) (hx1 : a.eval x1 = .agg (exV e1).toArray) (hx2 : a.eval x2 = .agg (exV e2).toArray) (h : ∀ g w', Grow w w' → w.heap.size ≤ g → Own w' 38 10 (some ⟨g, 0, none⟩) 3 3 ([e0, e1, e2].flatMap exV) → wpList Try.prog ops Q rest (a.put op.dst (.slice (some ⟨g, 0, none⟩) 3 3)) w') : wpList Try.prog ops Q (op :: rest) a w := by
  have hr := run_bs3 e0 e1 e2 w
  have o : Own (w.alloc (.cells ([e0, e1, e2].flatMap exV).toArray 38)) 38 10 (some ⟨w.heap.size, 0, none⟩) 3 3 ([e0, e1, e2].flatMap exV) := Own.made (n := 3) (sz := 10) (heap_alloc_new w _) rfl (by decide) (fun v hv => exs_one [e0, e1, e2] v hv)
  refine wpList_want hw fun K hK => ?_
  unfold Oper.wp execOp
  simp only [ho, Sem.run_bind, List.map_toArray, List.map_cons, List.map_nil, hx0, hx1, hx2, hr, Result.andThen_ok, Sem.run_pure]
  exact hK _ _ (h _ _ (Grow.alloc w _) (Nat.le_refl _) o)

set_option maxRecDepth 100000 in
theorem run_bs5 (e0 e1 e2 e3 e4 : Ex) (w : World) : (Instr.buildSlice 22 5 #[(0, .agg (exV e0).toArray), (1, .agg (exV e1).toArray), (2, .agg (exV e2).toArray), (3, .agg (exV e3).toArray), (4, .agg (exV e4).toArray)]).run Try.prog w = .ok (.slice (some ⟨w.heap.size, 0, none⟩) 5 5) (w.alloc (.cells ([e0, e1, e2, e3, e4].flatMap exV).toArray 38)) := by
  obtain ⟨⟨k0, ⟨ck0, cp0, co0, cf0, cc0, cd0⟩, n0, ke0, d0⟩, da0, dc0, ka0, kc0, ba0, bc0⟩ := e0
  obtain ⟨⟨k1, ⟨ck1, cp1, co1, cf1, cc1, cd1⟩, n1, ke1, d1⟩, da1, dc1, ka1, kc1, ba1, bc1⟩ := e1
  obtain ⟨⟨k2, ⟨ck2, cp2, co2, cf2, cc2, cd2⟩, n2, ke2, d2⟩, da2, dc2, ka2, kc2, ba2, bc2⟩ := e2
  obtain ⟨⟨k3, ⟨ck3, cp3, co3, cf3, cc3, cd3⟩, n3, ke3, d3⟩, da3, dc3, ka3, kc3, ba3, bc3⟩ := e3
  obtain ⟨⟨k4, ⟨ck4, cp4, co4, cf4, cc4, cd4⟩, n4, ke4, d4⟩, da4, dc4, ka4, kc4, ba4, bc4⟩ := e4
  kernel_rfl

theorem wpList_bs5 {ops : Array Oper} {rest : List Oper} {op : Oper} {a : Act} {w : World} {Q : Exit → Act → World → Prop} (hw : Region.wanted op (yielded ops a.tmps) = true) (x0 x1 x2 x3 x4 : Operand) (e0 e1 e2 e3 e4 : Ex) (ho : op.op = .buildSlice 22 5 #[(0, x0), (1, x1), (2, x2), (3, x3), (4, x4)])
    (hx0 : a.eval x0 = .agg (exV e0).toArray) (hx1 : a.eval x1 = .agg (exV e1).toArray) (hx2 : a.eval x2 = .agg (exV e2).toArray) (hx3 : a.eval x3 = .agg (exV e3).toArray) (hx4 : a.eval x4 = .agg (exV e4).toArray) (h : ∀ g w', Grow w w' → w.heap.size ≤ g → Own w' 38 10 (some ⟨g, 0, none⟩) 5 5 ([e0, e1, e2, e3, e4].flatMap exV) → wpList Try.prog ops Q rest (a.put op.dst (.slice (some ⟨g, 0, none⟩) 5 5)) w') : wpList Try.prog ops Q (op :: rest) a w := by
  have hr := run_bs5 e0 e1 e2 e3 e4 w
  have o : Own (w.alloc (.cells ([e0, e1, e2, e3, e4].flatMap exV).toArray 38)) 38 10 (some ⟨w.heap.size, 0, none⟩) 5 5 ([e0, e1, e2, e3, e4].flatMap exV) := Own.made (n := 5) (sz := 10) (heap_alloc_new w _) rfl (by decide) (fun v hv => exs_one [e0, e1, e2, e3, e4] v hv)
  refine wpList_want hw fun K hK => ?_
  unfold Oper.wp execOp
  simp only [ho, Sem.run_bind, List.map_toArray, List.map_cons, List.map_nil, hx0, hx1, hx2, hx3, hx4, hr, Result.andThen_ok, Sem.run_pure]
  exact hK _ _ (h _ _ (Grow.alloc w _) (Nat.le_refl _) o)

end Go.Proofs.Ytgchbcopbkoomaa
