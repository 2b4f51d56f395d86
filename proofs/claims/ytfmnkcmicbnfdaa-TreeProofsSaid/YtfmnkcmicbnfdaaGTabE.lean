/- More of the tables: an empty slice built, what is appended to it, a conversion by value. · append(x, make([]byte, k)...): zeros behind. -/
import Derived.Test.YtfmnkcmicbnfdaaGTab
import Derived.Test.YtfmnkcmicbnfdaaGMem
import Derived.Lib.AppendZerosOnto

namespace Go.Proofs.Ytfmnkcmicbnfdaa
open Go Go.RowKit

theorem exec_conv {P : Program} {src dst ty : TypeId} {x : Operand} {d : Option Tmp} {pos : String} {after : Array Edge} {gd : Option (Nat × Bool)} {ρ : Operand → Value} {w w' : World} {v : Value} (h : (convert src dst (ρ x)).run P w = .ok v w') :
    (execOp ρ ⟨d, .convert src dst x, ty, pos, after, gd⟩).run P w = .ok (.value v) w' := by
  have : execOp ρ ⟨d, .convert src dst x, ty, pos, after, gd⟩ = (do pure (Next.value (← convert src dst (ρ x)))) := rfl
  rw [this, Sem.run_bind, h]; rfl
/-- A slice of nothing, its own. -/
def pEm (e : TypeId) : Pr := ⟨fun v w => ∃ ao, v = .slice ao 0 0 ∧ Own w e 1 ao 0 0 [], fun k ⟨ao, h1, h⟩ => ⟨ao, h1, h.keep k (by simp)⟩⟩
theorem pEm_new (w : World) (e : TypeId) : (pEm e).p (.slice (some ⟨w.heap.size, 0, none⟩) 0 0) (w.alloc (.cells #[] e)) :=
  ⟨_, rfl, Own.made (n := 0) (heap_alloc_new w _) rfl (by decide) (by simp)⟩
theorem pBy_mk {w : World} {ao : Option Addr} {n c : Nat} {l : List UInt8} (h : Sl w 1 ao n c (l.map B)) : (pBy l).p (.slice ao n c) w := by
  obtain rfl : n = l.length := by have := h.hlen; simpa using this.symm
  exact ⟨ao, c, rfl, h⟩
theorem u8w (n : Int) : IntKind.u8.wrap n = n % 256 := by simp [IntKind.wrap, IntKind.bits, IntKind.signed]
/-- append to what is full: nothing that was there turns. -/
theorem run_appF {P : Program} {t e : TypeId} {sz bytes : Nat} (T : ST P t e sz bytes) (w : World) (ty : TypeId) {g n : Nat} {xs : List Value} (hs : Own w e sz (some ⟨g, 0, none⟩) n n xs)
    {bo : Option Addr} {m c : Nat} {ys : List Value} (hx : Sl w sz bo m c ys) (hm : 0 < m) (h63 : n + m ≤ maxLen) (hb : (n + m) * bytes ≤ 140737488355328) :
    ∃ ao' cap' w', (Builtin.append_ #[t, t] ty #[.slice (some ⟨g, 0, none⟩) n n, .slice bo m c]).run P w = .ok (.slice ao' (n + m) cap') w' ∧ Own w' e sz ao' (n + m) cap' (xs ++ ys) ∧ Grow w w' ∧ ∀ k ∈ blk ao', w.heap.size ≤ k := by
  obtain ⟨i, z, hi, hz, hsz, hby, hzs, h0⟩ := T.info
  have hone : ∀ u ∈ xs ++ ys, u.oneCell' = true := fun u hu => by rcases List.mem_append.1 hu with h | h; exact hs.one u h; exact hx.hone u h
  obtain ⟨g', off, rfl, hc⟩ := hx.hat hm
  have hnews : ∀ j u, ys[j]? = some u → w.cell? ((⟨g', off, .none⟩ : Addr).add j) = some u := fun j u hj => by rw [add_plain]; exact hc.at hj
  have holds : ∀ j u, xs[j]? = some u → w.cell? ((⟨g, 0, .none⟩ : Addr).add j) = some u := fun j u hj => by
    have hlt := (List.getElem?_eq_some_iff.1 hj).1
    rcases Nat.eq_zero_or_pos n with h | h
    · have := hs.row.1; subst h; omega
    · obtain ⟨g2, off2, e2, hc2⟩ := hs.sl.hat h
      cases e2
      rw [add_plain]
      exact hc2.at hj
  obtain ⟨v', w', hrun, hown, hgrow⟩ := run_append_arg_grows w t ty e i z sz bytes T.und hi hz hsz hby hzs h0 ⟨g, 0, none⟩ n n xs hs.row.1 holds _ m c ys hx.hlen hnews (by omega) h63 hb
  have hkeep : Keep [] w w' := Keep.grown hgrow fun k hk => by cases hk
  rcases hown.2 with ⟨rfl, hz⟩ | ⟨g2, cap2, cur2, rfl, hg2, hh2, r2⟩
  · omega
  · exact ⟨_, _, w', hrun, ⟨⟨hown.1, .inr ⟨g2, cap2, cur2, rfl, Nat.zero_le _, hh2, r2⟩⟩, hone⟩, hkeep.grow, fun k hk => by simp [blk] at hk; omega⟩
/-- A byte put where zeros stand. -/
theorem set_pad (A : List UInt8) (n i : Nat) (hA : A.length = i) (hi : i < n) (c : UInt8) : (A.map B ++ List.replicate (n - i) (Value.int .u8 0)).set i (B c) = (A ++ [c]).map B ++ List.replicate (n - (i + 1)) (Value.int .u8 0) := by
  rw [List.set_append_right _ _ (by simp [hA])]
  obtain ⟨k, hk⟩ : ∃ k, n - i = k + 1 := ⟨n - i - 1, by omega⟩
  rw [hk, show n - (i + 1) = k by omega, List.replicate_succ, show i - (A.map B).length = 0 by simp [hA]]
  simp
end Go.Proofs.Ytfmnkcmicbnfdaa

namespace Go.Proofs.Ytfmnkcmicbnfdaa
open Go Go.RowKit

theorem zeroCells_u8 (k : Nat) : Builtin.zeroCells #[Value.int .u8 0] k = (List.replicate k (Value.int .u8 0)).toArray := by
  apply Array.ext'
  refine List.ext_getElem (by simp [Builtin.zeroCells]) fun i h1 h2 => ?_
  simp [Builtin.zeroCells, Nat.mod_one]
theorem rep_B (k : Nat) : List.replicate k (Value.int .u8 0) = (List.replicate k (0 : UInt8)).map B := by rw [List.map_replicate]; rfl
theorem sl_front {w : World} {g : Nat} {xs ys : List Value} {e : TypeId} {fr : Nat × Nat} (h : w.heap[g]? = some (.cells (xs ++ ys).toArray e fr)) (n c : Nat) (hn : xs.length = n) (hc : n ≤ c) (hm : c ≤ maxLen) (h1 : ∀ v ∈ xs, v.oneCell' = true) : Sl w 1 (some ⟨g, 0, none⟩) n c xs :=
  ⟨hc, hm, by omega, h1, by simp, fun _ => ⟨g, 0, rfl, fun i hi => by rw [Nat.zero_add]; exact obj_cell h i (by simp [List.getElem?_append_left hi, List.getElem?_eq_getElem hi])⟩⟩
set_option maxRecDepth 100000 in
theorem run_appZ (w : World) {ao : Option Addr} {n cap : Nat} {l : List UInt8} (hs : Own w 5 1 ao n cap (l.map B)) (k : Nat) (hk : n + k ≤ 1000000) :
    ∃ ao' cap' w', (Builtin.append_ #[27, 3] 27 #[.slice ao n cap, .int .i64 (k : Int)]).run Try.prog w = .ok (.slice ao' (n + k) cap') w' ∧ Sl w' 1 ao' (n + k) cap' ((l ++ List.replicate k 0).map B) ∧ Keep (blk ao) w w' := by
  have hml : maxLen = 9223372036854775807 := rfl
  have hi5 : (Try.prog.info? 5).map (fun i => (i.zero, i.size, i.bytes)) = some (some (Value.int IntKind.u8 0), 1, 1) := by kernel_rfl
  obtain ⟨i, hi, hz⟩ : ∃ i, Try.prog.info? 5 = some i ∧ (i.zero, i.size, i.bytes) = (some (Value.int IntKind.u8 0), 1, 1) := by
    cases h : Try.prog.info? 5 with
    | none => rw [h] at hi5; cases hi5
    | some i => rw [h] at hi5; exact ⟨i, rfl, by simpa using hi5⟩
  simp only [Prod.mk.injEq] at hz
  obtain ⟨hz0, hz1, hz2⟩ := hz
  have hl : l.length = n := by have := hs.row.1; simpa using this
  have hw : IntKind.i64.wrap (k : Int) = k := by rw [IntKind.wrap_i64]; omega
  have hw0 : IntKind.i64.wrap (0 : Int) = 0 := by rw [IntKind.wrap_i64]; decide
  have hneg : ¬ ((k : Int) < 0) := by omega
  have h48i : ¬ (281474976710656 < (k : Int)) := by omega
  have hone : ∀ v ∈ (l ++ List.replicate k 0).map B, v.oneCell' = true := B_one _
  rcases hs.row.2 with ⟨hv, hn0⟩ | ⟨g, cap', cur, hv, hg, hh, hle, hcap, hsz', htake⟩
  · obtain ⟨rfl, rfl, rfl⟩ : ao = Option.none ∧ n = 0 ∧ cap = 0 := by simpa using hv
    obtain rfl : l = [] := List.eq_nil_of_length_eq_zero hl
    by_cases h0 : k = 0
    · subst h0
      refine ⟨none, 0, w, ?_, Sl.none w 1, Keep.refl _ _⟩
      simp [Builtin.append_, run_underlying Try.underlying27, run_underlying Try.underlying3, sizeOf, typeInfo, hi, hz0, hz2, hw0, zeroValue, asInt, asIntOf]
    · have hr := Lib.run_append_nil_zeros (P := Try.prog) w 27 3 27 5 i (.int .u8 0) .i64 .i64 Try.underlying27 Try.underlying3 hi hz0 k (by omega) (by omega) (by omega) (by rw [hz2]; omega)
      rw [Nat.zero_add]
      refine ⟨_, _, _, hr, ?_, (Keep.drew _ w).trans (Keep.alloc _ _ _)⟩
      have hh := alloc_new w.drew (.cells (Builtin.zeroCells (Value.int .u8 0).cells k ++ Builtin.zeroCells (Value.int .u8 0).cells (grownCap w k 0 5 - k)) 5)
      have e1 : Builtin.zeroCells (Value.int .u8 0).cells k ++ Builtin.zeroCells (Value.int .u8 0).cells (grownCap w k 0 5 - k) = ((([] : List UInt8) ++ List.replicate k 0).map B ++ List.replicate (grownCap w k 0 5 - k) (.int .u8 0)).toArray := by
        rw [show (Value.int .u8 0).cells = #[Value.int .u8 0] from rfl, zeroCells_u8, zeroCells_u8, List.nil_append, rep_B]
        simp
      rw [e1] at hh ⊢
      exact sl_front hh k _ (by simp) (grownCap_ge _ _ _ _) (grownCap_le_maxLen _ _ _ _ (by omega)) hone
  · obtain ⟨rfl, rfl⟩ : ao = some ⟨g, 0, Option.none⟩ ∧ cap = cap' := by simpa using hv
    by_cases hroom : n + k ≤ cap
    · have hl0 : (l.map B).length = n := by simpa using hl
      have hcx : Cells w g 0 (l.map B) := fun i hi => by
        obtain ⟨g1, off1, eg, hc⟩ := hs.sl.hat (by omega)
        cases eg
        exact hc i hi
      have hsp : ∀ j, j < k → (w.cell? ⟨g, n + j, none⟩).isSome = true ∧ w.frozen? ⟨g, n + j, none⟩ = false := fun j hj => by
        refine ⟨?_, obj_free hh _⟩
        rw [cell_of_row w g (n + j) cur _ (0, 0) hh, Array.getElem?_eq_getElem (by omega)]
        rfl
      have hst := run_storeCells_cells (P := Try.prog) g n (List.replicate k (Value.int .u8 0)) 0 w (fun j hj => (hsp j (by simpa using hj)).1) (fun j hj => (hsp j (by simpa using hj)).2) (fun v hv => by rw [List.eq_of_mem_replicate hv]; rfl)
      rw [Nat.add_zero] at hst
      refine ⟨some ⟨g, 0, none⟩, cap, w.setCells g n (List.replicate k (Value.int .u8 0)), ?_, ⟨hroom, hcap, by simp; omega, hone, by simp, fun _ => ⟨g, 0, rfl, ?_⟩⟩, Keep.setCellsS _ _ _ _⟩
      · by_cases h0 : k = 0
        · subst h0
          simp [Builtin.append_, run_underlying Try.underlying27, run_underlying Try.underlying3, sizeOf, typeInfo, hi, hz2, hw0, asInt, asIntOf, hle, storeCells, World.setCells]
        · have hns : ¬ (k * i.size = 0) := Nat.mul_ne_zero h0 (by omega)
          have h48 : ¬ (281474976710656 < (k : Int) * (i.bytes : Int)) := by rw [hz2]; omega
          simp [Builtin.append_, run_underlying Try.underlying27, run_underlying Try.underlying3, sizeOf, typeInfo, hi, hz0, hz1, hz2, hw, hneg, h48i, hroom, zeroValue, asInt, asIntOf, h0, zeroCells_u8, Value.cells, add_plain, hst]
      · have := hcx.stored (ys := List.replicate k (Value.int .u8 0)) (fun j hj => by rw [hl0, Nat.zero_add]; exact (hsp j (by simpa using hj)).1)
        rw [hl0, Nat.zero_add, rep_B] at this
        rw [rep_B, List.map_append]
        exact this
    · have hold : (Builtin.firstCells i.size n (.slice (some ⟨g, 0, none⟩) n cap)).run Try.prog w.drew = .ok (l.map B).toArray w.drew := by
        refine run_firstCells_some (P := Try.prog) (w := w.drew) i.size n ⟨g, 0, none⟩ n cap (l.map B) (by simp [hl, hz1]) (fun j v hj => ?_)
        have hlt := (List.getElem?_eq_some_iff.1 hj).1
        obtain ⟨g2, off2, e2, hc2⟩ := (hs.keep (Keep.drew [] w) (by simp)).sl.hat (by simp [hl] at hlt; omega)
        cases e2
        rw [add_plain]
        exact hc2.at hj
      have hr := Lib.run_append_grow_zeros (P := Try.prog) w 27 3 27 5 i (.int .u8 0) .i64 .i64 Try.underlying27 Try.underlying3 hi hz0 (some ⟨g, 0, none⟩) n cap (l.map B) hold k (by omega) (by omega) (by omega) (by omega) (by rw [hz2]; omega) (by have := nextslicecap_le (show cap < n + k by omega); rw [hz2]; omega)
      refine ⟨_, _, _, hr, ?_, (Keep.drew _ w).trans (Keep.alloc _ _ _)⟩
      have hh := alloc_new w.drew (.cells ((l.map B).toArray ++ Builtin.zeroCells (Value.int .u8 0).cells k ++ Builtin.zeroCells (Value.int .u8 0).cells (grownCap w (n + k) cap 5 - (n + k))) 5)
      have e1 : (l.map B).toArray ++ Builtin.zeroCells (Value.int .u8 0).cells k ++ Builtin.zeroCells (Value.int .u8 0).cells (grownCap w (n + k) cap 5 - (n + k)) = ((l ++ List.replicate k 0).map B ++ List.replicate (grownCap w (n + k) cap 5 - (n + k)) (.int .u8 0)).toArray := by
        rw [show (Value.int .u8 0).cells = #[Value.int .u8 0] from rfl, zeroCells_u8, zeroCells_u8, List.map_append, ← rep_B]
        simp
      rw [e1] at hh ⊢
      exact sl_front hh (n + k) _ (by simp [hl]) (grownCap_ge _ _ _ _) (grownCap_le_maxLen _ _ _ _ (by omega)) hone
end Go.Proofs.Ytfmnkcmicbnfdaa
