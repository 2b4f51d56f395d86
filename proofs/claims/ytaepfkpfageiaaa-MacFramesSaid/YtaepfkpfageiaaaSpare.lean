/- Slices with room of their own behind them: cut at the front, appended to. -/
import Derived.Test.YtaepfkpfageiaaaSkip
namespace Go.Proofs.Ytaepfkpfageiaaa
open Go Go.RowKit

/-- The slice reads xs; what lies behind it, up to its capacity, may be written. -/
structure Spr (w : World) (sz : Nat) (ao : Option Addr) (n cap : Nat) (xs : List Value) : Prop where
  sl : Sl w sz ao n cap xs
  spare : ∀ g off, ao = some ⟨g, off, none⟩ → ∀ j, n * sz ≤ j → j < cap * sz → (w.cell? ⟨g, off + j, none⟩).isSome = true ∧ w.frozen? ⟨g, off + j, none⟩ = false
  form : 0 < cap → ∃ g off, ao = some ⟨g, off, none⟩
  lt : ∀ g ∈ blk ao, g < w.heap.size
theorem Spr.none (w : World) (sz : Nat) : Spr w sz none 0 0 [] := ⟨Sl.none w sz, by simp, by simp, by simp [blk]⟩
theorem frozen_of_block {w w' : World} {x : Addr} (h : w'.heap[x.block]? = w.heap[x.block]?) : w'.frozen? x = w.frozen? x := by
  simp [World.frozen?, h]
theorem Spr.keep {fp : List Nat} {w w' : World} {sz : Nat} {ao : Option Addr} {n cap : Nat} {xs : List Value} (h : Spr w sz ao n cap xs) (k : Keep fp w w') (hb : ∀ g ∈ blk ao, g ∉ fp) : Spr w' sz ao n cap xs := by
  refine ⟨h.sl.keep k hb, fun g off e j h1 h2 => ?_, h.form, fun g hg => Nat.lt_of_lt_of_le (h.lt g hg) k.size⟩
  have hg : g ∈ blk ao := by rw [e]; simp [blk]
  have hbk := k.block g (h.lt g hg) (hb g hg)
  obtain ⟨s1, s2⟩ := h.spare g off e j h1 h2
  exact ⟨by rw [World.cell?_of_block (w := w) hbk]; exact s1, by rw [frozen_of_block (w := w) hbk]; exact s2⟩
theorem Spr.grow {w w' : World} {sz : Nat} {ao : Option Addr} {n cap : Nat} {xs : List Value} (h : Spr w sz ao n cap xs) (k : Grow w w') : Spr w' sz ao n cap xs :=
  h.keep (Keep.of_grow [] k) (by simp)
theorem Own.spr {w : World} {e : TypeId} {sz : Nat} {ao : Option Addr} {n cap : Nat} {xs : List Value} (h : Own w e sz ao n cap xs) : Spr w sz ao n cap xs := by
  refine ⟨h.sl, fun g off eg j h1 h2 => ?_, fun hc => ?_, h.lt⟩
  · rcases h.row.2 with ⟨hv, -⟩ | ⟨g', cap', cur, hv, -, hh, -, -, hsz, -⟩
    · subst eg; simp at hv
    · subst eg
      simp only [Value.slice.injEq, Option.some.injEq, Addr.mk.injEq, and_true] at hv
      obtain ⟨⟨rfl, rfl⟩, -, rfl⟩ := hv
      rw [Nat.zero_add]
      refine ⟨?_, obj_free hh j⟩
      rw [cell_of_row w g j cur e (0, 0) hh, Array.getElem?_eq_getElem (by omega)]
      rfl
  · rcases h.row.2 with ⟨hv, -⟩ | ⟨g', cap', cur, hv, -⟩
    · simp only [Value.slice.injEq] at hv; omega
    · simp only [Value.slice.injEq] at hv; exact ⟨_, _, hv.1⟩
/-- x[l:] -/
theorem Spr.cut1 {w : World} {sz : Nat} {ao : Option Addr} {n cap : Nat} {xs : List Value} (h : Spr w sz ao n cap xs) {lo : Nat} (h1 : lo ≤ n) :
    Spr w sz (if cap = lo then ao else ao.map (·.add (lo * sz))) (n - lo) (cap - lo) (xs.drop (lo * sz)) := by
  have hc := h.sl.hle
  have hcut := h.sl.cut h1 (Nat.le_refl n)
  rw [List.take_of_length_le (by simp [h.sl.hlen, Nat.sub_mul])] at hcut
  refine ⟨hcut, fun g off e j h2 h3 => ?_, fun hp => ?_, fun g hg => h.lt g (by rwa [blk_cut] at hg)⟩
  · by_cases e' : cap = lo
    · subst e'; simp at h3
    · rw [if_neg e'] at e
      obtain ⟨g0, off0, rfl⟩ := h.form (by omega)
      simp only [Option.map_some, add_plain, Option.some.injEq, Addr.mk.injEq, and_true] at e
      obtain ⟨rfl, rfl⟩ := e
      rw [Nat.add_assoc]
      rw [Nat.sub_mul] at h2 h3
      exact h.spare _ _ rfl (lo * sz + j) (by omega) (by omega)
  · rw [if_neg (by omega)]
    obtain ⟨g0, off0, rfl⟩ := h.form (by omega)
    exact ⟨g0, off0 + lo * sz, by simp [add_plain]⟩
theorem run_cut1S {P : Program} {t e : TypeId} {sz bytes : Nat} (T : ST P t e sz bytes) {w : World} {ao : Option Addr} {n cap : Nat} {xs : List Value} (hs : Spr w sz ao n cap xs) (l : Int) (lo : Nat) (hl : l = lo) (h1 : lo ≤ n) :
    ∃ so sc, (∀ w', (Instr.sliceAt t (.slice ao n cap) (some (.int .i64 l)) none none).run P w' = .ok (.slice so (n - lo) sc) w') ∧ Spr w sz so (n - lo) sc (xs.drop (lo * sz)) ∧ blk so = blk ao := by
  obtain ⟨i, z, hi', hz, hsz, hby, hzs, h0⟩ := T.info
  have hc := hs.sl.hle
  subst hl
  refine ⟨_, _, fun w' => ?_, hs.cut1 h1, blk_cut⟩
  have e2 : (0 : Int) ≤ lo ∧ (lo : Int) ≤ (n : Nat) := by omega
  simp [Instr.sliceAt, Instr.slice, run_underlying T.und, Instr.sliceBounds, Instr.sliceBound, asIntOf, e2, sizeOf, typeInfo, hi', hsz, h1]
theorem run_cut1A {P : Program} {t e : TypeId} {sz bytes : Nat} (T : ST P t e sz bytes) (ao : Option Addr) (n cap : Nat) (lo : Nat) (h1 : lo ≤ n) :
    ∃ so sc, (∀ w' : World, (Instr.sliceAt t (.slice ao n cap) (some (.int .i64 (lo : Int))) none none).run P w' = .ok (.slice so (n - lo) sc) w') ∧ (∀ w' xs, Spr w' sz ao n cap xs → Spr w' sz so (n - lo) sc (xs.drop (lo * sz))) ∧ blk so = blk ao := by
  obtain ⟨i, z, hi', hz, hsz, hby, hzs, h0⟩ := T.info
  refine ⟨_, _, fun w' => ?_, fun w' xs hs => hs.cut1 h1, blk_cut⟩
  have e2 : (0 : Int) ≤ lo ∧ (lo : Int) ≤ (n : Nat) := by omega
  simp [Instr.sliceAt, Instr.slice, run_underlying T.und, Instr.sliceBounds, Instr.sliceBound, asIntOf, e2, sizeOf, typeInfo, hi', hsz, h1]
/-- What was stored in a row reads back; what was apart is as it was. -/
theorem Cells.stored {w : World} {g off : Nat} {xs ys : List Value} (hx : Cells w g off xs) (hs : ∀ j, j < ys.length → (w.cell? ⟨g, off + xs.length + j, none⟩).isSome = true) : Cells (w.setCells g (off + xs.length) ys) g off (xs ++ ys) := fun i hi => by
  by_cases h : i < xs.length
  · rw [List.getElem_append_left h, World.cell?_setCells_out]
    · exact hx i h
    · intro _ _; left; show off + i < off + xs.length; omega
  · rw [List.length_append] at hi
    rw [List.getElem_append_right (by omega)]
    have := World.cell?_setCells_in g ys (off + xs.length) w hs (i - xs.length) (by omega)
    rwa [show off + xs.length + (i - xs.length) = off + i by omega] at this
theorem Keep.setCellsS (g : Nat) : ∀ (vs : List Value) (o : Nat) (w : World), Keep [g] w (w.setCells g o vs)
  | [], _, w => Keep.refl _ w
  | v :: r, o, w => (Keep.setCell (fp := [g]) w ⟨g, o, none⟩ (by simp) v).trans (Keep.setCellsS g r (o + 1) _)
/-- append(s, x...) -/
theorem run_appS {P : Program} {t e : TypeId} {sz bytes : Nat} (T : ST P t e sz bytes) (w : World) (ty : TypeId) {ao : Option Addr} {n cap : Nat} {xs : List Value} (hs : Spr w sz ao n cap xs)
    {bo : Option Addr} {m c : Nat} {ys : List Value} (hx : Sl w sz bo m c ys) (h63 : n + m ≤ maxLen) (hb : (n + m) * bytes ≤ 140737488355328) :
    ∃ ao' cap' w', (Builtin.append_ #[t, t] ty #[.slice ao n cap, .slice bo m c]).run P w = .ok (.slice ao' (n + m) cap') w' ∧ Spr w' sz ao' (n + m) cap' (xs ++ ys) ∧ Keep (blk ao) w w' ∧
      ∀ g ∈ blk ao', g ∈ blk ao ∨ w.heap.size ≤ g := by
  obtain ⟨i, z, hi, hz, hsz, hby, hzs, h0⟩ := T.info
  have hone : ∀ u ∈ xs ++ ys, u.oneCell' = true := fun u hu => by rcases List.mem_append.1 hu with h | h; exact hs.sl.hone u h; exact hx.hone u h
  rcases Nat.eq_zero_or_pos m with hm | hm
  · subst hm
    obtain rfl : ys = [] := List.eq_nil_of_length_eq_zero (by simpa using hx.hlen)
    refine ⟨ao, cap, w, ?_, by simpa using hs, Keep.refl _ _, fun g hg => .inl hg⟩
    have hle := hs.sl.hle
    cases bo with
    | none => cases ao <;> simp [Builtin.append_, run_underlying T.und, sizeOf, typeInfo, hi, Builtin.lenOf, Builtin.firstCells, hle, storeCells]
    | some a =>
      have hf := run_firstCells_some (P := P) w i.size 0 a 0 c [] (by simp) (by simp)
      cases ao <;> simp [Builtin.append_, run_underlying T.und, sizeOf, typeInfo, hi, Builtin.lenOf, hf, hle, storeCells]
  · obtain ⟨g, off, rfl, hcs⟩ := hx.hat hm
    have hnews : ∀ j u, ys[j]? = some u → w.cell? ((⟨g, off, none⟩ : Addr).add j) = some u := fun j u hj => by rw [add_plain]; exact hcs.at hj
    by_cases hr : n + m ≤ cap
    · obtain ⟨g0, off0, rfl⟩ := hs.form (by omega)
      have hxl := hs.sl.hlen
      have hyl := hx.hlen
      have hcap : (n + m) * sz ≤ cap * sz := Nat.mul_le_mul_right sz hr
      rw [Nat.add_mul] at hcap
      have hsp : ∀ j, j < ys.length → (w.cell? ⟨g0, off0 + n * sz + j, none⟩).isSome = true ∧ w.frozen? ⟨g0, off0 + n * sz + j, none⟩ = false := fun j hj => by
        rw [Nat.add_assoc]; exact hs.spare g0 off0 rfl (n * sz + j) (by omega) (by omega)
      have hrun := run_append_room_cells (P := P) w t ty e i T.und hi g0 off0 n cap ⟨g, off, none⟩ m c ys (by rw [hsz]; exact hx.hlen) hnews hx.hone hr (fun j hj => by rw [hsz]; exact (hsp j hj).1) (fun j hj => by rw [hsz]; exact (hsp j hj).2)
      rw [hsz] at hrun
      refine ⟨_, _, _, hrun, ⟨⟨hr, hs.sl.hcap, by rw [List.length_append, hxl, hyl, Nat.add_mul], hone, by simp, fun _ => ⟨g0, off0, rfl, ?_⟩⟩, fun g' off' eg j h1 h2 => ?_, fun _ => ⟨g0, off0, rfl⟩, fun g' hg' => ?_⟩, Keep.setCellsS _ _ _ _, fun g' hg' => .inl hg'⟩
      · have hcx : Cells w g0 off0 xs := fun k hk => by
          rcases Nat.eq_zero_or_pos n with h | h
          · subst h; omega
          · obtain ⟨g1, off1, eg, hc⟩ := hs.sl.hat h
            cases eg
            exact hc k hk
        have := hcx.stored (ys := ys) (fun j hj => by rw [hxl]; exact (hsp j hj).1)
        rwa [hxl] at this
      · cases eg
        rw [Nat.add_mul] at h1
        obtain ⟨s1, s2⟩ := hs.spare g0 off0 rfl j (by omega) h2
        refine ⟨World.isSome_setCells _ _ _ _ _ s1, by rw [World.frozen?_setCells]; exact s2⟩
      · have := hs.lt g' hg'
        have := (Keep.setCellsS g0 ys (off0 + n * sz) w).size
        omega
    · have hres : ∃ v' w', (Builtin.append_ #[t, t] ty #[.slice ao n cap, .slice (some ⟨g, off, none⟩) m c]).run P w = .ok v' w' ∧ w'.ownsRow w.heap.size e sz v' (n + m) (xs ++ ys) ∧ w.grownBy w' none := by
        cases ao with
        | none =>
          have hcap0 := hs.sl.hnil rfl
          have hn0 : n = 0 := by have := hs.sl.hle; omega
          subst hn0 hcap0
          obtain rfl : xs = [] := List.eq_nil_of_length_eq_zero (by simpa using hs.sl.hlen)
          obtain ⟨v', w', hrun, r1, r2, _⟩ := run_append_own (P := P) w w.heap.size t ty e i z sz bytes T.und hi hz hsz hby hzs h0 (.slice none 0 0) 0 [] (World.ownsRow_nil w _ e sz) ⟨g, off, none⟩ m c ys hx.hlen hnews hx.hone h63 hb (Nat.le_refl _)
          exact ⟨v', w', hrun, r1, r2⟩
        | some b =>
          have holds : ∀ j u, xs[j]? = some u → w.cell? (b.add j) = some u := fun j u hj => by
            have hlt := (List.getElem?_eq_some_iff.1 hj).1
            rcases Nat.eq_zero_or_pos n with h | h
            · have := hs.sl.hlen; rw [h] at this; omega
            · obtain ⟨g', off', e', hc⟩ := hs.sl.hat h
              cases e'
              rw [add_plain]
              exact hc.at hj
          exact run_append_arg_grows w t ty e i z sz bytes T.und hi hz hsz hby hzs h0 b n cap xs hs.sl.hlen holds ⟨g, off, none⟩ m c ys hx.hlen hnews (by omega) h63 hb
      obtain ⟨v', w', hrun, hown, hgrow⟩ := hres
      rcases hown.2 with ⟨rfl, hz⟩ | ⟨g', cap', cur', rfl, hg', hh', r'⟩
      · omega
      · have ho : Own w' e sz (some ⟨g', 0, none⟩) (n + m) cap' (xs ++ ys) := ⟨⟨hown.1, .inr ⟨g', cap', cur', rfl, Nat.zero_le _, hh', r'⟩⟩, hone⟩
        exact ⟨_, _, w', hrun, ho.spr, (Keep.grown hgrow fun k hk => by cases hk), fun k hk => .inr (by simp [blk] at hk; omega)⟩
theorem wpList_appS {P : Program} {t e : TypeId} {sz bytes : Nat} (T : ST P t e sz bytes) {w : World} {ops : Array Oper} {rest : List Oper} {a : Act} {Q : Exit → Act → World → Prop}
    {dst : Option Tmp} {s x : Operand} {ty : TypeId} {pos : String} {after : Array Edge} {ao : Option Addr} {n cap : Nat} {xs : List Value} {bo : Option Addr} {m c : Nat} {ys : List Value}
    (hs : a.eval s = .slice ao n cap) (hx : a.eval x = .slice bo m c) (ho : Spr w sz ao n cap xs) (hy : Sl w sz bo m c ys) (h63 : n + m ≤ maxLen) (hb : (n + m) * bytes ≤ 140737488355328)
    (k : ∀ ao' cap' w', Spr w' sz ao' (n + m) cap' (xs ++ ys) → Keep (blk ao) w w' → (∀ g ∈ blk ao', g ∈ blk ao ∨ w.heap.size ≤ g) → wpList P ops Q rest (a.put dst (.slice ao' (n + m) cap')) w') :
    wpList P ops Q (⟨dst, .call { callee := .builtin .append, args := #[s, x], argTypes := #[t, t] }, ty, pos, after, none⟩ :: rest) a w := by
  obtain ⟨ao', cap', w', hr, h1, h3, h4⟩ := run_appS T w ty ho hy h63 hb
  refine wpList_plain rfl fun K hK => ?_
  unfold Oper.wp
  rw [run_exec_append (by rw [hs, hx]; exact hr)]
  exact hK _ _ (k ao' cap' w' h1 h3 h4)
end Go.Proofs.Ytaepfkpfageiaaa
