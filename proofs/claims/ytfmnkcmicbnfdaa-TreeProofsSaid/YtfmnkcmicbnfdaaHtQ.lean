/- The law's key; the document's tags of leaves without texts. -/
import Derived.Test.YtfmnkcmicbnfdaaTapD
import Derived.Test.YtfmnkcmicbnfdaaHtDw
import Derived.Test.YtfmnkcmicbnfdaaHtVh
import Derived.Test.YtfmnkcmicbnfdaaShaK
namespace Go.Proofs.Ytfmnkcmicbnfdaa
open Go Go.RowKit

/-- The law's key. -/
def lawK : List UInt8 := tpS 3 32
theorem lawK_len : lawK.length = 32 := tpS_len 3 32

set_option maxRecDepth 100000 in
set_option maxHeartbeats 1000000 in
theorem keyC (w : World) (R : Ending → World → Prop)
    (hR : ∀ (ao : Option Addr) (c : Nat) (w' : World), Own w' 5 1 ao 32 c (lawK.map B) → Grow w w' → Fr (blk ao) w → R (.returned (.slice ao 32 c)) w') :
    Calls Try.prog 30 #[] w R := by
  have h1 := tapeD 3 32 (by omega)
  have hK : tpS 3 32 = lawK := rfl
  rw [hK] at h1
  clear hK
  go_enter Try.func30, Try.ntmps30
  go_wp2_with fail
  refine h1 _ _ ?_
  intro ao c w' o g f
  have hf := hR ao c w' o g f
  clear h1 hR
  go_wp2_with fail
  exact hf

theorem make_strings (n : Nat) (hn : n ≤ 10000000) (w : World) :
    (Instr.makeSlice 58 (.int .i64 (n : Int)) (.int .i64 (n : Int))).run Try.prog w = .ok (.slice (some ⟨w.heap.size, 0, none⟩) n n) (w.alloc (.cells (List.replicate n (.string .empty)).toArray 9)) := by
  have hml : maxLen = 9223372036854775807 := rfl
  rw [← madeCells_rep]
  exact run_make_row' 58 9 (.string .empty) 16 Try.underlying58 (by kernel_rfl) rfl .i64 .i64 n (by omega) (by omega) w
theorem make_bools (n : Nat) (hn : n ≤ 10000000) (w : World) :
    (Instr.makeSlice 59 (.int .i64 (n : Int)) (.int .i64 (n : Int))).run Try.prog w = .ok (.slice (some ⟨w.heap.size, 0, none⟩) n n) (w.alloc (.cells (List.replicate n (.bool false)).toArray 4)) := by
  have hml : maxLen = 9223372036854775807 := rfl
  rw [← madeCells_rep]
  exact run_make_row' 59 4 (.bool false) 1 Try.underlying59 (by kernel_rfl) rfl .i64 .i64 n (by omega) (by omega) w

theorem own_apart {w : World} {e f : TypeId} {s1 s2 n1 n2 c1 c2 : Nat} {ao bo : Option Addr} {xs ys : List Value} (o : Own w e s1 ao n1 c1 xs) (p : Own w f s2 bo n2 c2 ys) (h : e ≠ f) : ∀ y ∈ blk ao, y ∉ blk bo := fun y hy hz => by
  obtain ⟨a, ha⟩ := own_tyH o hy
  obtain ⟨b, hb⟩ := own_tyH p hz
  rw [ha] at hb
  injection hb with hb
  injection hb with _ hb
  exact h hb
theorem own_not {w : World} {e : TypeId} {s n c g : Nat} {ao : Option Addr} {xs : List Value} (o : Own w e s ao n c xs) (hn : 0 < n) {x v : Value} (hv : w.cell? ⟨g, 0, none⟩ = some x) (hx : xs[0]? = some v) (h : x ≠ v) : g ∉ blk ao := fun hm => by
  obtain ⟨g1, off, eg, hc⟩ := o.sl.hat hn
  subst eg
  simp [blk] at hm
  subst hm
  have h0 : off = 0 := by
    rcases o.row.2 with ⟨hv, -⟩ | ⟨g', cap', cur, hv, -⟩
    · simp at hv
    · have := congrArg (fun v : Value => match v with | .slice (some a) _ _ => a.off | _ => 0) hv
      simpa using this
  subst h0
  have := hc.at hx
  rw [hv] at this
  injection this with this
  exact h this
/-- New tags of n leaves. -/
def pTg (n q : Nat) : Pr := ⟨fun v w => ∃ g : Tgs, v = .pointer (some ⟨g.p, 0, none⟩) ∧ g.n = n ∧ Tg w g lawK (fun _ => []) (fun _ => false) ∧ ∀ y ∈ g.all, q ≤ y, fun k ⟨g, e, hn, h, hq⟩ => ⟨g, e, hn, h.keep k (by simp), hq⟩⟩
def pSm (q : Nat) : Pr := ⟨fun v w => ∃ p, v = .pointer (some ⟨p, 0, none⟩) ∧ Sm w p Hs Ks ∧ q ≤ p ∧ p < w.heap.size, fun k ⟨p, e, h, hq, hl⟩ => ⟨p, e, ⟨h.1.keep k (by simp), h.2⟩, hq, Nat.lt_of_lt_of_le hl k.size⟩⟩
def pNw (e : TypeId) (n q : Nat) (xs : List Value) : Pr := ⟨fun v w => ∃ ao c, v = .slice ao n c ∧ Own w e 1 ao n c xs ∧ ∀ y ∈ blk ao, q ≤ y, fun k ⟨ao, c, h1, h, hq⟩ => ⟨ao, c, h1, h.keep k (by simp), hq⟩⟩
theorem Sm.first {w : World} {p : Nat} {H K : List Nat} (h : Sm w p H K) : ∃ x : Nat, w.cell? ⟨p, 0, none⟩ = some (U x) := by
  have h8 := h.2.1
  match H, h8 with
  | x :: H', _ => exact ⟨x, h.1.at (i := 0) rfl⟩
theorem Sm.lt {w : World} {p : Nat} {H K : List Nat} (h : Sm w p H K) : p < w.heap.size := by
  obtain ⟨x, hx⟩ := h.first
  exact World.block_lt_of_cell? w _ hx
theorem exec_make {P : Program} {w w' : World} {d : Option Tmp} {ty t : TypeId} {n m : Operand} {pos : String} {after : Array Edge} {gd : Option (Nat × Bool)} {ρ : Operand → Value} {v : Value} (h : (Instr.makeSlice t (ρ n) (ρ m)).run P w = .ok v w') :
    (execOp ρ ⟨d, .makeSlice t n m, ty, pos, after, gd⟩).run P w = .ok (.value v) w' := by
  unfold execOp
  simp only [Sem.run_bind, h, Result.andThen_ok, Sem.run_pure]

set_option maxRecDepth 100000 in
set_option maxHeartbeats 1000000 in
theorem tagsC (n : Nat) (hn1 : 1 ≤ n) (hn2 : n ≤ 1000) (w : World) (R : Ending → World → Prop)
    (hR : ∀ (g : Tgs) (w' : World), g.n = n → Tg w' g lawK (fun _ => []) (fun _ => false) → (∀ y ∈ g.all, w.heap.size ≤ y) → Grow w w' → R (.returned (.pointer (some ⟨g.p, 0, none⟩))) w') :
    Calls Try.prog 32 #[.int .i64 (n : Int)] w R := by
  have hml : maxLen = 9223372036854775807 := rfl
  have hnew := rNewC
  have hkey := keyC
  have hms := make_strings n (by omega)
  have hmb := make_bools n (by omega)
  go_enter Try.func32, Try.ntmps32
  go_upto_region 1 with (fail)
  refine wp_region_R (segT w [(0, pSm w.heap.size), (1, pNw 5 32 w.heap.size (lawK.map B)), (3, pNw 9 n w.heap.size (List.replicate n (.string .empty))), (5, pNw 4 n w.heap.size (List.replicate n (.bool false))), (7, pTg n w.heap.size)]) (by kernel_rfl) segT_drew ?_
  unfold segT segK segR
  refine wpV_mk rfl rfl rfl [] (by kernel_rfl) (fun vs w7 hC hF => yields_call (by kernel_rfl) ?_) (fun vs v w7 hC hV hF => ?_)
  · obtain ⟨⟨w7, hk7, -⟩, rfl⟩ := hC
    exact hnew w7 _ (fun p w8 sm g8 hp => ⟨_, rfl, ⟨Keep.of_grow [] g8, trivial⟩, ⟨p, rfl, sm, Nat.le_trans hk7.size hp, sm.lt⟩⟩)
  obtain ⟨p0, rfl, -⟩ := hV
  clear hC hF w7
  simp only [List.set_cons_succ, List.set_cons_zero]
  refine wpV_mk rfl rfl rfl [] (by kernel_rfl) (fun vs w7 hC hF => yields_call (by kernel_rfl) ?_) (fun vs v w7 hC hV hF => ?_)
  · obtain ⟨⟨w7, hk7, -⟩, rfl⟩ := hC
    exact hkey w7 _ (fun ao c w8 o g8 f => ⟨_, rfl, ⟨Keep.of_grow [] g8, trivial⟩, ⟨ao, c, rfl, o, fun y hy => Nat.le_trans hk7.size (f y hy)⟩⟩)
  obtain ⟨ko, kc, rfl, -⟩ := hV
  clear hC hF w7
  simp only [List.set_cons_succ, List.set_cons_zero]
  repeat (first | (refine wpV_skp rfl rfl ?_; simp only [List.set_cons_succ, List.set_cons_zero]) | (refine wpV_look rfl rfl rfl rfl rfl (fun K hK => ?_); go_big_quiet_op; refine hK _ ?_; clear hK K))
  refine wpV_mk rfl rfl rfl [] (by kernel_rfl) (fun vs w7 hC hF => ?_) (fun vs v w7 hC hV hF => ?_)
  · obtain ⟨⟨w7, hk7, -⟩, rfl⟩ := hC
    have ga := Grow.alloc w7 (.cells (List.replicate n (.string .empty)).toArray 9)
    have oa := own_new (t := 9) (n := n) w7 (.string .empty) rfl (by omega)
    exact yields_run (exec_make (hms w7)) ⟨⟨Keep.of_grow [] ga, trivial⟩, ⟨_, _, rfl, oa, fun y hy => by simp [blk] at hy; have := hk7.size; omega⟩⟩
  obtain ⟨xo, xc, rfl, -⟩ := hV
  clear hC hF w7
  simp only [List.set_cons_succ, List.set_cons_zero]
  repeat (first | (refine wpV_skp rfl rfl ?_; simp only [List.set_cons_succ, List.set_cons_zero]) | (refine wpV_look rfl rfl rfl rfl rfl (fun K hK => ?_); go_big_quiet_op; refine hK _ ?_; clear hK K))
  refine wpV_mk rfl rfl rfl [] (by kernel_rfl) (fun vs w7 hC hF => ?_) (fun vs v w7 hC hV hF => ?_)
  · obtain ⟨⟨w7, hk7, -⟩, rfl⟩ := hC
    have ga := Grow.alloc w7 (.cells (List.replicate n (.bool false)).toArray 4)
    have oa := own_new (t := 4) (n := n) w7 (.bool false) rfl (by omega)
    exact yields_run (exec_make (hmb w7)) ⟨⟨Keep.of_grow [] ga, trivial⟩, ⟨_, _, rfl, oa, fun y hy => by simp [blk] at hy; have := hk7.size; omega⟩⟩
  obtain ⟨ho, hc, rfl, -⟩ := hV
  clear hC hF w7
  simp only [List.set_cons_succ, List.set_cons_zero]
  repeat (first | (refine wpV_skp rfl rfl ?_; simp only [List.set_cons_succ, List.set_cons_zero]) | (refine wpV_look rfl rfl rfl rfl rfl (fun K hK => ?_); go_big_quiet_op; refine hK _ ?_; clear hK K))
  refine wpV_mk rfl rfl rfl [0, 1, 3, 5] (by kernel_rfl) (fun vs w7 hC hF => ?_) (fun vs v w7 hC hV hF => ?_)
  · obtain ⟨⟨w7, hk7, -⟩, rfl⟩ := hC
    obtain ⟨p0', e0, sm, hp0, hpl⟩ := (hF 0 (by simp)).1.1.1.2 rfl
    cases e0
    obtain ⟨_, _, e1, ok, hq1⟩ := (hF 1 (by simp)).1.1.2 rfl
    cases e1
    obtain ⟨_, _, e3, ox, hq3⟩ := (hF 3 (by simp)).1.2 rfl
    cases e3
    obtain ⟨_, _, e5, oh, hq5⟩ := (hF 5 (by simp)).2 rfl
    cases e5
    have ga := Grow.alloc w7 (.cells #[.pointer (some ⟨p0, 0, none⟩), .slice ko 32 kc, .slice xo n xc, .slice ho n hc] 61)
    have hob := heap_alloc_new w7 (.cells #[.pointer (some ⟨p0, 0, none⟩), .slice ko 32 kc, .slice xo n xc, .slice ho n hc] 61)
    obtain ⟨x0, hx0⟩ := sm.first
    have hlk := ok.lt
    have hlx := ox.lt
    have hlh := oh.lt
    have hrs : (List.range n).map (fun i => Value.string (str ([] : List UInt8))) = List.replicate n (.string .empty) := by
      rw [List.map_const', List.length_range]; rfl
    have hrb : (List.range n).map (fun _ => Value.bool false) = List.replicate n (.bool false) := by
      rw [List.map_const', List.length_range]
    have TG : Tg (w7.alloc (.cells #[.pointer (some ⟨p0, 0, none⟩), .slice ko 32 kc, .slice xo n xc, .slice ho n hc] 61)) ⟨w7.heap.size, p0, ko, kc, xo, xc, ho, hc, n⟩ lawK (fun _ => []) (fun _ => false) := {
      obj := hob
      sm := sm.grow ga
      key := ok.sl.grow ga
      txt := by show Own _ _ _ _ _ _ ((List.range n).map fun i => _); rw [hrs]; exact ox.grow ga
      has := by show Own _ _ _ _ _ _ ((List.range n).map fun i => _); rw [hrb]; exact oh.grow ga
      lt := fun y hy => by
        rw [sz_al]
        simp only [Tgs.all, List.mem_cons, List.mem_append] at hy
        rcases hy with rfl | rfl | hy | hy | hy
        · omega
        · omega
        · have := hlk y hy; omega
        · have := hlx y hy; omega
        · have := hlh y hy; omega
      nd := fun y hy hz => by
        simp only [List.mem_cons] at hz
        rcases List.mem_append.1 hy with hy | hy
        · rcases hz with rfl | rfl | hz
          · have := hlx _ hy; simp at this
          · exact own_not ox (by omega) hx0 (v := .string .empty) (by rw [List.getElem?_replicate, if_pos (by omega)]) (by simp [U]) hy
          · exact own_apart ox ok (by decide) y hy hz
        · rcases hz with rfl | rfl | hz
          · have := hlh _ hy; simp at this
          · exact own_not oh (by omega) hx0 (v := .bool false) (by rw [List.getElem?_replicate, if_pos (by omega)]) (by simp [U]) hy
          · exact own_apart oh ok (by decide) y hy hz
      nx := fun y hy => own_apart ox oh (by decide) y hy }
    have hall : ∀ y ∈ Tgs.all ⟨w7.heap.size, p0, ko, kc, xo, xc, ho, hc, n⟩, w.heap.size ≤ y := fun y hy => by
      simp only [Tgs.all, List.mem_cons, List.mem_append] at hy
      rcases hy with rfl | rfl | hy | hy | hy
      · exact hk7.size
      · exact hp0
      · exact hq1 y hy
      · exact hq3 y hy
      · exact hq5 y hy
    unfold yields
    go_simp
    exact ⟨⟨Keep.of_grow [] ga, trivial⟩, ⟨_, rfl, rfl, TG, hall⟩⟩
  obtain ⟨g, rfl, -⟩ := hV
  clear hC hF w7
  simp only [List.set_cons_succ, List.set_cons_zero]
  repeat (first | (refine wpV_skp rfl rfl ?_; simp only [List.set_cons_succ, List.set_cons_zero]) | (refine wpV_look rfl rfl rfl rfl rfl (fun K hK => ?_); go_big_quiet_op; refine hK _ ?_; clear hK K))
  refine wpV_nil ?_
  intro w9 hC hF
  obtain ⟨⟨w9, hk9, -⟩, rfl⟩ := hC
  obtain ⟨g2, e, hn, tg, hq⟩ := (hF 7).2 rfl
  rw [e]
  have hf := hR g2 _ hn tg hq hk9.grow
  clear hR hF hnew hkey hms hmb tg
  go_wp2_with fail
  exact hf
end Go.Proofs.Ytfmnkcmicbnfdaa
