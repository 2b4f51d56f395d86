/- The ideal cipher: other, the walk. -/
import Derived.Test.YtfmnkcmicbnfdaaIdlE
namespace Go.Proofs.Ytfmnkcmicbnfdaa
open Go Go.RowKit

theorem own_cells4 {w : World} {e : TypeId} {q n c : Nat} {xs : List Value} (o : Own w e 1 (some ⟨q, 0, none⟩) n c xs) (h : 0 < n) : Cells w q 0 xs := by
  obtain ⟨g, off, eg, hcs⟩ := o.sl.hat h
  cases eg
  exact hcs
/-- How it ends. -/
structure OthEnd (w : World) (p t P K F G : Nat) (wf rb : List Nat) (bs : List UInt8) (at_ : Nat) (fl gl : List (B16 × B16)) (cnt ag : Nat) (b : B16) (R : Ending → World → Prop) : Prop where
  had : ∀ y, look b fl = some y → ∀ w', Grow w w' → R (.returned (.tuple #[ekB y, .int .i64 0])) w'
  dry : look b fl = none → ∀ a' ag', drawN bs gl (bs.length + 1) at_ ag = (none, a', ag') → ∀ wf' w', Oth w' p t P K F G wf' rb bs a' fl gl cnt ag' → Keep (p :: F :: G :: wf) w w' → Inn wf' wf w → R (.returned (.tuple #[ekB b16z, .int .i64 9])) w'
  new : look b fl = none → ∀ x a' ag', drawN bs gl (bs.length + 1) at_ ag = (some x, a', ag') → ∀ wf' w', Oth w' p t P K F G wf' rb bs a' (putM b x fl) (putM x b gl) (cnt + 1) ag' → Keep (p :: F :: G :: wf) w w' → Inn wf' wf w → R (.returned (.tuple #[ekB x, .int .i64 0])) w'

set_option maxRecDepth 100000 in
set_option maxHeartbeats 2000000 in
theorem otherC {w : World} {p t P K F G : Nat} {wf rb : List Nat} {bs : List UInt8} {at_ : Nat} {fl gl : List (B16 × B16)} {cnt ag : Nat} (h : Oth w p t P K F G wf rb bs at_ fl gl cnt ag) (hbs : bs.length ≤ 50000) (hcnt : cnt ≤ 100000) (hag : ag ≤ 100000) (what : ByteArray) (b : B16)
    (R : Ending → World → Prop) (hR : OthEnd w p t P K F G wf rb bs at_ fl gl cnt ag b R) :
    Calls Try.prog 57 #[.pointer (some ⟨p, 0, none⟩), .string what, ekB b, .map (some F), .map (some G)] w R := by
  have hml : maxLen = 9223372036854775807 := rfl
  have hXl : (b.b.map B).length = 16 := by rw [List.length_map]; exact b.h
  have hX1 := B_one b.b
  have hz1 : ∀ v ∈ zB, v.oneCell' = true := fun v hv => by rw [List.eq_of_mem_replicate hv]; rfl
  have ga := Grow.alloc w (.cells (b.b.map B).toArray 33)
  have o7 : Own (w.alloc (.cells (b.b.map B).toArray 33)) 33 1 (some ⟨w.heap.size, 0, none⟩) 16 16 (b.b.map B) := Own.made (n := 16) (sz := 1) (heap_alloc_new w _) (by simpa using hXl) (by omega) (by simpa using hX1)
  obtain ⟨wa, hwa⟩ : ∃ wa, wa = w.alloc (.cells (b.b.map B).toArray 33) := ⟨_, rfl⟩
  rw [← hwa] at ga o7
  have z1 : wa.heap.size = w.heap.size + 1 := by rw [hwa]; simp
  have gb := Grow.alloc wa (.cells zB.toArray 33)
  have o10 : Own (wa.alloc (.cells zB.toArray 33)) 33 1 (some ⟨wa.heap.size, 0, none⟩) 16 16 zB := Own.made (n := 16) (sz := 1) (heap_alloc_new wa _) rfl (by omega) (by simp [Value.oneCell'])
  obtain ⟨wb, hwb⟩ : ∃ wb, wb = wa.alloc (.cells zB.toArray 33) := ⟨_, rfl⟩
  rw [← hwb] at gb o10
  rw [z1] at o10
  have o7b := o7.grow gb
  have hall : wb = (w.alloc (.cells (b.b.map B).toArray 33)).alloc (.cells zB.toArray 33) := by rw [hwb, hwa]
  have Gb := ga.trans gb
  have hb := h.grow Gb
  obtain ⟨q7, hq7⟩ : ∃ q, q = w.heap.size := ⟨_, rfl⟩
  rw [← hq7] at o7b o10
  have D7 := h.out (x := q7) (by omega)
  have D10 := h.out (x := q7 + 1) (by omega)
  have hk := run_look (T := 103) Try.underlying103 okB (zBlock wb) hb.mf b true
  have hat0 : at_ ≤ bs.length := by
    obtain ⟨T, h1, -⟩ := h.tape
    obtain ⟨_, _, _, _, _, _, ha, _⟩ := h1
    simpa using ha
  have Hh := Lib.hid h
  have HR := Lib.hid hR
  have Hq7 := Lib.hid hq7
  clear hwa hwb z1 ga gb o7 h hR
  go_enter Try.func57, Try.ntmps57
  go_upto_region 1 with (fail)
  change Code.wp _ _ _ ⟨_, _⟩ ((w.alloc (.cells (b.b.map B).toArray 33)).alloc (.cells zB.toArray 33))
  rw [← hall, ← hq7]
  clear hall hq7
  cases hl : look b fl with
  | some y =>
    rw [hl] at hk
    have hyl : (y.b.map B).length = 16 := by rw [List.length_map]; exact y.h
    refine oth1 F q7 (b.b.map B) (y.b.map B) true hXl hyl (B_one _) wb o7b hk ?_
    intro q12 w2 o12 g2 hq12
    intros
    have o102 := o10.grow g2
    clear hk o7b hb
    go_upto_region 3 with (fail)
    refine oth3 (q7 + 1) q12 (y.b.map B) zB hyl (B_one _) w2 o12 o102 ?_
    intro w3 o103 k3
    intros
    have hf := HR.out.had y hl w3 ((Gb.trans g2).then k3 (fun g hg => by simp at hg; have := Hq7.out; omega))
    clear HR Hh hl
    go_wp2_with fail
    exact bodyPost_ret (v := .tuple #[.agg (y.b.map B).toArray, .int .i64 0]) (ret_cs Try.results57 _ _ (q7 + 1) 16 (y.b.map B) _ rfl rfl o103 (by decide) Try.underlying33 rfl i16) rfl hf
  | none =>
    rw [hl] at hk
    refine oth1 F q7 (b.b.map B) (b16z.b.map B) false hXl rfl (B_one _) wb o7b hk ?_
    intro q12 w2 o12 g2 _
    intros
    have o102 := o10.grow g2
    have o72 := o7b.grow g2
    have hl7 := o7b.lt q7 (by simp [blk])
    have hl10 := o10.lt (q7 + 1) (by simp [blk])
    have h2 := hb.grow g2
    have G2 := Gb.trans g2
    have hl7' := o72.lt q7 (by simp [blk])
    have hl10' := o102.lt (q7 + 1) (by simp [blk])
    clear hk o7b hb o12 g2 Gb o10
    obtain ⟨D, hD⟩ : ∃ D, D = drawN bs gl (bs.length + 1) at_ ag := ⟨_, rfl⟩
    have HD := Lib.hid hD
    go_wp2_with fail
    go_loopg [] (bs.length + 1) (fun gk wr => ∃ (a g2 : Nat) (wf2 : List Nat), Hid (drawN bs gl gk a g2 = D) ∧ bs.length < a + 16 * gk ∧ a ≤ bs.length ∧ g2 ≤ ag + a ∧ Oth wr p t P K F G wf2 rb bs a fl gl cnt g2 ∧ Keep (p :: F :: G :: wf) w wr ∧ Inn wf2 wf w ∧
      Own wr 33 1 (some ⟨q7, 0, none⟩) 16 16 (b.b.map B) ∧ Own wr 33 1 (some ⟨q7 + 1, 0, none⟩) 16 16 zB ∧ q7 ∉ wf2 ∧ q7 + 1 ∉ wf2)
    case atStart => exact ⟨at_, ag, wf, Lib.hid hD.symm, by omega, hat0, by omega, h2, Keep.of_grow _ G2, fun g hg => .inl hg, o72, o102, fun hm => D7.1 (by simp [hm]), fun hm => D10.1 (by simp [hm])⟩
    case round =>
      clear h2 G2 o72 o102 hD hl7 hl10 hl7' hl10'
      obtain ⟨a, g2, wf2, hdr, hfu, ha, hg2, ho, hK, hI, o7, o10, n7, n10⟩ := hrel
      obtain ⟨T, ht, hT⟩ := ho.tape
      have c0 := obj_cell ho.obj 0 rfl
      have hlen : (bs.map B).length = bs.length := List.length_map ..
      obtain ⟨m1, m2, m3, m4, m5, m6⟩ := ho.ne
      have hsw := hK.size
      have hq := Nat.le_of_eq Hq7.out
      have hq' := Nat.le_of_eq Hq7.out.symm
      obtain ⟨n, rfl⟩ : ∃ n, gk = n + 1 := ⟨gk - 1, by omega⟩
      have hold := ho.lt
      by_cases hdry : bs.length < a + 16
      · have hc := tapeTakeOver t wf2 rb (bs.map B) a T wr ht (by omega) what 16 (by omega) (by rw [hlen]; omega)
        have hdr2 := hdr.out
        rw [drawN, if_pos hdry, HD.out] at hdr2
        clear ht
        go_wp2_with fail
        refine hc _ ?_
        clear hc c0
        intro w4 g4
        have o104 := o10.grow g4
        go_upto_region 6 with (fail)
        refine oth6 (q7 + 1) 9 zB w4 o104 ?_
        intro w5 o105 k5
        intros
        have D10' : q7 + 1 ∉ p :: F :: G :: wf2 ∧ q7 + 1 ∉ rb := ⟨by simp only [List.mem_cons, not_or] at D10 ⊢; exact ⟨D10.1.1, D10.1.2.1, D10.1.2.2.1, n10⟩, D10.2⟩
        have hO := (ho.grow g4).keep k5 (fun x hx => by simp at hx; subst hx; exact D10')
        have hK5 : Keep (p :: F :: G :: wf) w w5 := (hK.trans (Keep.of_grow _ g4)).trans' k5 (fun x hx => by simp at hx; right; omega)
        have hf := HR.out.dry hl a g2 hdr2.symm wf2 w5 hO hK5 hI
        clear HR Hh hl
        go_wp2_with fail
        exact bodyPost_ret (v := .tuple #[.agg zB.toArray, .int .i64 9]) (ret_cs Try.results57 _ _ (q7 + 1) 16 zB _ rfl rfl o105 (by decide) Try.underlying33 rfl i16) rfl hf
      · have hc := tapeTake t wf2 rb (bs.map B) a T wr ht (by omega) (by omega) what 16 (by omega)
        have hdr2 := hdr.out
        rw [drawN, if_neg hdry] at hdr2
        obtain ⟨x, hx⟩ : ∃ x, x = b16 ((bs.drop a).take 16) := ⟨_, rfl⟩
        have hxb : x.b = (bs.drop a).take 16 := by
          have hl16 : ((bs.drop a).take 16).length = 16 := by rw [List.length_take, List.length_drop]; omega
          rw [hx]
          show blockS _ = _
          rw [blockS, hl16, List.take_of_length_le (by omega)]
          simp
        have hxv : ((bs.map B).drop a).take 16 = x.b.map B := by rw [hxb, List.map_take, List.map_drop]
        rw [← hx] at hdr2
        simp only [hxv] at hc
        have hxl : (x.b.map B).length = 16 := by rw [List.length_map]; exact x.h
        clear ht hx hxb hxv
        go_wp2_with fail
        refine hc _ ?_
        clear hc c0
        intro ao4 c4 wf4 w4 o4 ht4 k4 hi4 hf4 hd4
        have hO4 := ho.took ht4 (by simp; omega) k4 hi4
        have hin4 : ∀ y, y < wr.heap.size → y ∉ wf2 → y ∉ wf4 := fun y hy hn hm => by
          rcases hi4 y hm with h1 | h1
          · exact hn h1
          · omega
        have l7 := o7.lt q7 (by simp [blk])
        have l10 := o10.lt (q7 + 1) (by simp [blk])
        have n74 := hin4 q7 l7 n7
        have n104 := hin4 (q7 + 1) l10 n10
        have o74 := o7.keep k4 (by simp [blk]; exact n7)
        have o104 := o10.keep k4 (by simp [blk]; exact n10)
        have hK4 : Keep (p :: F :: G :: wf) w w4 := hK.trans' k4 (fun y hy => (hI y hy).imp (fun h => by simp [h]) id)
        have hI4 : Inn wf4 wf w := fun y hy => by
          rcases hi4 y hy with h1 | h1
          · exact hI y h1
          · right; omega
        obtain ⟨gx, vx, eg, -, -, -⟩ := own_put o4 (i := 0) (by omega)
        subst eg
        have cx := own_cells4 o4 (by omega)
        have hs4 := k4.size
        clear ht4 hi4 hin4 o7 o10 n7 n10 hI hK hd4 hf4 vx
        go_upto_region 7 with (fail)
        refine oth7 gx c4 (x.b.map B) hxl (B_one _) w4 cx ?_
        intro q16 w5 o16 g5 hq16
        intros
        have hO5 := hO4.grow g5
        have o75 := o74.grow g5
        have o105 := o104.grow g5
        have hK5 := hK4.trans (Keep.of_grow _ g5)
        have h16F : q16 ≠ F := by have := hO4.lt F (by simp); omega
        have hk8 := run_look (T := 103) Try.underlying103 okB (zBlock w5) hO5.mg x true
        have hlt16 := o16.lt q16 (by simp [blk])
        have hs5 := g5.size
        clear hO4 o74 o104 hK4 g5 cx o4
        go_upto_region 8 with (fail)
        cases hu : look x gl with
        | some y =>
          rw [hu] at hk8
          rw [hu, Option.isSome_some, if_pos rfl] at hdr2
          refine oth8 G q16 (x.b.map B) (y.b.map B) true hxl (by rw [List.length_map]; exact y.h) (B_one _) w5 o16 hk8 ?_
          intro w6 g6
          intros
          have hO6 := hO5.grow g6
          clear hk8 hO5
          go_upto_region 13 with (fail)
          refine oth13 p g2 (by omega) _ _ _ _ w6 hO6.obj ?_
          intro w7 ho7 k7
          intros
          have hO7 := hO6.counted ho7 k7
          have o77 := (o75.grow g6).keep k7 (by simp [blk]; intro e; exact D7.1 (by simp [e]))
          have o107 := (o105.grow g6).keep k7 (by simp [blk]; intro e; exact D10.1 (by simp [e]))
          have hK7 := (hK5.trans (Keep.of_grow _ g6)).trans (k7.mono (fp' := p :: F :: G :: wf) (by simp))
          have Hdr2 := Lib.hid hdr2
          clear hO6 o75 o105 hK5 hdr hdr2
          go_wp2_with fail
          go_roundg n
          case rel => exact ⟨a + 16, g2 + 1, wf4, Hdr2, by omega, by omega, by omega, hO7, hK7, hI4, o77, o107, n74, n104⟩
          case measure => omega
        | none =>
          rw [hu] at hk8
          rw [hu, Option.isSome_none, if_neg (by simp), HD.out] at hdr2
          refine oth8 G q16 (x.b.map B) (b16z.b.map B) false hxl rfl (B_one _) w5 o16 hk8 ?_
          intro w6 g6
          intros
          have hO6 := hO5.grow g6
          have o76 := o75.grow g6
          have o106 := o105.grow g6
          have o166 := o16.grow g6
          have hK6 := hK5.trans (Keep.of_grow _ g6)
          have hz6 := g6.size
          clear hk8 hO5 o75 o105 o16 hK5 g6
          go_upto_region 10 with (fail)
          refine oth10 F G q7 q16 b x fl gl w6 hO6.mf hO6.mg m3 (fun e => D7.1 (by simp [e])) h16F o76 o166 ?_
          intro w7 mf7 mg7 k7
          intros
          have hO7 := hO6.mapped mf7 mg7 k7
          have h16G : q16 ≠ G := by have := hold G (by simp); omega
          have h16p : q16 ≠ p := by have := hold p (by simp); omega
          have o107 := o106.keep k7 (by simp [blk]; exact ⟨fun e => D10.1 (by simp [e]), fun e => D10.1 (by simp [e])⟩)
          have o167 := o166.keep k7 (by simp [blk]; exact ⟨h16F, h16G⟩)
          have hK7 := hK6.trans (k7.mono (fp' := p :: F :: G :: wf) (by simp))
          clear hO6 mf7 mg7 k7 o76 o106 o166 hK6
          go_upto_region 11 with (fail)
          refine oth11 p cnt (by omega) _ _ _ _ w7 hO7.obj ?_
          intro w8 ho8 k8
          intros
          have hO8 := hO7.counted ho8 k8
          have o108 := o107.keep k8 (by simp [blk]; intro e; exact D10.1 (by simp [e]))
          have o168 := o167.keep k8 (by simp [blk]; exact h16p)
          have hK8 := hK7.trans (k8.mono (fp' := p :: F :: G :: wf) (by simp))
          clear hO7 ho8 k8 o107 o167 hK7
          go_upto_region 12 with (fail)
          refine oth12 (q7 + 1) q16 (x.b.map B) zB hxl (B_one _) w8 o168 o108 ?_
          intro w9 o109 k9
          intros
          have D10' : q7 + 1 ∉ p :: F :: G :: wf4 ∧ q7 + 1 ∉ rb := ⟨by simp only [List.mem_cons, not_or] at D10 ⊢; exact ⟨D10.1.1, D10.1.2.1, D10.1.2.2.1, n104⟩, D10.2⟩
          have hO9 := hO8.keep k9 (fun y hy => by simp at hy; subst hy; exact D10')
          have hK9 : Keep (p :: F :: G :: wf) w w9 := hK8.trans' k9 (fun y hy => by simp at hy; right; omega)
          have hf := HR.out.new hl x (a + 16) g2 hdr2.symm wf4 w9 hO9 hK9 hI4
          clear HR Hh hl
          go_wp2_with fail
          exact bodyPost_ret (v := .tuple #[.agg (x.b.map B).toArray, .int .i64 0]) (ret_cs Try.results57 _ _ (q7 + 1) 16 (x.b.map B) _ rfl rfl o109 (by decide) Try.underlying33 rfl i16) rfl hf
end Go.Proofs.Ytfmnkcmicbnfdaa
