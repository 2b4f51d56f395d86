/- proj.Kinds. -/
import Derived.Test.YtgchbcopbkoomaaEx25
namespace Go.Proofs.Ytgchbcopbkoomaa
open Go Go.RowKit

theorem sto0 (S : Nat) (w : World) : Sto (w.alloc (.cells (stV S startS (.slice none 0 0)).toArray 59)) w.heap.size S startS none 0 0 :=
  { st := Own.made (n := 15) (sz := 1) (heap_alloc_new w (.cells (stV S startS (.slice none 0 0)).toArray 59)) rfl (by decide) (by simp [outV, hidV, zeroV, startS, Value.oneCell'])
    wr := Own.none _ _ _, ne := by simp [blk], hok := (by intro h e; cases e), wok := (by intro a h; simp [startS] at h), mt := .inl rfl, mh := (by intro h; simp [startS] at h), len := rfl }
theorem built_story : Try.prog.built 59 [(2, .int .i64 (-1))] = some #[.bool false, .string .empty, .int .i64 0, .int .i64 0, .int .i64 0, .int .i64 0, .bool false, .string .empty, .int .i64 0, .int .i64 0, .int .i64 0, .int .i64 0, .int .i64 (-1), .bool false, .slice none 0 0] := by kernel_rfl

set_option maxRecDepth 100000 in
set_option maxHeartbeats 4000000 in
theorem kindsC (S : Nat) (hS1 : 96 ≤ S) (hS : S ≤ 300) (l : List Ex) (ao : Option Addr) (n c : Nat) (hn : n = l.length) (hn2 : n ≤ 1000) (hd : ∀ e ∈ l, e.s.cmd.data.length ≤ 1000000) (w : World) (s : Sl w 10 ao n c (l.flatMap exV)) (R : Ending → World → Prop)
    (hR : ∀ ao' c' w', Own w' 3 1 ao' n c' ((kindsT S (l.map (·.s))).map (.int .i64)) → Grow w w' → Fr (blk ao') w → R (.returned (.slice ao' n c')) w') :
    Calls Try.prog 9 #[.int .i64 (S : Int), .slice ao n c] w R := by
  have hml : maxLen = 9223372036854775807 := rfl
  have hks := s.hle
  have hkm := s.hcap
  have hb := built_story
  have g0 := Grow.alloc w (.cells (stV S startS (.slice none 0 0)).toArray 59)
  have s0 := sto0 S w
  have eV : (stV S startS (.slice none 0 0)).toArray = #[.bool false, .string .empty, .int .i64 0, .int .i64 0, .int .i64 0, .int .i64 0, .bool false, .string .empty, .int .i64 0, .int .i64 0, .int .i64 0, .int .i64 0, .int .i64 (-1), .bool false, .slice none 0 0] := rfl
  rw [eV] at s0 g0
  obtain ⟨p, hp⟩ : ∃ p, p = w.heap.size := ⟨_, rfl⟩
  rw [← hp] at s0
  have Hn := Lib.hid hn
  have Hd := Lib.hid hd
  have HR := Lib.hid hR
  clear hn hd hR eV
  go_enter Try.func9, Try.ntmps9
  go_wp2_with (refine wpList_built rfl 59 [(2, .const (.int .i64 (-1)))] rfl rfl hb ?_)
  rw [← hp]
  clear hb
  generalize w.alloc _ = W0 at *
  have hp0 : w.heap.size ≤ p := by omega
  clear hp
  go_loopw [4, 13] (fun vo vi wr => ∃ (i : Nat) (oo : Option Addr) (oc : Nat) (x : Sy) (ks : List Int) (wo : Option Addr) (wn wc : Nat), vo = .slice oo i oc ∧ vi = .int .i64 (i : Int) ∧ i ≤ n ∧ Hid (kindsS S startS (l.map (·.s)) = (kindsS S x ((l.drop i).map (·.s))).map (ks ++ ·)) ∧ x.wr.length ≤ i ∧ wn = x.wr.length ∧ Own wr 3 1 oo i oc (ks.map (.int .i64)) ∧ Sto wr p S x wo wn wc ∧ Grow w wr ∧ (∀ y ∈ blk oo, w.heap.size ≤ y) ∧ (∀ y ∈ blk oo, y ≠ p ∧ y ∉ blk wo) ∧ (∀ y ∈ blk wo, w.heap.size ≤ y)) (fun _ vi _ => n - (intOf vi).toNat)
  case atStart => exact ⟨0, none, 0, startS, [], none, 0, 0, rfl, by simp, by omega, Lib.hid (by simp), by simp [startS], rfl, Own.none _ _ _, s0, g0, by simp [blk], by simp [blk], by simp [blk]⟩
  case round =>
    clear s0 g0
    obtain ⟨i, oo, oc, x, ks, wo, wn, wc, rfl, rfl, hi, hrun, hwl, hwn, oOut, sto, g, fo, do', fw⟩ := hrel
    by_cases hlt : i < n
    · have hlt2 : i < l.length := by rw [← Hn.out]; exact hlt
      have sr := s.grow g
      obtain ⟨gb, off, eg, hcs⟩ := sr.hat (by omega)
      subst eg
      obtain ⟨e, he⟩ : ∃ e, e = l[i]'hlt2 := ⟨_, rfl⟩
      have hci : Cells wr gb (off + i * 10) (exV e) := by rw [he]; exact cells_ex hcs i hlt2
      have hrg : wr.rangeAt gb (off + i * 10) (exV e) := fun j v hj => hci.at hj
      have hdl : e.s.cmd.data.length ≤ 1000000 := Hd.out e (by rw [he]; exact List.getElem_mem hlt2)
      have hdr : Hid (kindsS S x ((l.drop i).map (·.s)) = match stepS S x e.s with
        | none => none
        | some (k, y) => (kindsS S y ((l.drop (i + 1)).map (·.s))).map (k :: ·)) := Lib.hid (by rw [List.drop_eq_getElem_cons hlt2, List.map_cons, kindsS_drop, he]; cases stepS S x l[i].s <;> rfl)
      have hst := fun w st R hR => stepC (x := x) (p := p) (wo := wo) (wn := wn) (wc := wc) hS1 hS e.s e.da e.dc hdl e.kv e.bv (by omega) w st R hR
      have hVl := exV_len e
      have hV1 := exV_one e
      have eA : sxV e.s (.slice e.da e.s.cmd.data.length e.dc) e.kv e.bv = (exV e).toArray := rfl
      rw [eA] at hst
      obtain ⟨V, hV⟩ : ∃ V, V = exV e := ⟨_, rfl⟩
      rw [← hV] at hrg hVl hV1 hst
      have hsz : (Try.prog.info? 41).map (·.size) = some V.length := by rw [hVl]; exact i10
      have hszF : (Try.prog.info? 41).map (·.size) = some V.toArray.size := by rw [List.size_toArray, hVl]; exact i10
      obtain ⟨o4, ga1, th1, al1⟩ := newvarZ (n := 10) (t := 41) wr stZ rfl stZ_one (by omega) hVl hV1
      clear hV eA hci hcs sr
      go_upto_region 5 with (first | (refine wpList_load_mid rfl 41 _ rfl gb (off + i * 10) rfl V _ hrg Try.underlying41 rfl hsz ?_) | (refine wpList_store_mid rfl 41 _ _ rfl wr.heap.size 0 V.toArray rfl rfl th1 hszF al1 ?_))
      change Code.wp _ _ _ ⟨_, _⟩ ((wr.alloc (.cells stZ.toArray 41)).setCells wr.heap.size 0 V)
      have G3 := g.trans ga1
      have st3 := sto.grow ga1
      have o3 := oOut.grow ga1
      obtain ⟨q, hq⟩ : ∃ q, q = wr.heap.size := ⟨_, rfl⟩
      generalize (wr.alloc (.cells stZ.toArray 41)).setCells wr.heap.size 0 V = w3 at *
      rw [← hq] at o4 ⊢
      have hpq : w.heap.size ≤ q := by have := g.size; omega
      clear hq th1 al1 ga1 hszF hrg sto oOut g
      have hrg4 := own_range o4 (by omega)
      go_upto_region 5 with (fail)
      have hst3 := hst w3 st3
      clear hst
      cases hx : stepS S x e.s with
      | none =>
        have hkT : Hid (kindsT S (l.map (·.s)) = List.replicate n 4) := Lib.hid (by unfold kindsT; rw [hrun.out, hdr.out, hx, Hn.out]; simp)
        rw [hx] at hst3
        have hrep := fun q0 w c0 => repeatC 4 n (by omega) (by omega) q0 w c0
        clear hrun hdr o3 fo do' he hx
        go_wp2_with (refine wpList_load_mid rfl 41 _ rfl q 0 rfl V _ hrg4 Try.underlying41 rfl hsz ?_)
        refine hst3 _ ?_
        intro w4 k4
        have G4 := G3.then k4 (fun y hy => by
          rcases List.mem_cons.1 hy with rfl | h
          · exact hp0
          · exact fw y h)
        clear k4 hst3 hrg4 o4 st3 G3 hsz hVl hV1
        go_upto_region 7 with (fail)
        have ga4 := Grow.alloc w4 (.cells #[.int .i64 4] 3)
        have c4 : (w4.alloc (.cells #[.int .i64 4] 3)).cell? ⟨w4.heap.size, 0, none⟩ = some (.int .i64 4) := obj_cell (alloc_new w4 _) 0 rfl
        have hrp := hrep w4.heap.size _ c4
        clear hrep c4
        go_wp2_with fail
        refine hrp _ ?_
        intro q5 c5 w5 o5 g5 hq5
        have hz4 : w4.heap.size ≤ q5 := by rw [sz_al] at hq5; omega
        have hf := HR.out (some ⟨q5, 0, none⟩) c5 w5 (by rw [hkT.out, List.map_replicate]; exact o5) ((G4.trans ga4).trans g5) (by intro y hy; simp [blk] at hy; have := G4.size; omega)
        clear HR hkT hrp o5 G4 ga4 g5
        go_wp2_with fail
        exact hf
      | some r =>
        obtain ⟨k, x'⟩ := r
        obtain ⟨hk3, hw3⟩ := stepS_kind hx
        have hk4 : (k == 4) = false := by simp; omega
        have hrun' : Hid (kindsS S startS (l.map (·.s)) = (kindsS S x' ((l.drop (i + 1)).map (·.s))).map ((ks ++ [k]) ++ ·)) := Lib.hid (by rw [hrun.out, hdr.out, hx]; simp only [Option.map_map]; congr 1; funext z; simp)
        rw [hx] at hst3
        clear hrun hdr he hx hk3
        go_wp2_with (refine wpList_load_mid rfl 41 _ rfl q 0 rfl V _ hrg4 Try.underlying41 rfl hsz ?_)
        refine hst3 _ ?_
        intro wo' wn' wc' w4 st4 hwn' k4 inn
        have G4 := G3.then k4 (fun y hy => by
          rcases List.mem_cons.1 hy with rfl | h
          · exact hp0
          · exact fw y h)
        have o4' := o3.keep k4 (fun y hy hm => by
          rcases List.mem_cons.1 hm with rfl | h
          · exact (do' y hy).1 rfl
          · exact (do' y hy).2 h)
        have fw' : ∀ y ∈ blk wo', w.heap.size ≤ y := fun y hy => by
          rcases inn y hy with h | h
          · exact fw y h
          · have := G3.size; omega
        have dd : ∀ y ∈ blk oo, y ≠ p ∧ y ∉ blk wo' := fun y hy => ⟨(do' y hy).1, fun h => by
          rcases inn y h with h | h
          · exact (do' y hy).2 h
          · have := o3.lt y hy; omega⟩
        clear k4 hst3 hrg4 o4 st3 G3 hsz hVl hV1 o3 inn do' fw
        go_upto_region 8 with (fail)
        have ga4 := Grow.alloc w4 (.cells #[.int .i64 k] 3)
        have o5 := o4'.grow ga4
        have st5 := st4.grow ga4
        have sK : Sl (w4.alloc (.cells #[.int .i64 k] 3)) 1 (some ⟨w4.heap.size, 0, none⟩) 1 1 [.int .i64 k] := (Own.made (n := 1) (sz := 1) (heap_alloc_new w4 (.cells #[.int .i64 k] 3)) rfl (by decide) (by simp [Value.oneCell'])).sl
        have G5 := G4.trans ga4
        have hlp := st4.st.lt p (by simp [blk])
        have hlw := st4.wr.lt
        have hlo := o4'.lt
        have hz := sz_al w4 (.cells #[.int .i64 k] 3)
        clear G4 ga4 st4 o4'
        go_wp2_with (at_builtin; refine wpList_app TIn rfl rfl o5 sK (by omega) (by omega) ?_; intro oo2 oc2 w6 o6 _ k6 b6)
        have G6 := G5.then k6 fo
        have st6 := st5.keep k6 (fun h => (dd p h).1 rfl) (fun y hy h => (dd y h).2 hy)
        clear k6 st5 o5 sK G5
        go_wp2_with fail
        refine ⟨⟨i + 1, oo2, oc2, x', ks ++ [k], wo', wn', wc', rfl, by go_num, by omega, hrun', by omega, hwn', by rw [List.map_append]; exact o6, st6, G6, fun y hy => ?_, fun y hy => ?_, fw'⟩, by simp [intOf]; omega⟩
        · rcases b6 y hy with h | h
          · exact fo y h
          · have := G6.size; omega
        · rcases b6 y hy with h | h
          · exact dd y h
          · exact ⟨by omega, fun h2 => by have := hlw y h2; omega⟩
    · obtain rfl : i = n := by omega
      have hkT : kindsT S (l.map (·.s)) = ks := by unfold kindsT; rw [hrun.out, List.drop_of_length_le (by rw [← Hn.out]; exact Nat.le_refl _)]; simp [kindsS]
      have hf := HR.out oo oc wr (by rw [hkT]; exact oOut) g fo
      clear HR hkT hrun sto oOut
      go_wp2_with fail
      exact hf
end Go.Proofs.Ytgchbcopbkoomaa
