/- A story is turned: a step of a script. -/
import Derived.Test.YtgchbcopbkoomaaLo25
namespace Go.Proofs.Ytgchbcopbkoomaa
open Go Go.RowKit

/-- A step's cells. -/
def sxV (s : StX) (cv kv dv : Value) : Array Value := #[.int .i64 s.kind, .int .i64 s.cmd.kind, .string (str s.cmd.pass), .string (str s.cmd.other), .int .i64 s.cmd.first, .int .i64 s.cmd.count, cv, .int .i64 s.n, kv, dv]
theorem datS_out (S : Nat) (h1 : 96 ≤ S) : datS ⟨8, ((S - 16 : Nat) : Int)⟩ = outD S := by
  unfold datS outD
  simp only
  congr 1 <;> omega
theorem str_size (l : List UInt8) : (str l).size = l.length := by
  show l.toArray.size = l.length
  simp
set_option maxRecDepth 100000 in
set_option maxHeartbeats 2000000 in
theorem stepC {p S : Nat} {x : Sy} {wo : Option Addr} {wn wc : Nat} (hS1 : 96 ≤ S) (hS : S ≤ 300) (s : StX) (da : Option Addr) (dc : Nat) (hdl : s.cmd.data.length ≤ 1000000) (kv dv : Value) (hn : wn ≤ 10000) (w : World) (st : Sto w p S x wo wn wc) (R : Ending → World → Prop) (hR : StepR R w p S wo (stepS S x s)) :
    Calls Try.prog 19 #[.pointer (some ⟨p, 0, none⟩), .int .i64 (S : Int), .agg (sxV s (.slice da s.cmd.data.length dc) kv dv)] w R := by
  have hml : maxLen = 9223372036854775807 := rfl
  have hlo := fun w hx (st : Sto w p S x wo wn wc) => looseC hS1 hS s.cmd (.slice da s.cmd.data.length dc) hx w st
  have hhe := fun w hx (st : Sto w p S x wo wn wc) => heldC hS s.cmd da dc hdl hn hx w st
  have hwh := fun w => wholeC S hS1 hS w
  have hsp := fun w => splitC ⟨8, ((S - 16 : Nat) : Int)⟩ (by show (0 : Int) ≤ 8; decide) (by show (8 : Int) ≤ 65536; decide) (by show 48 ≤ ((S - 16 : Nat) : Int); omega) (by show ((S - 16 : Nat) : Int) ≤ 65536; omega) w
  rw [datS_out S hS1] at hsp
  simp only at hsp
  obtain ⟨kk, ⟨kd, ps, ot, fi, co, dat⟩, sn, kp, sd⟩ := s
  simp only [cmV, sxV] at hlo hhe hdl ⊢
  have hz1 := str_size ps
  have hz2 := str_size ot
  obtain ⟨dn, hdn⟩ : ∃ dn, dn = dat.length := ⟨_, rfl⟩
  have hst : stepS S x ⟨kk, ⟨kd, ps, ot, fi, co, dat⟩, sn, kp, sd⟩ = if kk ≠ 1 ∨ 128 < ps.length ∨ 128 < ot.length then none else match x.out with
    | none => if kd = 1 then some (1, { x with out := some ps }) else none
    | some _ => if kd = 2 ∨ kd = 3 ∨ kd = 4 ∨ kd = 9 then looseS S x ⟨kd, ps, ot, fi, co, dat⟩ else if kd = 5 ∨ kd = 6 ∨ kd = 7 ∨ kd = 8 then heldS S x ⟨kd, ps, ot, fi, co, dat⟩ else none := rfl
  rw [hst] at hR
  rw [← hdn] at hlo hhe ⊢
  have g1 := Grow.alloc w (.cells #[.int .i64 kk, .int .i64 kd, .string (str ps), .string (str ot), .int .i64 fi, .int .i64 co, .slice da dn dc, .int .i64 sn, kv, dv] 41)
  have g2 := Grow.alloc (w.alloc (.cells #[.int .i64 kk, .int .i64 kd, .string (str ps), .string (str ot), .int .i64 fi, .int .i64 co, .slice da dn dc, .int .i64 sn, kv, dv] 41)) (.cells #[.int .i64 kd, .string (str ps), .string (str ot), .int .i64 fi, .int .i64 co, .slice da dn dc] 39)
  have G := g1.trans g2
  have o7 := alloc_new (w.alloc (.cells #[.int .i64 kk, .int .i64 kd, .string (str ps), .string (str ot), .int .i64 fi, .int .i64 co, .slice da dn dc, .int .i64 sn, kv, dv] 41)) (.cells #[.int .i64 kd, .string (str ps), .string (str ot), .int .i64 fi, .int .i64 co, .slice da dn dc] 39)
  rw [sz_al] at o7
  have s1 := st.grow G
  have hR1 := hR.grow G
  have hlen := st.len
  have hlo1 := fun hx => hlo _ hx s1
  have hhe1 := fun hx => hhe _ hx s1
  have c0 := fun v h => s1.cell (i := 0) (v := v) ((stV_out S x _ 0 (by decide)).trans h)
  have zp := st.st.lt p (by simp [blk])
  clear hst hR st hlo hhe hdn g1 g2
  have hpss : ps.length ≤ ps.length := Nat.le_refl _
  by_cases h1 : kk = 1
  · subst h1
    by_cases h2 : 128 < ps.length
    · have d2 : decide (128 < (ps.length : Int)) = true := decide_eq_true (by omega)
      rw [if_pos (.inr (.inl h2))] at hR1
      have hg := hR1 _ (Keep.refl _ _)
      clear hR1 s1 hlo1 hhe1 c0 o7
      go_enter Try.func19, Try.ntmps19
      go_wp2_with fail
      exact hg
    · have d2 : decide (128 < (ps.length : Int)) = false := decide_eq_false (by omega)
      by_cases h3 : 128 < ot.length
      · have d3 : decide (128 < (ot.length : Int)) = true := decide_eq_true (by omega)
        rw [if_pos (.inr (.inr h3))] at hR1
        have hg := hR1 _ (Keep.refl _ _)
        clear hR1 s1 hlo1 hhe1 c0 o7
        go_enter Try.func19, Try.ntmps19
        go_wp2_with fail
        exact hg
      · have d3 : decide (128 < (ot.length : Int)) = false := decide_eq_false (by omega)
        rw [if_neg (by simp; omega)] at hR1
        cases ho : x.out with
        | none =>
          rw [ho] at hR1
          simp only at hR1
          have c0' := c0 (.bool false) (by rw [ho]; rfl)
          clear hlo1 hhe1 c0
          by_cases h4 : kd = 1
          · rw [if_pos h4] at hR1
            have d4 : (kd != 1) = false := by simp [h4]
            have d40 : (kd == 1) = true := by simp [h4]
            clear h4
            have Hs1 := Lib.hid s1
            have HR1 := Lib.hid hR1
            have Ho7 := Lib.hid o7
            have Hsp := Lib.hid hsp
            have Hho := Lib.hid ho
            clear s1 hR1 o7 hsp ho
            go_enter Try.func19, Try.ntmps19
            go_wp2_with fail
            refine hwh _ _ ?_
            clear hwh
            intro w3 g3
            go_upto_region 6 with (fail)
            have s1 := Hs1.out
            have hR1 := HR1.out
            have o7 := Ho7.out
            have hsp := Hsp.out
            have ho := Hho.out
            clear Hs1 HR1 Ho7 Hsp Hho
            have g4 := Grow.alloc w3 (.cells #[.int .i64 8, .int .i64 ((S - 16 : Nat) : Int)] 54)
            have o8 : Own (w3.alloc (.cells #[.int .i64 8, .int .i64 ((S - 16 : Nat) : Int)] 54)) 54 1 (some ⟨w3.heap.size, 0, none⟩) 2 2 [.int .i64 8, .int .i64 ((S - 16 : Nat) : Int)] := Own.made (n := 2) (sz := 1) (heap_alloc_new _ _) rfl (by decide) (by simp [Value.oneCell'])
            have s4 := s1.grow (g3.trans g4)
            have hR4 := hR1.grow (g3.trans g4)
            have r0 : (w3.alloc (.cells #[.int .i64 8, .int .i64 ((S - 16 : Nat) : Int)] 54)).cell? ⟨w.heap.size + 1, 0, none⟩ = some (.int .i64 kd) := obj_cell ((g3.trans g4).block o7) 0 rfl
            have r1 : (w3.alloc (.cells #[.int .i64 8, .int .i64 ((S - 16 : Nat) : Int)] 54)).cell? ⟨w.heap.size + 1, 1, none⟩ = some (.string (str ps)) := obj_cell ((g3.trans g4).block o7) 1 rfl
            have hz3 := g3.size
            have zz : p < w3.heap.size := by have := s1.st.lt p (by simp [blk]); omega
            clear g4 g3 s1 hR1 o7
            obtain ⟨z, hz⟩ : ∃ z, z = ((S - 16 : Nat) : Int) := ⟨_, rfl⟩
            rw [← hz] at o8 s4 hR4 r0 r1 ⊢
            simp only [← hz] at hsp
            obtain ⟨D, hD⟩ : ∃ D, D = outD S := ⟨_, rfl⟩
            simp only [← hD] at hsp
            obtain ⟨w4, hw4⟩ : ∃ w4, w4 = w3.alloc (.cells #[.int .i64 8, .int .i64 z] 54) := ⟨_, rfl⟩
            rw [← hw4] at o8 s4 hR4 r0 r1 ⊢
            clear hw4
            obtain ⟨q8, hq8⟩ : ∃ q8, q8 = w3.heap.size := ⟨_, rfl⟩
            obtain ⟨q7, hq7⟩ : ∃ q7, q7 = w.heap.size + 1 := ⟨_, rfl⟩
            rw [← hq8] at o8 zz ⊢
            rw [← hq7] at r0 r1 ⊢
            clear hq8 hq7 hz3
            have ho1 : outV S (some ps) = [.bool true, .string (str ps), .int .i64 8, .int .i64 z, .int .i64 D.f, .int .i64 D.c] := by rw [hz, hD]; rfl
            clear hz hD
            obtain ⟨o9, th9⟩ := own_sets [.bool true, .string (str ps), .int .i64 8, .int .i64 z, .int .i64 0, .int .i64 0] 0 _ _ s4.st (by simp) (by simp [Value.oneCell'])
            have e9 : spl (stV S x (.slice wo wn wc)) 0 [.bool true, .string (str ps), .int .i64 8, .int .i64 z, .int .i64 0, .int .i64 0] = [.bool true, .string (str ps), .int .i64 8, .int .i64 z, .int .i64 0, .int .i64 0] ++ (hidV x.hid ++ [.int .i64 x.mt, .bool x.trip, .slice wo wn wc]) := by
              unfold stV
              rw [ho]
              rfl
            rw [e9] at o9
            have hsz9 : (Try.prog.info? 56).map (·.size) = some (#[.bool true, .string (str ps), .int .i64 8, .int .i64 z, .int .i64 0, .int .i64 0] : Array Value).size := i6s
            have hal9 : (#[.bool true, .string (str ps), .int .i64 8, .int .i64 z, .int .i64 0, .int .i64 0] : Array Value).all (·.oneCell') = true := by simp [Value.oneCell']
            have th9' : w4.there p 0 (#[.bool true, .string (str ps), .int .i64 8, .int .i64 z, .int .i64 0, .int .i64 0] : Array Value).size := th9
            have k9 : Keep [p] w4 (w4.setCells p 0 [.bool true, .string (str ps), .int .i64 8, .int .i64 z, .int .i64 0, .int .i64 0]) := Keep.setCells _ _ _ _
            have o88 := o8.keep k9 (fun y hy hm => by simp [blk] at hy hm; omega)
            obtain ⟨gl, off, el, hcs⟩ := o8.sl.hat (by omega)
            cases el
            have a0 := hcs.at (i := 0) rfl
            have a1 := hcs.at (i := 1) rfl
            obtain ⟨gl, off, el, hcs2⟩ := o88.sl.hat (by omega)
            cases el
            have b0 := hcs2.at (i := 0) rfl
            have b1 := hcs2.at (i := 1) rfl
            simp only [Nat.zero_add, Nat.add_zero] at a0 a1 b0 b1
            clear hcs hcs2 th9 e9 o8 o88
            go_upto_region 9 with (refine wpList_store_mid rfl 56 _ _ rfl p 0 #[.bool true, .string (str ps), .int .i64 8, .int .i64 z, .int .i64 0, .int .i64 0] rfl rfl th9' hsz9 hal9 ?_)
            change Code.wp _ _ _ ⟨_, _⟩ (w4.setCells p 0 [.bool true, .string (str ps), .int .i64 8, .int .i64 z, .int .i64 0, .int .i64 0])
            generalize w4.setCells p 0 [.bool true, .string (str ps), .int .i64 8, .int .i64 z, .int .i64 0, .int .i64 0] = w5 at *
            clear th9' a0 a1 r0 r1
            go_wp2_with fail
            refine hsp _ _ ?_
            clear hsp
            intro w6 g6
            obtain ⟨df, dcn⟩ := D
            obtain ⟨o10, th10⟩ := own_sets [.int .i64 df, .int .i64 dcn] 4 _ w6 (o9.grow g6) (by simp) (by simp [Value.oneCell'])
            have e10 : spl ([.bool true, .string (str ps), .int .i64 8, .int .i64 z, .int .i64 0, .int .i64 0] ++ (hidV x.hid ++ [.int .i64 x.mt, .bool x.trip, .slice wo wn wc])) 4 [.int .i64 df, .int .i64 dcn] = stV S { x with out := some ps } (.slice wo wn wc) := by
              unfold stV
              simp only [ho1]
              rfl
            rw [e10] at o10
            have KK : Keep [p] w4 (w6.setCells p 4 [.int .i64 df, .int .i64 dcn]) := (k9.trans (Keep.of_grow _ g6)).trans (Keep.setCells _ _ _ _)
            have hsto : Sto (w6.setCells p 4 [.int .i64 df, .int .i64 dcn]) p S { x with out := some ps } wo wn wc := {
              st := o10
              wr := s4.wr.keep KK (fun y hy hm => by simp at hm; subst hm; exact s4.ne hy)
              ne := s4.ne
              hok := s4.hok
              wok := s4.wok
              mt := s4.mt
              mh := s4.mh
              len := s4.len }
            have hg := hR4 _ _ _ _ hsto hlen.symm (KK.mono (by simp)) (fun y hy => .inl hy)
            have hsz10 : (Try.prog.info? 54).map (·.size) = some (#[.int .i64 df, .int .i64 dcn] : Array Value).size := i2
            have hal10 : (#[.int .i64 df, .int .i64 dcn] : Array Value).all (·.oneCell') = true := by simp [Value.oneCell']
            have th10' : w6.there p 4 (#[.int .i64 df, .int .i64 dcn] : Array Value).size := th10
            clear hR4 s4 o9 k9 o10 e10 KK hsto th10 b0 b1 ho1
            go_wp2_with (refine wpList_store_mid rfl 54 _ _ rfl p 4 #[.int .i64 df, .int .i64 dcn] rfl rfl th10' hsz10 hal10 ?_)
            exact hg
          · have d4 : (kd != 1) = true := by simpa using h4
            have d40 : (kd == 1) = false := by simpa using h4
            rw [if_neg h4] at hR1
            have hg := fun w' (g : Grow _ w') => hR1 w' (Keep.of_grow _ g)
            have Ho7 := Lib.hid o7
            clear hR1 s1 hsp o7
            go_enter Try.func19, Try.ntmps19
            go_wp2_with fail
            refine hwh _ _ ?_
            clear hwh
            intro w3 g3
            go_upto_region 6 with (fail)
            have g4 := Grow.alloc w3 (.cells #[.int .i64 8, .int .i64 ((S - 16 : Nat) : Int)] 54)
            have r0 : (w3.alloc (.cells #[.int .i64 8, .int .i64 ((S - 16 : Nat) : Int)] 54)).cell? ⟨w.heap.size + 1, 0, none⟩ = some (.int .i64 kd) := obj_cell ((g3.trans g4).block Ho7.out) 0 rfl
            have hg3 := hg _ (g3.trans g4)
            obtain ⟨w4, hw4⟩ : ∃ w4, w4 = w3.alloc (.cells #[.int .i64 8, .int .i64 ((S - 16 : Nat) : Int)] 54) := ⟨_, rfl⟩
            rw [← hw4] at r0 hg3 ⊢
            clear hg g3 g4 Ho7 hw4
            go_wp2_with fail
            exact hg3
        | some o =>
          rw [ho] at hR1
          simp only at hR1
          have c0' := c0 (.bool true) (by rw [ho]; rfl)
          have hlo2 := hlo1 (by rw [ho]; simp)
          have hhe2 := hhe1 (by rw [ho]; simp)
          clear hlo1 hhe1 c0 hsp hwh o7
          by_cases k2 : kd = 2
          · subst k2
            rw [if_pos (by decide)] at hR1
            clear s1 hhe2
            go_enter Try.func19, Try.ntmps19
            go_wp2_with fail
            refine hlo2 _ (hR1.mono fun k w' hg => ?_)
            clear hlo2 hR1
            go_wp2_with fail
            exact hg
          have e2 : (kd == 2) = false := by simpa using k2
          by_cases k3 : kd = 3
          · subst k3
            rw [if_pos (by decide)] at hR1
            clear s1 hhe2
            go_enter Try.func19, Try.ntmps19
            go_wp2_with fail
            refine hlo2 _ (hR1.mono fun k w' hg => ?_)
            clear hlo2 hR1
            go_wp2_with fail
            exact hg
          have e3 : (kd == 3) = false := by simpa using k3
          by_cases k4 : kd = 4
          · subst k4
            rw [if_pos (by decide)] at hR1
            clear s1 hhe2
            go_enter Try.func19, Try.ntmps19
            go_wp2_with fail
            refine hlo2 _ (hR1.mono fun k w' hg => ?_)
            clear hlo2 hR1
            go_wp2_with fail
            exact hg
          have e4 : (kd == 4) = false := by simpa using k4
          by_cases k9 : kd = 9
          · subst k9
            rw [if_pos (by decide)] at hR1
            clear s1 hhe2
            go_enter Try.func19, Try.ntmps19
            go_wp2_with fail
            refine hlo2 _ (hR1.mono fun k w' hg => ?_)
            clear hlo2 hR1
            go_wp2_with fail
            exact hg
          have e9 : (kd == 9) = false := by simpa using k9
          by_cases k5 : kd = 5
          · subst k5
            rw [if_neg (by decide), if_pos (by decide)] at hR1
            clear s1 hlo2
            go_enter Try.func19, Try.ntmps19
            go_wp2_with fail
            refine hhe2 _ (hR1.mono fun k w' hg => ?_)
            clear hhe2 hR1
            go_wp2_with fail
            exact hg
          have e5 : (kd == 5) = false := by simpa using k5
          by_cases k6 : kd = 6
          · subst k6
            rw [if_neg (by decide), if_pos (by decide)] at hR1
            clear s1 hlo2
            go_enter Try.func19, Try.ntmps19
            go_wp2_with fail
            refine hhe2 _ (hR1.mono fun k w' hg => ?_)
            clear hhe2 hR1
            go_wp2_with fail
            exact hg
          have e6 : (kd == 6) = false := by simpa using k6
          by_cases k7 : kd = 7
          · subst k7
            rw [if_neg (by decide), if_pos (by decide)] at hR1
            clear s1 hlo2
            go_enter Try.func19, Try.ntmps19
            go_wp2_with fail
            refine hhe2 _ (hR1.mono fun k w' hg => ?_)
            clear hhe2 hR1
            go_wp2_with fail
            exact hg
          have e7 : (kd == 7) = false := by simpa using k7
          by_cases k8 : kd = 8
          · subst k8
            rw [if_neg (by decide), if_pos (by decide)] at hR1
            clear s1 hlo2
            go_enter Try.func19, Try.ntmps19
            go_wp2_with fail
            refine hhe2 _ (hR1.mono fun k w' hg => ?_)
            clear hhe2 hR1
            go_wp2_with fail
            exact hg
          have e8 : (kd == 8) = false := by simpa using k8
          rw [if_neg (by omega), if_neg (by omega)] at hR1
          have hg := hR1 _ (Keep.refl _ _)
          clear hR1 s1 hlo2 hhe2
          go_enter Try.func19, Try.ntmps19
          go_wp2_with fail
          exact hg
  · have d1 : (kk != 1) = true := by simpa using h1
    have d10 : (kk == 1) = false := by simpa using h1
    rw [if_pos (.inl h1)] at hR1
    have hg := hR1 _ (Keep.refl _ _)
    clear hR1 s1 hlo1 hhe1 c0 h1 o7
    go_enter Try.func19, Try.ntmps19
    go_wp2_with fail
    exact hg
end Go.Proofs.Ytgchbcopbkoomaa
