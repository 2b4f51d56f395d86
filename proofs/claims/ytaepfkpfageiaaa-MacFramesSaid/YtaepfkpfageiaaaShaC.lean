/- sha.Constants. -/
import Derived.Test.YtaepfkpfageiaaaShaP
import Derived.Test.YtaepfkpfageiaaaShaM
namespace Go.Proofs.Ytaepfkpfageiaaa
open Go Go.RowKit

def arrN (N : Nat) (W : List Nat) : List Value := W.map U ++ List.replicate (N - W.length) (U 0)
theorem arrN_next (N : Nat) (W : List Nat) (x : Nat) (h : W.length < N) : arrN N (W ++ [x]) = (arrN N W).set W.length (U x) := by
  unfold arrN
  rw [List.set_append_right _ _ (by simp)]
  obtain ⟨k, hk⟩ : ∃ k, N - W.length = k + 1 := ⟨N - W.length - 1, by omega⟩
  rw [List.map_append, List.length_append, hk, List.replicate_succ]
  simp only [List.length_map, Nat.sub_self, List.set_cons_zero, List.map_cons, List.map_nil, List.append_assoc, List.cons_append, List.nil_append, List.length_singleton]
  rw [show N - (W.length + 1) = k by omega]
theorem putN_next {w : World} {e : TypeId} {N g : Nat} {W : List Nat} (o : Own w e 1 (some ⟨g, 0, none⟩) N N (arrN N W)) (h : W.length < N) (x : Nat) :
    Own (w.setCell ⟨g, W.length, none⟩ (.int .u32 (x : Int))) e 1 (some ⟨g, 0, none⟩) N N (arrN N (W ++ [x])) := by
  obtain ⟨g', u, e', -, -, hs⟩ := own_put o (i := W.length) (by omega)
  cases e'
  rw [arrN_next N W x h]
  exact hs (U x) rfl
/-- A whole array stored. -/
theorem own_setCells {e : TypeId} {g n : Nat} : ∀ (vs : List Value) (o : Nat) (xs : List Value) (w : World), Own w e 1 (some ⟨g, 0, none⟩) n n xs → o + vs.length = n → (∀ v ∈ vs, v.oneCell' = true) → Own (w.setCells g o vs) e 1 (some ⟨g, 0, none⟩) n n (xs.take o ++ vs)
  | [], o, xs, w, h, hl, _ => by
    have := h.row.1
    simp only [List.length_nil, Nat.add_zero] at hl
    rw [List.take_of_length_le (by omega), List.append_nil]
    exact h
  | v :: r, o, xs, w, h, hl, h1 => by
    have hx := h.row.1
    simp only [List.length_cons] at hl
    obtain ⟨g', u, e', -, -, hs⟩ := own_put h (i := o) (by omega)
    cases e'
    have := own_setCells r (o + 1) (xs.set o v) (w.setCell ⟨g, o, none⟩ v) (hs v (h1 v (by simp))) (by omega) (fun x hx => h1 x (by simp [hx]))
    rw [World.setCells]
    rwa [show (xs.set o v).take (o + 1) = xs.take o ++ [v] by rw [List.take_add_one, List.take_set_of_le (by omega), List.getElem?_set_self (by omega)]; rfl, List.append_assoc] at this
theorem exec_store {P : Program} {t ty : TypeId} {a x : Operand} {pos : String} {after : Array Edge} {gd : Option (Nat × Bool)} {ρ : Operand → Value} {w w' : World} (h : (Instr.storeAt t (ρ a) (ρ x)).run P w = .ok () w') :
    (execOp ρ ⟨none, .store t a x, ty, pos, after, gd⟩).run P w = .ok .skip w' := by
  have : execOp ρ ⟨none, .store t a x, ty, pos, after, gd⟩ = (do Instr.storeAt t (ρ a) (ρ x); pure Next.skip) := rfl
  rw [this, Sem.run_bind, h]; rfl
theorem oneU (X : List Nat) : ∀ v ∈ X.map U, v.oneCell' = true := fun v hv => by
  obtain ⟨x, -, rfl⟩ := List.mem_map.1 hv; rfl
/-- .. the step: it is there as it was. -/
theorem store_whole {P : Program} {t : TypeId} {g n : Nat} {X : List Nat} {w : World} (hX : X.length = n) (o : Own w t 1 (some ⟨g, 0, none⟩) n n (X.map U)) (hi : (P.info? t).map (·.size) = some n) :
    (Instr.storeAt t (.pointer (some ⟨g, 0, none⟩)) (.agg (X.map U).toArray)).run P w = .ok () (w.setCells g 0 (X.map U)) ∧ Own (w.setCells g 0 (X.map U)) t 1 (some ⟨g, 0, none⟩) n n (X.map U) ∧ Keep [g] w (w.setCells g 0 (X.map U)) := by
  refine ⟨?_, ?_, Keep.setCells _ _ _ _⟩
  · have := run_storeAt_mid (P := P) w g 0 t (X.map U).toArray (fun j hj => by
      have hj' : j < n := by simpa [hX] using hj
      obtain ⟨g3, v, eg, hv, hfz, -⟩ := own_put o (i := j) (by omega)
      cases eg
      rw [Nat.zero_add]
      exact ⟨by rw [hv]; rfl, hfz⟩) (by rw [hi]; simp [hX]) (by
        rw [Array.all_eq_true_iff_forall_mem]
        intro v hv
        exact oneU X v (by simpa using hv))
    simpa using this
  · have := own_setCells (X.map U) 0 (X.map U) w o (by simp [hX]) (oneU X)
    simpa using this
theorem results_mid2 {P : Program} {fn : Func} {p p2 : Tmp} {ty ty2 : TypeId} (h : fn.results = #[.cell p ty, .cell p2 ty2]) (tmps : Array Value) (w : World) (g g2 : Nat) (cs cs2 : List Value)
    (hp : tmps.getD p undef = .pointer (some ⟨g, 0, none⟩)) (hp2 : tmps.getD p2 undef = .pointer (some ⟨g2, 0, none⟩)) (h1 : (loadVar ty ⟨g, 0, none⟩).run P w = .ok (.agg cs.toArray) w) (h2 : (loadVar ty2 ⟨g2, 0, none⟩).run P w = .ok (.agg cs2.toArray) w) :
    (results fn tmps).run P w = .ok (.tuple #[.agg cs.toArray, .agg cs2.toArray]) w := by
  have hp' : tmps[p]?.getD undef = .pointer (some ⟨g, 0, none⟩) := by simpa using hp
  have hp2' : tmps[p2]?.getD undef = .pointer (some ⟨g2, 0, none⟩) := by simpa using hp2
  simp [results, h, hp', hp2', asAddr, h1, h2]
def rt2 (p : Nat) : Nat := rootF (p * 18446744073709551616) 2 37 0 % 4294967296
def rt3 (p : Nat) : Nat := rootF (p * 79228162514264337593543950336) 3 37 0 % 4294967296
/-- What it begins with, and what its rounds add. -/
def Hs : List Nat := ((pl 312).take 8).map rt2
def Ks : List Nat := ((pl 312).take 64).map rt3

set_option maxRecDepth 100000 in
set_option maxHeartbeats 2000000 in
theorem constC (w : World) (R : Ending → World → Prop) (hR : ∀ w', Grow w w' → R (.returned (.tuple #[.agg (Hs.map U).toArray, .agg (Ks.map U).toArray])) w') :
    Calls Try.prog 79 #[] w R := by
  have hp8 := primesC 8 (by omega) pl312
  have hp64 := primesC 64 (by omega) pl312
  have hlt : ∀ x ∈ pl 312, x < 512 := fun x h => by have := pl_ge 312 x h; omega
  have c2 : ∀ p, p < 512 → ∀ (w : World) (R : Ending → World → Prop), R (.returned (.int .u32 ((rt2 p : Nat) : Int))) w → Calls Try.prog 85 #[.int .u64 (p : Int), .int .i64 2] w R := fun p h w R hR => root2 p h w R hR
  have c3 : ∀ p, p < 512 → ∀ (w : World) (R : Ending → World → Prop), R (.returned (.int .u32 ((rt3 p : Nat) : Int))) w → Calls Try.prog 85 #[.int .u64 (p : Int), .int .i64 3] w R := fun p h w R hR => root3 p h w R hR
  have hl8 : ((pl 312).take 8).length = 8 := by rw [List.length_take, pl312]; rfl
  have hl64 : ((pl 312).take 64).length = 64 := by rw [List.length_take, pl312]; rfl
  have hlt8 : ∀ x ∈ (pl 312).take 8, x < 512 := fun x h => hlt x (List.mem_of_mem_take h)
  have hlt64 : ∀ x ∈ (pl 312).take 64, x < 512 := fun x h => hlt x (List.mem_of_mem_take h)
  unfold Hs Ks at hR
  obtain ⟨P8, e8⟩ : ∃ P, P = (pl 312).take 8 := ⟨_, rfl⟩
  obtain ⟨P64, e64⟩ : ∃ P, P = (pl 312).take 64 := ⟨_, rfl⟩
  simp only [← e8] at hp8 hl8 hlt8 hR
  simp only [← e64] at hp64 hl64 hlt64 hR
  generalize rt2 = r2 at c2 hR
  generalize rt3 = r3 at c3 hR
  clear e8 e64 hlt
  have o0 : Own (w.alloc (.cells (List.replicate 8 (U 0)).toArray 77)) 77 1 (some ⟨w.heap.size, 0, none⟩) 8 8 (arrN 8 []) := Own.made (n := 8) (heap_alloc_new w _) rfl (by decide) (by simp [U, Value.oneCell'])
  have o0' := o0.grow (Grow.alloc _ (.cells (List.replicate 64 (U 0)).toArray 79))
  have o1 : Own ((w.alloc (.cells (List.replicate 8 (U 0)).toArray 77)).alloc (.cells (List.replicate 64 (U 0)).toArray 79)) 79 1 (some ⟨w.heap.size + 1, 0, none⟩) 64 64 (arrN 64 []) := by
    have := Own.made (n := 64) (sz := 1) (heap_alloc_new (w.alloc (.cells (List.replicate 8 (U 0)).toArray 77)) (.cells (List.replicate 64 (U 0)).toArray 79)) rfl (by decide) (by simp [U, Value.oneCell'])
    rwa [show (w.alloc (.cells (List.replicate 8 (U 0)).toArray 77)).heap.size = w.heap.size + 1 from Array.size_push _] at this
  have g1 : Grow w ((w.alloc (.cells (List.replicate 8 (U 0)).toArray 77)).alloc (.cells (List.replicate 64 (U 0)).toArray 79)) := (Grow.alloc w _).trans (Grow.alloc _ _)
  obtain ⟨q, hq⟩ : ∃ q, q = w.heap.size := ⟨_, rfl⟩
  clear o0
  go_enter Try.func79, Try.ntmps79
  go_wp2_with fail
  change Calls _ _ _ ((w.alloc (.cells (List.replicate 8 (U 0)).toArray 77)).alloc (.cells (List.replicate 64 (U 0)).toArray 79)) _
  generalize ((w.alloc (.cells (List.replicate 8 (U 0)).toArray 77)).alloc (.cells (List.replicate 64 (U 0)).toArray 79)) = w1 at *
  rw [← hq] at o0' o1 ⊢
  have Hq := Lib.hid hq
  clear hq
  refine hp8 w1 _ ?_
  intro ao cap w2 oP g2 fP
  have o0b := o0'.grow g2
  have o1b := o1.grow g2
  have g12 := g1.trans g2
  have qo := o0'.lt q (by simp [blk])
  have qo1 := o1.lt (q + 1) (by simp [blk])
  clear o0' o1
  go_wp2_with fail
  go_loopw [8] (fun vj wr => ∃ j : Nat, vj = .int .i64 (j : Int) ∧ j ≤ 8 ∧ Own wr 77 1 (some ⟨q, 0, none⟩) 8 8 (arrN 8 ((P8.take j).map r2)) ∧ Keep [q] w2 wr) (fun vj _ => 8 - (intOf vj).toNat)
  case atStart => exact ⟨0, by simp, by omega, by simpa using o0b, Keep.refl _ _⟩
  case round =>
    obtain ⟨j, rfl, hj, oj, kj⟩ := hrel
    by_cases hj8 : j < 8
    · obtain ⟨gp, offp, eg, hcs⟩ := (oP.keep kj (fun g hg => by have := fP g hg; simp; omega)).sl.hat (by omega)
      subst eg
      have hjp : j < P8.length := by omega
      have c1 := hcs.at (i := j) (v := V64 P8[j]) (by simp [hjp])
      have hp5 := hlt8 P8[j] (List.getElem_mem hjp)
      have htl : ((P8.take j).map r2).length = j := by simp; omega
      have hnx := putN_next oj (by omega) (r2 P8[j])
      rw [htl, show (P8.take j).map r2 ++ [r2 P8[j]] = (P8.take (j + 1)).map r2 by rw [List.take_add_one, List.getElem?_eq_getElem hjp, List.map_append]; rfl] at hnx
      obtain ⟨g3, v, eg, hv, hfz, -⟩ := own_put oj (i := j) (by omega)
      cases eg
      have kj2 := kj.trans (Keep.setCell (fp := [q]) wr ⟨q, j, none⟩ (by simp) (.int .u32 ((r2 P8[j] : Nat) : Int)))
      obtain ⟨y, hy⟩ : ∃ y, y = P8[j] := ⟨_, rfl⟩
      rw [← hy] at c1 hp5 hnx kj2
      have hcc := c2 y hp5
      simp only [V64] at c1
      clear hy hcs htl oj
      go_wp2_with fail
      refine hcc _ _ ?_
      go_wp2_with fail
      go_roundw
      case rel => exact ⟨j + 1, by go_num, by omega, hnx, kj2⟩
      case measure => simp [intOf]; omega
    · obtain rfl : j = 8 := by omega
      rw [show arrN 8 ((P8.take 8).map r2) = (P8.map r2).map U by rw [List.take_of_length_le (by omega)]; unfold arrN; simp [hl8]] at oj
      have o1c := o1b.keep kj (by simp [blk])
      have g3 := g12.then kj (fun x hx => by simp at hx; have := Hq.out; omega)
      have z2 := g2.size
      have z3 := kj.size
      obtain ⟨w3, hw3⟩ : ∃ w3, w3 = wr := ⟨_, rfl⟩
      rw [← hw3] at oj o1c g3 z3 ⊢
      clear hw3 kj o0b o1b oP hj hj8
      go_wp2_with fail
      refine hp64 w3 _ ?_
      intro ao2 cap2 w4 oQ g4 fQ
      have o0d := oj.grow g4
      have o1d := o1c.grow g4
      have g34 := g3.trans g4
      clear oj o1c
      go_wp2_with fail
      go_loopw [20] (fun vj wr => ∃ j : Nat, vj = .int .i64 (j : Int) ∧ j ≤ 64 ∧ Own wr 79 1 (some ⟨q + 1, 0, none⟩) 64 64 (arrN 64 ((P64.take j).map r3)) ∧ Keep [q + 1] w4 wr) (fun vj _ => 64 - (intOf vj).toNat)
      case atStart => exact ⟨0, by simp, by omega, by simpa using o1d, Keep.refl _ _⟩
      case round =>
        obtain ⟨j, rfl, hj, oj, kj⟩ := hrel
        by_cases hj8 : j < 64
        · obtain ⟨gp, offp, eg, hcs⟩ := (oQ.keep kj (fun g hg => by have := fQ g hg; simp; omega)).sl.hat (by omega)
          subst eg
          have hjp : j < P64.length := by omega
          have c1 := hcs.at (i := j) (v := V64 P64[j]) (by simp [hjp])
          have hp5 := hlt64 P64[j] (List.getElem_mem hjp)
          have htl : ((P64.take j).map r3).length = j := by simp; omega
          have hnx := putN_next oj (by omega) (r3 P64[j])
          rw [htl, show (P64.take j).map r3 ++ [r3 P64[j]] = (P64.take (j + 1)).map r3 by rw [List.take_add_one, List.getElem?_eq_getElem hjp, List.map_append]; rfl] at hnx
          obtain ⟨g3, v, eg, hv, hfz, -⟩ := own_put oj (i := j) (by omega)
          cases eg
          have kj2 := kj.trans (Keep.setCell (fp := [q + 1]) wr ⟨q + 1, j, none⟩ (by simp) (.int .u32 ((r3 P64[j] : Nat) : Int)))
          obtain ⟨y, hy⟩ : ∃ y, y = P64[j] := ⟨_, rfl⟩
          rw [← hy] at c1 hp5 hnx kj2
          have hcc := c3 y hp5
          simp only [V64] at c1
          clear hy hcs htl oj
          go_wp2_with fail
          refine hcc _ _ ?_
          go_wp2_with fail
          go_roundw
          case rel => exact ⟨j + 1, by go_num, by omega, hnx, kj2⟩
          case measure => simp [intOf]; omega
        · obtain rfl : j = 64 := by omega
          rw [show arrN 64 ((P64.take 64).map r3) = (P64.map r3).map U by rw [List.take_of_length_le (by omega)]; unfold arrN; simp [hl64]] at oj
          have o0e := o0d.keep kj (by simp [blk])
          have g5 := g34.then kj (fun x hx => by simp at hx; have := Hq.out; omega)
          obtain ⟨X8, hX8⟩ : ∃ X, X = P8.map r2 := ⟨_, rfl⟩
          obtain ⟨X64, hX64⟩ : ∃ X, X = P64.map r3 := ⟨_, rfl⟩
          rw [← hX8] at o0e hR
          rw [← hX64] at oj hR
          have hx8 : X8.length = 8 := by rw [hX8]; simpa using hl8
          have hx64 : X64.length = 64 := by rw [hX64]; simpa using hl64
          clear hX8 hX64 kj oQ o0d o1d
          go_wp2_with fail
          let pp : World → Prop := fun w' => Own w' 77 1 (some ⟨q, 0, none⟩) 8 8 (X8.map U) ∧ Own w' 79 1 (some ⟨q + 1, 0, none⟩) 64 64 (X64.map U)
          refine wp_region_R (segR [q, q + 1] (fun _ => [q, q + 1]) pp wr [2, 3] (fun _ _ _ _ => True) (fun _ _ h => h) (fun _ _ _ _ _ _ _ _ _ => trivial)) (by kernel_rfl) ⟨⟨wr.drew, Keep.drew _ wr, ⟨o0e.keep (Keep.drew [] wr) (by simp), oj.keep (Keep.drew [] wr) (by simp)⟩⟩, rfl⟩ ?_
          unfold segR
          have i8 : (Try.prog.info? 77).map (·.size) = some 8 := by kernel_rfl
          have i64 : (Try.prog.info? 79).map (·.size) = some 64 := by kernel_rfl
          have ld8 : ∀ w', pp w' → (Instr.loadAt 77 (.pointer (some ⟨q, 0, none⟩))).run Try.prog w' = .ok (.agg (X8.map U).toArray) w' := fun w' h => by
            obtain ⟨g', off', eg, hc⟩ := h.1.sl.hat (by omega)
            cases eg
            exact run_ld Try.underlying77 rfl (by rw [List.length_map, hx8]; exact i8) hc
          have ld64 : ∀ w', pp w' → (Instr.loadAt 79 (.pointer (some ⟨q + 1, 0, none⟩))).run Try.prog w' = .ok (.agg (X64.map U).toArray) w' := fun w' h => by
            obtain ⟨g', off', eg, hc⟩ := h.2.sl.hat (by omega)
            cases eg
            exact run_ld Try.underlying79 rfl (by rw [List.length_map, hx64]; exact i64) hc
          refine wpV_val rfl rfl rfl rfl rfl _ (fun w hC => by obtain ⟨n, rfl⟩ := hC; exact exec_load (ld8 _ n.p)) ?_
          simp only [List.set_cons_succ, List.set_cons_zero]
          refine wpV_val rfl rfl rfl rfl rfl _ (fun w hC => by obtain ⟨n, rfl⟩ := hC; exact exec_load (ld64 _ n.p)) ?_
          simp only [List.set_cons_succ, List.set_cons_zero]
          refine wpV_make rfl rfl rfl [] rfl (fun w7 hC _ => ?_) (fun v w7 hC _ _ => ?_)
          · obtain ⟨⟨w7, hk, h8, h64⟩, rfl⟩ := hC
            obtain ⟨r1, r2, r3⟩ := store_whole (P := Try.prog) hx8 h8 i8
            unfold yields
            rw [exec_store r1]
            exact ⟨⟨r3.mono (by simp), r2, h64.keep r3 (by simp [blk])⟩, trivial⟩
          simp only [Act.put]
          refine wpV_make rfl rfl rfl [] rfl (fun w7 hC _ => ?_) (fun v w7 hC _ _ => ?_)
          · obtain ⟨⟨w7, hk, h8, h64⟩, rfl⟩ := hC
            obtain ⟨r1, r2, r3⟩ := store_whole (P := Try.prog) hx64 h64 i64
            unfold yields
            rw [exec_store r1]
            exact ⟨⟨r3.mono (by simp), h8.keep r3 (by simp [blk]), r2⟩, trivial⟩
          simp only [Act.put]
          refine wpV_nil ?_
          intro w8 hC _
          obtain ⟨⟨w8, hk8, h8, h64⟩, rfl⟩ := hC
          have g8 := g5.then hk8 (fun x hx => by simp at hx; have := Hq.out; omega)
          have hc8 : w8.rangeAt q 0 (X8.map U) := fun j v hj => by
            obtain ⟨g', off', eg, hc⟩ := h8.sl.hat (by omega)
            cases eg
            exact hc.at hj
          have hc64 : w8.rangeAt (q + 1) 0 (X64.map U) := fun j v hj => by
            obtain ⟨g', off', eg, hc⟩ := h64.sl.hat (by omega)
            cases eg
            exact hc.at hj
          have lv8 := run_loadVar_mid (P := Try.prog) w8 q 0 77 _ _ hc8 Try.underlying77 rfl (by rw [List.length_map, hx8]; exact i8)
          have lv64 := run_loadVar_mid (P := Try.prog) w8 (q + 1) 0 79 _ _ hc64 Try.underlying79 rfl (by rw [List.length_map, hx64]; exact i64)
          have hres := results_mid2 (P := Try.prog) Try.results79
          clear ld8 ld64
          go_wp2_with fail
          exact bodyPost_ret (hres _ w8 q (q + 1) _ _ rfl rfl lv8 lv64) rfl (hR _ g8)
end Go.Proofs.Ytaepfkpfageiaaa
